/- Contracts over this seat's translation. Condition: each contract's own. -/
import Derived.Test.YtfdklbimdkaaiaaD
import Derived.ProofKit
import Derived.Laws.Bits64b
import Derived.Lib.Mul64
import Derived.OpenShut
import Derived.Below
import Derived.ChangeSame
import Derived.Deep.Modes
import Derived.Lib.SmallJoins
import Derived.ChangeSlices
import Derived.WalkKit
import Derived.WalkSpells
import Derived.WalkLawsBesides
import Derived.Deep.QuietTactic
import Derived.BigQuiet
import Derived.Deep.RegionHeld3
import Derived.Deep.RegionWith
import Derived.Deep.RegionLaw
import Derived.Deep.AppendLies
import Derived.Laws.CopyOwn
import Derived.Deep.DeepCutAuto
import Derived.Deep.OwnRows
import Derived.Deep.LoopGhost
import Derived.Deep.DeepFit
import Derived.Deep.DeepMust
import Derived.Deep.Draws
import Derived.Deep.CutRange
import Derived.Maps.AppendAt
import Derived.Lib.Hide
import Derived.StillTailTactics
import Derived.Laws.MakeOwn
import Derived.Deep.Matrix
set_option linter.unusedVariables false
open Go Go.RowKit
namespace Go.Proofs.Ytfdklbimdkaaiaa
/-! ### Products of series -/
theorem stepF_at (m : Int) (a b : Nat → Int) (i j : Nat) : stepF m a b i j (i + j) = cvTo m a b i (i + j) := by simp [stepF, show ¬ i + j < i by omega]
theorem times_step (m : Int) (a b : Nat → Int) (d i j : Nat) : (lst d (stepF m a b i j)).set (i + j) ((cvTo m a b i (i + j) + a i * b j % m) % m) = lst d (stepF m a b i (j + 1)) := by
  rw [set_lst]
  apply lst_congr
  intro k _
  have e := cvTo_succ m a b i (i + j)
  rw [show i + j - i = j by omega] at e
  rw [e, stepF_next]
theorem times_step' (m : Int) (a b : Nat → Int) (d i j : Nat) : (lst d (stepF m a b i j)).set (i + j) ((cvTo m a b i (i + j) + a i * b j) % m) = lst d (stepF m a b i (j + 1)) := by
  rw [set_lst]
  apply lst_congr
  intro k _
  have e := cvTo_succ' m a b i (i + j)
  rw [show i + j - i = j by omega] at e
  rw [e, stepF_next]
theorem times_row (m : Int) (a b : Nat → Int) (d i r : Nat) (h : i + r = d) : lst d (stepF m a b i r) = lst d (stepF m a b (i + 1) 0) := by
  apply lst_congr
  intro k hk
  rw [show r = d - i by omega]
  exact stepF_row m a b d i k hk
theorem times_start (m : Int) (a b : Nat → Int) (d : Nat) : List.replicate d (0 : Int) = lst d (stepF m a b 0 0) := by
  rw [replicate_lst]
  exact lst_congr fun k _ => (stepF_zero m a b k).symm
theorem times_all (m : Int) (xs ys : List Int) (d : Nat) : lst d (stepF m (co xs) (co ys) d 0) = timesL m d xs ys := lst_congr fun k hk => stepF_all m _ _ d k hk
set_option maxRecDepth 8000 in
set_option maxHeartbeats 4000000 in
theorem times_any (w : World) (m m2 : Int) (v v2 : Value) (xs ys zs : List Int) (d : Nat) (B B2 : Nat) (hv : OwnI w B v xs) (hv2 : OwnI w B2 v2 ys) (hm : 2 ≤ m) (hm' : m ≤ 3000000000) (hn : NumL m xs) (hn2 : NumL m ys) (hd : xs.length = d) (hd2 : ys.length = d) (hl0 : 1 ≤ d) (hl : d ≤ 1000) (hz : timesL m d xs ys = zs) :
    Calls Try.prog 111 #[.agg #[.int .i64 m, v], .agg #[.int .i64 m2, v2]] w (NewS w m zs) := by
  obtain ⟨A, cp, e0, hc1, hc2, hA⟩ := hv.open_
  obtain ⟨A2, cp2, e2, hc3, hc4, hA2⟩ := hv2.open_
  rw [hd] at e0 hc1 hA
  rw [hd2] at e2 hc3 hA2
  subst e0 e2
  unfold maxLen at hc2 hc4
  have HZ := Lib.hid hz
  have HN := Lib.hid hn
  have HN2 := Lib.hid hn2
  clear hz hn hn2 hv hv2 hd hd2
  go_enter Try.func111, Try.ntmps111
  go_upto_region 1 with fail
  go_cut [5] from 10 to 14 (fun s wx => ∃ bo g : Nat, s = .pointer (some ⟨bo, 0, none⟩) ∧ w.heap.size + 3 ≤ bo ∧ bo < wx.heap.size ∧ w.heap.size + 3 ≤ g ∧ g < wx.heap.size ∧ bo ≠ g ∧ Hid (Bf wx bo (.int .i64 m) (.slice (some ⟨g, 0, none⟩) d d)) ∧ Hid (RowI wx g d (List.replicate d 0)) ∧ Hid (Bf wx w.heap.size (.int .i64 m) (.slice A d cp)) ∧ Hid (Bf wx (w.heap.size + 1) (.int .i64 m2) (.slice A2 d cp2)) ∧ Hid (Bf wx (w.heap.size + 2) (.int .i64 0) (.slice none 0 0)) ∧ Hid (Below w.heap.size w wx))
  case first =>
    go_region_held3 (fun w' => w'.cell? ⟨w.heap.size, 0, none⟩ = some (.int .i64 m) ∧ w'.cell? ⟨w.heap.size, 1, none⟩ = some (.slice A d cp))
      (first | go_keep | (refine (fun (h : Bf _ w.heap.size (.int .i64 m) (.slice A d cp)) => ⟨h.1.2.1, h.1.2.2⟩) ((Bf.alloc1 w _ _ 26).keep ?_); (repeat (first | assumption | exact Below.refl _ _ | (refine Below.alloc ?_ ?_ _; rotate_left; (focus (first | exact Nat.le_refl _ | omega | (simp; done) | (simp; omega)))) | (refine Below.setCell ?_ ?_ _; rotate_left; (focus (first | exact Nat.le_refl _ | omega | (simp; done) | (simp; omega)))) | refine below_drew ?_ | refine below_drewN ?_ _ | (refine Below.trans ?_ (Below.mono hb2 ?_); rotate_left; (focus (first | exact Nat.le_refl _ | omega | (simp; done) | (simp; omega)))) | (refine Below.trans ?_ (Below.mono hb1 ?_); rotate_left; (focus (first | exact Nat.le_refl _ | omega | (simp; done) | (simp; omega))))))))
      (first | (go_at_call 54; refine (iDegree_any m A d cp _ (by omega)).mono ?_; rintro e w1 ⟨rfl, hb1⟩; have P1 : Bf w1 w.heap.size (.int .i64 m) (.slice A d cp) := ((Bf.alloc1 w _ _ 26).keep (by (repeat (first | assumption | exact Below.refl _ _ | (refine Below.alloc ?_ ?_ _; rotate_left; (focus (first | exact Nat.le_refl _ | omega | (simp; done) | (simp; omega)))) | (refine Below.setCell ?_ ?_ _; rotate_left; (focus (first | exact Nat.le_refl _ | omega | (simp; done) | (simp; omega)))) | refine below_drew ?_ | refine below_drewN ?_ _ | (refine Below.trans ?_ (Below.mono hb1 ?_); rotate_left; (focus (first | exact Nat.le_refl _ | omega | (simp; done) | (simp; omega)))))))); have p1a := P1.1.2.1; have p1b := P1.1.2.2; obtain ⟨hc1, hf1⟩ := bcell hb1; have z1 := hb1.size; (try simp at z1); have z1p : w.heap.size < w1.heap.size := (by omega); (first | (have y1 : w.heap.size + 3 < w1.heap.size := (by omega)) | skip)) | (go_at_call 60; refine (zero_any _ m _ d (by omega) (by omega)).mono ?_; rintro e w2 ⟨g, rfl, hg, hr2, hb2⟩; have P2 : Bf w2 w.heap.size (.int .i64 m) (.slice A d cp) := ((Bf.alloc1 w _ _ 26).keep (by (repeat (first | assumption | exact Below.refl _ _ | (refine Below.alloc ?_ ?_ _; rotate_left; (focus (first | exact Nat.le_refl _ | omega | (simp; done) | (simp; omega)))) | (refine Below.setCell ?_ ?_ _; rotate_left; (focus (first | exact Nat.le_refl _ | omega | (simp; done) | (simp; omega)))) | refine below_drew ?_ | refine below_drewN ?_ _ | (refine Below.trans ?_ (Below.mono hb2 ?_); rotate_left; (focus (first | exact Nat.le_refl _ | omega | (simp; done) | (simp; omega)))) | (refine Below.trans ?_ (Below.mono hb1 ?_); rotate_left; (focus (first | exact Nat.le_refl _ | omega | (simp; done) | (simp; omega)))))))); have p2a := P2.1.2.1; have p2b := P2.1.2.2; obtain ⟨hc2, hf2⟩ := bcell hb2; have z2 := hb2.size; (try simp at z2); (try simp at hg); have z2p : w.heap.size < w2.heap.size := (by omega)))
    all_goals
      go_wp2_with fail
      go_meet
      have zg := hr2.lt
      have KK : Hid (Below w.heap.size w w2) := by (repeat (first | assumption | exact Below.refl _ _ | (refine Below.alloc ?_ ?_ _; rotate_left; (focus (first | exact Nat.le_refl _ | omega | (simp; done) | (simp; omega)))) | (refine Below.setCell ?_ ?_ _; rotate_left; (focus (first | exact Nat.le_refl _ | omega | (simp; done) | (simp; omega)))) | refine below_drew ?_ | refine below_drewN ?_ _ | (refine Below.trans ?_ (Below.mono hb2 ?_); rotate_left; (focus (first | exact Nat.le_refl _ | omega | (simp; done) | (simp; omega)))) | (refine Below.trans ?_ (Below.mono hb1 ?_); rotate_left; (focus (first | exact Nat.le_refl _ | omega | (simp; done) | (simp; omega))))))
      refine ⟨_, g, rfl, ?_, ?_, ?_, ?_, ?_, ?_, ?_, ?_, ?_, ?_,  ?_⟩
      · first | exact Nat.le_refl _ | omega | (simp; done) | (simp; omega)
      · first | omega | (simp; done) | (simp; omega) | (simp [World.setCell]; omega)
      · first | omega | (simp; omega)
      · first | omega | (simp; done) | (simp; omega) | (simp [World.setCell]; omega)
      · first | omega | (simp; omega)
      · first | exact Bf.alloc1 w2 _ _ _ | exact ((Bf.alloc1 w1 _ _ _).keep hb2).store2 | exact (((Bf.q4 (w := w)).keep (below_undrew hb1)).keep hb2).store2
      · first | exact hr2.alloc _ | exact (hr2.far (by first | omega | (simp; omega)) _).far (by first | omega | (simp; omega)) _
      · exact (Bf.q1 (w := w) (t := 26)).keep (by (repeat (first | assumption | exact Below.refl _ _ | (refine Below.alloc ?_ ?_ _; rotate_left; (focus (first | exact Nat.le_refl _ | omega | (simp; done) | (simp; omega)))) | (refine Below.setCell ?_ ?_ _; rotate_left; (focus (first | exact Nat.le_refl _ | omega | (simp; done) | (simp; omega)))) | refine below_drew ?_ | refine below_drewN ?_ _ | (refine Below.trans ?_ (Below.mono hb2 ?_); rotate_left; (focus (first | exact Nat.le_refl _ | omega | (simp; done) | (simp; omega)))) | (refine Below.trans ?_ (Below.mono hb1 ?_); rotate_left; (focus (first | exact Nat.le_refl _ | omega | (simp; done) | (simp; omega)))))))
      · exact (Bf.q2 (w := w) (t := 26) (t' := 26)).keep (by (repeat (first | assumption | exact Below.refl _ _ | (refine Below.alloc ?_ ?_ _; rotate_left; (focus (first | exact Nat.le_refl _ | omega | (simp; done) | (simp; omega)))) | (refine Below.setCell ?_ ?_ _; rotate_left; (focus (first | exact Nat.le_refl _ | omega | (simp; done) | (simp; omega)))) | refine below_drew ?_ | refine below_drewN ?_ _ | (refine Below.trans ?_ (Below.mono hb2 ?_); rotate_left; (focus (first | exact Nat.le_refl _ | omega | (simp; done) | (simp; omega)))) | (refine Below.trans ?_ (Below.mono hb1 ?_); rotate_left; (focus (first | exact Nat.le_refl _ | omega | (simp; done) | (simp; omega)))))))
      · exact (Bf.q3 (w := w) (t := 26) (t' := 26)).keep (by (repeat (first | assumption | exact Below.refl _ _ | (refine Below.alloc ?_ ?_ _; rotate_left; (focus (first | exact Nat.le_refl _ | omega | (simp; done) | (simp; omega)))) | (refine Below.setCell ?_ ?_ _; rotate_left; (focus (first | exact Nat.le_refl _ | omega | (simp; done) | (simp; omega)))) | refine below_drew ?_ | refine below_drewN ?_ _ | (refine Below.trans ?_ (Below.mono hb2 ?_); rotate_left; (focus (first | exact Nat.le_refl _ | omega | (simp; done) | (simp; omega)))) | (refine Below.trans ?_ (Below.mono hb1 ?_); rotate_left; (focus (first | exact Nat.le_refl _ | omega | (simp; done) | (simp; omega)))))))
      · (repeat (first | assumption | exact Below.refl _ _ | (refine Below.alloc ?_ ?_ _; rotate_left; (focus (first | exact Nat.le_refl _ | omega | (simp; done) | (simp; omega)))) | (refine Below.setCell ?_ ?_ _; rotate_left; (focus (first | exact Nat.le_refl _ | omega | (simp; done) | (simp; omega)))) | refine below_drew ?_ | refine below_drewN ?_ _ | (refine Below.trans ?_ (Below.mono hb2 ?_); rotate_left; (focus (first | exact Nat.le_refl _ | omega | (simp; done) | (simp; omega)))) | (refine Below.trans ?_ (Below.mono hb1 ?_); rotate_left; (focus (first | exact Nat.le_refl _ | omega | (simp; done) | (simp; omega))))))
  case rest =>
    obtain ⟨bo, g, rfl, hbo1, hbo2, hg1, hg2, hne, HO, HR, HP, HP2, HQ, HB⟩ := hcut
    have p1 := HP.out.1.2.1
    have p2 := HP.out.1.2.2
    go_wp2
    go_loopw [18] (fun s wr => ∃ i : Nat, i ≤ d ∧ s = .int .i64 i ∧ Hid (Bf wr bo (.int .i64 m) (.slice (some ⟨g, 0, none⟩) d d)) ∧ Hid (RowI wr g d (lst d (stepF m (co xs) (co ys) i 0))) ∧ Hid (Bf wr w.heap.size (.int .i64 m) (.slice A d cp)) ∧ Hid (Bf wr (w.heap.size + 1) (.int .i64 m2) (.slice A2 d cp2)) ∧ Hid (Bf wr (w.heap.size + 2) (.int .i64 0) (.slice none 0 0)) ∧ Hid (Below w.heap.size w wr)) (fun s _ => d - (intOf s).toNat)
    case atStart => exact ⟨0, Nat.zero_le _, rfl, HO, (by unfold Hid; rw [← times_start]; exact HR.out), HP, HP2, HQ, HB⟩
    case round =>
      clear HO HR HP HP2 HQ HB p1 p2
      obtain ⟨i, hi, rfl, HO, HR, HP, HP2, HQ, HB⟩ := hrel
      have p1 := HP.out.1.2.1
      have p2 := HP.out.1.2.2
      have p3 := HP2.out.1.2.2
      have q1 := HQ.out.1.2.1
      have q2 := HQ.out.1.2.2
      have q3 := HQ.out.2.1
      have q4 := HQ.out.2.2
      have o1 := HO.out.1.2.1
      have o2 := HO.out.1.2.2
      by_cases hlt : i < d
      · obtain ⟨b, rfl, hb1, hb2, hcell, hfr⟩ := hA i hlt
        have hc0 : wr.cell? ⟨b, i, none⟩ = some (.int .i64 (co xs i)) := (HB.out.cell (p := ⟨b, i, none⟩) hb2).trans hcell
        have hnk : 0 ≤ co xs i ∧ co xs i < m := HN.out i
        obtain ⟨x, hx⟩ : ∃ x, x = co xs i := ⟨_, rfl⟩
        rw [← hx] at hc0 hnk
        have HX := Lib.hid hx
        obtain ⟨r, hr⟩ : ∃ r, i + r = d := ⟨d - i, by omega⟩
        have hr1 : (d : Int) - (i : Int) = (r : Int) := by omega
        have hr2 : r ≤ d := by omega
        have hr3 : (r : Int) ≤ (cp2 : Int) := by omega
        have HRr := Lib.hid hr
        have hrd : r + i ≤ d ∧ d ≤ r + i := by omega
        clear hx hcell hfr hr
        have hi0 : (0 : Int) ≤ (i : Int) := by omega
        have hi1 : (i : Int) < (d : Int) := by omega
        go_wp2
        clear hr1
        go_loopw [32] (fun s w2 => ∃ j : Nat, j ≤ r ∧ s = .int .i64 j ∧ Hid (Bf w2 bo (.int .i64 m) (.slice (some ⟨g, 0, none⟩) d d)) ∧ Hid (RowI w2 g d (lst d (stepF m (co xs) (co ys) i j))) ∧ Hid (Bf w2 w.heap.size (.int .i64 m) (.slice (some ⟨b, 0, none⟩) d cp)) ∧ Hid (Bf w2 (w.heap.size + 1) (.int .i64 m2) (.slice A2 d cp2)) ∧ Hid (Bf w2 (w.heap.size + 2) (.int .i64 0) (.slice none 0 0)) ∧ Hid (Below w.heap.size w w2)) (fun s _ => r - (intOf s).toNat)
        case atStart => exact ⟨0, Nat.zero_le _, rfl, HO, HR, HP, HP2, HQ, HB⟩
        case round =>
          clear HO HR HP HP2 HQ HB p1 p2 p3 q1 q2 q3 q4 o1 o2 hc0
          obtain ⟨j, hj, rfl, HO, HR, HP, HP2, HQ, HB⟩ := hrel
          have p1 := HP.out.1.2.1
          have o2 := HO.out.1.2.2
          have zO := HO.out.1.1
          have zP := HP.out.1.1
          by_cases hlt2 : j < r
          · obtain ⟨b2, rfl, hb3, hb4, hcell2, hfr2⟩ := hA2 j (by omega)
            have hc1' : wr.cell? ⟨b2, j, none⟩ = some (.int .i64 (co ys j)) := (HB.out.cell (p := ⟨b2, j, none⟩) hb4).trans hcell2
            have hnj : 0 ≤ co ys j ∧ co ys j < m := HN2.out j
            have HS := Lib.hid (times_step' m (co xs) (co ys) d i j)
            have hd0 := HR.out.cell (k := i + j) (by rw [length_lst]; omega)
            have hf0 := HR.out.free (i + j)
            rw [getD_lst _ _ _ (by omega), stepF_at] at hd0
            have hcb := cvTo_bd (show 0 < m by omega) (co xs) (co ys) i (i + j)
            obtain ⟨y, hy⟩ : ∃ y, y = co ys j := ⟨_, rfl⟩
            rw [← hy] at hc1' hnj
            rw [← hy, ← HX.out] at HS
            generalize cvTo m (co xs) (co ys) i (i + j) = t at *
            clear hy hcell2 hfr2
            have hxy1 : 0 ≤ x * y % m := Int.emod_nonneg _ (by omega)
            have hxy2 : x * y % m < m := Int.emod_lt_of_pos _ (by omega)
            have hj0 : (0 : Int) ≤ (j : Int) := by omega
            have hj1 : (j : Int) < (r : Int) := by omega
            have v1 : IntKind.i64.wrap ((i : Int) + (j : Int)) = (i : Int) + (j : Int) := IntWalk.i64_in _ (by omega)
            have v2 : IntKind.i64.wrap (t + x * y % m) = t + x * y % m := IntWalk.i64_in _ (by omega)
            have v3 : (t + x * y % m).tmod m = (t + x * y % m) % m := Int.tmod_eq_emod_of_nonneg (by omega)
            have v4 : (0 : Int) ≤ (i : Int) + (j : Int) := by omega
            have v5 : (i : Int) + (j : Int) < (d : Int) := by omega
            have v6 : (m == 0) = false := by simp; omega
            have v8 : ¬ m = 0 := by omega
            have v7 : ((i : Int) + (j : Int)).toNat = i + j := by omega
            have ne1 : (⟨g, i + j, none⟩ : Addr) ≠ ⟨w.heap.size, 0, none⟩ := by first | (simp; done) | (simp; omega)
            have ne2 : (⟨g, i + j, none⟩ : Addr) ≠ ⟨bo, 1, none⟩ := by first | (simp; done) | (simp; omega)
            go_wp2
            go_still_tail 22, (by kernel_rfl)
            still_call ((mul_any m x y _ (by omega) (by omega) hnk.1 hnk.2 hnj.1 hnj.2).mono fun e w' h => ⟨h.1, h.2.symm⟩)
            repeat still_step
            refine wpStill_nil ?_
            change wpList _ _ _ _ _ wr.drew
            clear v1 v2 v3 v4 v5 v7
            go_wp2
            go_roundw
            case rel =>
              refine ⟨j + 1, by omega, by go_num, HO.out.setCell (by simp; omega) _, ?_, HP.out.setCell (by simp; omega) _, HP2.out.setCell (by simp; omega) _, HQ.out.setCell (by simp; omega) _, (by unfold Hid; (repeat (first | exact HB.out | refine below_drewN ?_ _ | refine below_drew ?_ | (refine Below.setCell ?_ ?_ _; rotate_left; focus (first | omega | (simp; done) | (simp; omega))))))⟩
              unfold Hid
              rw [← HS.out]
              exact HR.out.set_ (i + j) ((t + x * y) % m)
            case measure => simp [intOf]; omega
          · have hjr : j = r := by omega
            have hR : Hid (RowI wr g d (lst d (stepF m (co xs) (co ys) (i + 1) 0))) := by unfold Hid; rw [← times_row m _ _ d i r HRr.out, ← hjr]; exact HR.out
            clear hjr
            go_wp2
            go_roundw
            case rel => exact ⟨i + 1, by omega, by go_num, HO, hR, HP, HP2, HQ, HB⟩
            case measure => simp [intOf]; omega
      · have hid : i = d := by omega
        have hR : RowI wr g d zs := by rw [← HZ.out, ← times_all, ← hid]; rw [hid] at HR ⊢; exact HR.out
        have hly : Hid (zs.length = d) := by unfold Hid; rw [← HZ.out, length_timesL]
        clear hid
        go_wp2
        refine bodyPost_ret (v := .agg #[.int .i64 m, .slice (some ⟨g, 0, none⟩) d d]) (by simp [results, Try.results111, go_sem, q1, q2]) rfl ⟨some ⟨g, 0, none⟩, d, by rw [hly.out], ?_, ?_⟩
        · rw [hly.out]
          have := ((hR.far (p := ⟨w.heap.size + 2, 0, none⟩) (by simp; omega) (.int .i64 m)).far (p := ⟨w.heap.size + 2, 1, none⟩) (by simp; omega) (.slice (some ⟨g, 0, none⟩) d d)).own (B := w.heap.size) (by omega)
          rw [hly.out] at this
          exact this
        · exact (HB.out.setCell (by simp; omega) _).setCell (by simp; omega) _

/-! ### Products of lists (the other side) -/
theorem stepF_nil (m : Int) (a b : Nat → Int) (i j k : Nat) (h : a i = 0) : stepF m a b i j k = stepF m a b (i + 1) 0 k := by
  have e : cvTo m a b (i + 1) k = cvTo m a b i k := by unfold cvTo; simp [sumN, h]
  unfold stepF
  by_cases h1 : k < i
  · simp [h1, show k < i + 1 by omega]
  · by_cases h2 : k = i
    · subst h2; simp [cv, e]
    · simp [h1, show ¬ k < i + 1 by omega, e]
theorem stepF_short (m : Int) (a b : Nat → Int) (i j k : Nat) (h : ∀ t, j ≤ t → b t = 0) : stepF m a b i j k = stepF m a b (i + 1) 0 k := by
  unfold stepF
  by_cases h1 : k < i
  · simp [h1, show k < i + 1 by omega]
  · by_cases h3 : k < i + j
    · by_cases h2 : k = i
      · subst h2; simp [cv]; omega
      · simp [h1, h3, show ¬ k < i + 1 by omega]
    · have e : cvTo m a b (i + 1) k = cvTo m a b i k := by unfold cvTo; simp [sumN, h (k - i) (by omega)]
      by_cases h2 : k = i
      · subst h2; simp [cv, e, h3]
      · simp [h1, h3, show ¬ k < i + 1 by omega, e]
theorem sumN_ext {f : Nat → Int} {i : Nat} (h : ∀ j, i ≤ j → f j = 0) (k : Nat) (hk : i ≤ k) : sumN f k = sumN f i := by
  induction k with
  | zero => obtain rfl : i = 0 := by omega
            rfl
  | succ k ih =>
    by_cases e : i = k + 1
    · rw [e]
    · simp only [sumN]
      rw [ih (by omega), h k (by omega)]
      simp
theorem stepF_end (m : Int) (a b : Nat → Int) (i k : Nat) (h : ∀ j, i ≤ j → a j = 0) : stepF m a b i 0 k = cv m a b k := by
  unfold stepF
  by_cases h1 : k < i
  · simp [h1]
  · have : cvTo m a b i k = cv m a b k := by
      unfold cv cvTo
      rw [sumN_ext (f := fun i => a i * b (k - i)) (i := i) (fun j hj => by rw [h j hj]; simp) (k + 1) (by omega)]
    simp [h1, this]
theorem co_ge {xs : List Int} {j : Nat} (h : xs.length ≤ j) : co xs j = 0 := by
  unfold co
  rw [List.getD_eq_getElem?_getD, List.getElem?_eq_none h]; rfl
set_option maxRecDepth 8000 in
set_option maxHeartbeats 4000000 in
theorem l02Times_any (m : Int) (w : World) (v v2 : Value) (xs ys zs : List Int) (d : Int) (n : Nat) (B B2 : Nat) (hv : OwnI w B v xs) (hv2 : OwnI w B2 v2 ys) (hm : 2 ≤ m) (hm' : m ≤ 3000000000) (hn : NumL m xs) (hn2 : NumL m ys) (hl : xs.length ≤ 1000000) (hl2 : ys.length ≤ 1000000) (hd : d + 1 = (n : Int)) (hn0 : n ≤ 1000000) (hz : timesL m n xs ys = zs) :
    Calls Try.prog 109 #[.int .i64 m, v, v2, .int .i64 d] w (NewI w zs) := by
  obtain ⟨A, cp, e0, hc1, hc2, hA⟩ := hv.open_
  obtain ⟨A2, cp2, e2, hc3, hc4, hA2⟩ := hv2.open_
  subst e0 e2
  unfold maxLen at hc2 hc4
  have HZ := Lib.hid hz
  have HN := Lib.hid hn
  have HN2 := Lib.hid hn2
  clear hz hn hn2 hv hv2
  have hdn : IntKind.i64.wrap (d + 1) = (n : Int) := by rw [hd]; exact IntWalk.i64_in _ (by omega)
  have HD := Lib.hid hd
  have hd1 : d + 1 ≤ (n : Int) := by omega
  have hd2 : (n : Int) ≤ d + 1 := by omega
  clear hd
  go_enter Try.func109, Try.ntmps109
  go_wp2_with (at_make; refine makeI _ n (by rfl) (by rfl) (by first | rfl | simp) (by omega) ?_; intro w1 hr1 hb1 hs1; have HS := Lib.hid hs1; clear hs1 hdn)
  have hr2 : RowI w1 w.heap.size n (lst n (stepF m (co xs) (co ys) 0 0)) := by rw [← times_start]; simpa using hr1
  go_loopw [10] (fun s wr => ∃ i : Nat, i ≤ xs.length ∧ i ≤ n ∧ s = .int .i64 i ∧ Hid (RowI wr w.heap.size n (lst n (stepF m (co xs) (co ys) i 0))) ∧ Hid (Below w.heap.size w wr)) (fun s _ => xs.length - (intOf s).toNat)
  case atStart => exact ⟨0, Nat.zero_le _, Nat.zero_le _, rfl, hr2, hb1⟩
  case round =>
    clear hr1 hb1 hr2 HS
    obtain ⟨i, hi, hin, rfl, HR, HB⟩ := hrel
    have hfin : ∀ zz, RowI wr w.heap.size n (lst n (stepF m (co xs) (co ys) i 0)) → (∀ k, k < n → stepF m (co xs) (co ys) i 0 k = cv m (co xs) (co ys) k) → timesL m n xs ys = zz → RowI wr w.heap.size n zz := by
      intro zz h1 h2 h3
      rw [← h3, timesL, ← lst_congr h2]
      exact h1
    by_cases hlt : i < xs.length
    · by_cases hltn : i < n
      · clear hfin
        obtain ⟨b, rfl, hb1, hb2, hcell, hfr⟩ := hA i hlt
        have hnk : 0 ≤ co xs i ∧ co xs i < m := HN.out i
        obtain ⟨x, hx⟩ : ∃ x, x = co xs i := ⟨_, rfl⟩
        have hcell' : w.cell? ⟨b, i, none⟩ = some (.int .i64 x) := by rw [hx]; exact hcell
        rw [← hx] at hnk
        have HX := Lib.hid hx
        clear hcell hfr hx
        have HC := Lib.hid hcell'
        clear hcell'
        have hi0 : (0 : Int) ≤ (i : Int) := by omega
        have hi1 : (i : Int) < (xs.length : Int) := by omega
        have hi2 : (i : Int) ≤ d := by omega
        go_wp2
        go_loopw [11] (fun s w2 => ∃ j : Nat, j ≤ ys.length ∧ i + j ≤ n ∧ s = .int .i64 j ∧ Hid (RowI w2 w.heap.size n (lst n (stepF m (co xs) (co ys) i j))) ∧ Hid (Below w.heap.size w w2)) (fun s _ => ys.length - (intOf s).toNat)
        case atStart => exact ⟨0, Nat.zero_le _, by omega, rfl, HR, HB⟩
        case round =>
          clear HR HB
          obtain ⟨j, hj, hjn, rfl, HR, HB⟩ := hrel
          have hc0 : wr.cell? ⟨b, i, none⟩ = some (.int .i64 x) := (HB.out.cell (p := ⟨b, i, none⟩) hb2).trans HC.out
          have hj0 : (0 : Int) ≤ (j : Int) := by omega
          have v1 : IntKind.i64.wrap ((i : Int) + (j : Int)) = (i : Int) + (j : Int) := IntWalk.i64_in _ (by omega)
          by_cases hlt2 : j < ys.length
          · have hj1 : (j : Int) < (ys.length : Int) := by omega
            by_cases hlt3 : i + j < n
            · have hd4 : (i : Int) + (j : Int) ≤ d := by omega
              by_cases hx0 : x = 0
              · have hR : Hid (RowI wr w.heap.size n (lst n (stepF m (co xs) (co ys) (i + 1) 0))) := by
                  unfold Hid
                  rw [← lst_congr fun k _ => stepF_nil m (co xs) (co ys) i j k (by rw [← HX.out, hx0])]
                  exact HR.out
                subst hx0
                go_wp2
                go_roundw
                case rel => exact ⟨i + 1, by omega, by omega, by go_num, hR, HB⟩
                case measure => simp [intOf]; omega
              · obtain ⟨b2, rfl, hb3, hb4, hcell2, hfr2⟩ := hA2 j hlt2
                have hc1' : wr.cell? ⟨b2, j, none⟩ = some (.int .i64 (co ys j)) := (HB.out.cell (p := ⟨b2, j, none⟩) hb4).trans hcell2
                have hnj : 0 ≤ co ys j ∧ co ys j < m := HN2.out j
                have HS := Lib.hid (times_step' m (co xs) (co ys) n i j)
                have hd0 := HR.out.cell (k := i + j) (by rw [length_lst]; omega)
                have hf0 := HR.out.free (i + j)
                rw [getD_lst _ _ _ (by omega), stepF_at] at hd0
                have hcb := cvTo_bd (show 0 < m by omega) (co xs) (co ys) i (i + j)
                obtain ⟨y, hy⟩ : ∃ y, y = co ys j := ⟨_, rfl⟩
                rw [← hy] at hc1' hnj
                rw [← hy, ← HX.out] at HS
                generalize cvTo m (co xs) (co ys) i (i + j) = t at *
                clear hy hcell2 hfr2
                have hp := prod_bd hnk.1 hnk.2 hnj.1 hnj.2 hm'
                have v2 : IntKind.i64.wrap (x * y) = x * y := IntWalk.i64_in _ (by omega)
                have v3 : IntKind.i64.wrap (t + x * y) = t + x * y := IntWalk.i64_in _ (by omega)
                have v4 : (t + x * y).tmod m = (t + x * y) % m := Int.tmod_eq_emod_of_nonneg (by omega)
                have v5 : (0 : Int) ≤ (i : Int) + (j : Int) := by omega
                have v6 : (i : Int) + (j : Int) < (n : Int) := by omega
                have v7 : ((i : Int) + (j : Int)).toNat = i + j := by omega
                have v8 : ¬ m = 0 := by omega
                go_wp2
                go_still_tail 23, (by kernel_rfl)
                change wpList _ _ _ _ _ wr.drew
                clear v1 v2 v3 v4 v5 v7
                go_wp2
                go_roundw
                case rel =>
                  refine ⟨j + 1, by omega, by omega, by go_num, ?_, (by unfold Hid; (repeat (first | exact HB.out | refine below_drewN ?_ _ | refine below_drew ?_ | (refine Below.setCell ?_ ?_ _; rotate_left; focus (first | omega | (simp; done) | (simp; omega))))))⟩
                  unfold Hid
                  rw [← HS.out]
                  exact HR.out.set_ (i + j) ((t + x * y) % m)
                case measure => simp [intOf]; omega
            · have hd4 : ¬ (i : Int) + (j : Int) ≤ d := by omega
              have hd5 : decide ((i : Int) + (j : Int) ≤ d) = false := by simp; omega
              have hR : Hid (RowI wr w.heap.size n (lst n (stepF m (co xs) (co ys) (i + 1) 0))) := by
                unfold Hid
                rw [← times_row m _ _ n i j (by omega)]
                exact HR.out
              go_wp2
              go_roundw
              case rel => exact ⟨i + 1, by omega, by omega, by go_num, hR, HB⟩
              case measure => simp [intOf]; omega
          · have hd5 : decide ((j : Int) < (ys.length : Int)) = false := by simp; omega
            have hR : Hid (RowI wr w.heap.size n (lst n (stepF m (co xs) (co ys) (i + 1) 0))) := by
              unfold Hid
              rw [← lst_congr fun k _ => stepF_short m (co xs) (co ys) i j k (fun t ht => co_ge (by omega))]
              exact HR.out
            go_wp2
            go_roundw
            case rel => exact ⟨i + 1, by omega, by omega, by go_num, hR, HB⟩
            case measure => simp [intOf]; omega
      · have hR : RowI wr w.heap.size n zs := hfin zs HR.out (fun k hk => by rw [show i = n by omega]; exact stepF_all m _ _ n k hk) HZ.out
        have hly : Hid (zs.length = n) := by unfold Hid; rw [← HZ.out, length_timesL]
        have hd5 : decide ((i : Int) ≤ d) = false := by simp; omega
        have hi1 : (i : Int) < (xs.length : Int) := by omega
        clear hfin
        go_wp2
        go_ret
        exact ⟨_, _, by rw [hly.out]; rfl, hR.own (Nat.le_refl _), HB.out⟩
    · have hR : RowI wr w.heap.size n zs := hfin zs HR.out (fun k _ => stepF_end m _ _ i k fun t ht => co_ge (by omega)) HZ.out
      have hly : Hid (zs.length = n) := by unfold Hid; rw [← HZ.out, length_timesL]
      have hd5 : decide ((i : Int) < (xs.length : Int)) = false := by simp; omega
      clear hfin
      go_wp2
      go_ret
      exact ⟨_, _, by rw [hly.out]; rfl, hR.own (Nat.le_refl _), HB.out⟩

/-! ### Constants and powers of series -/
def conL (m : Int) (n : Nat) (c : Int) : List Int := lst n fun k => if k = 0 then c % m else 0
theorem length_conL (m : Int) (n : Nat) (c : Int) : (conL m n c).length = n := length_lst _ _
theorem conL_of (m : Int) (n : Nat) (c : Int) : (List.replicate n (0 : Int)).set 0 (c % m) = conL m n c := by
  rw [replicate_lst, set_lst]
  rfl
theorem NumL.con {m : Int} (hm : 0 < m) (n : Nat) (c : Int) : NumL m (conL m n c) := NumL.lst hm fun k _ => by
  have := Int.emod_nonneg c (show m ≠ 0 by omega)
  have := Int.emod_lt_of_pos c hm
  split <;> omega
/-- The block of a slice is not the block b. -/
def Off (v : Value) (b : Nat) : Prop := ∀ g, v.ownBlock = some g → g ≠ b
theorem OwnI.off {w : World} {B b : Nat} {v : Value} {xs : List Int} (h : OwnI w B v xs) (hb : b < B ∨ w.heap.size ≤ b) : Off v b := fun g hg => by
  have := h.block_ge hg
  omega
theorem OwnI.store {w : World} {B b : Nat} {v x y : Value} {xs : List Int} (h : OwnI w B v xs) (hf : Off v b) : OwnI ((w.setCell ⟨b, 0, none⟩ x).setCell ⟨b, 1, none⟩ y) B v xs :=
  (h.setCell_ge (p := ⟨b, 0, none⟩) hf x).setCell_ge (p := ⟨b, 1, none⟩) hf y
def powL (m : Int) (n : Nat) (k : Nat) (r a : List Int) : List Int :=
  if k = 0 then r else powL m n (k / 2) (if k % 2 = 1 then timesL m n r a else r) (timesL m n a a)
termination_by k
decreasing_by omega
theorem powL_zero (m : Int) (n : Nat) (r a : List Int) : powL m n 0 r a = r := by rw [powL]; simp
theorem powL_odd (m : Int) (n k : Nat) (r a : List Int) (h : k % 2 = 1) : powL m n k r a = powL m n (k / 2) (timesL m n r a) (timesL m n a a) := by
  rw [powL, if_neg (by omega), if_pos h]
theorem powL_even (m : Int) (n k : Nat) (r a : List Int) (h : k % 2 = 0) (h0 : k ≠ 0) : powL m n k r a = powL m n (k / 2) r (timesL m n a a) := by
  rw [powL, if_neg h0, if_neg (by omega)]
set_option maxHeartbeats 1000000 in
theorem constant_any (w : World) (m : Int) (v : Value) (xs ys : List Int) (c : Int) (B : Nat) (hv : OwnI w B v xs) (hm : 2 ≤ m) (hm' : m ≤ 3000000000) (hl0 : 1 ≤ xs.length) (hl : xs.length ≤ 1000) (hy : conL m xs.length c = ys) :
    Calls Try.prog 110 #[.agg #[.int .i64 m, v], .int .i64 c] w (NewS w m ys) := by
  obtain ⟨A, cp, e0, hc1, hc2, hA⟩ := hv.open_
  subst e0
  unfold maxLen at hc2
  have HY := Lib.hid hy
  clear hy hv hA
  go_enter Try.func110, Try.ntmps110
  go_upto_region 1 with fail
  go_cut [5] from 6 to 10 (fun s wx => ∃ bo g : Nat, s = .pointer (some ⟨bo, 0, none⟩) ∧ w.heap.size + 2 ≤ bo ∧ bo < wx.heap.size ∧ w.heap.size + 2 ≤ g ∧ g < wx.heap.size ∧ bo ≠ g ∧ Hid (Bf wx bo (.int .i64 m) (.slice (some ⟨g, 0, none⟩) xs.length xs.length)) ∧ Hid (RowI wx g xs.length (List.replicate xs.length 0)) ∧ Hid (Bf wx w.heap.size (.int .i64 m) (.slice A xs.length cp)) ∧ Hid (Bf wx (w.heap.size + 1) (.int .i64 0) (.slice none 0 0)) ∧ Hid (Below w.heap.size w wx))
  case first =>
    go_region_held3 (fun w' => w'.cell? ⟨w.heap.size, 0, none⟩ = some (.int .i64 m) ∧ w'.cell? ⟨w.heap.size, 1, none⟩ = some (.slice A xs.length cp))
      (first | go_keep | (refine (fun (h : Bf _ w.heap.size (.int .i64 m) (.slice A xs.length cp)) => ⟨h.1.2.1, h.1.2.2⟩) ((Bf.alloc1 w _ _ 26).keep ?_); (repeat (first | assumption | exact Below.refl _ _ | (refine Below.alloc ?_ ?_ _; rotate_left; (focus (first | exact Nat.le_refl _ | omega | (simp; done) | (simp; omega)))) | (refine Below.setCell ?_ ?_ _; rotate_left; (focus (first | exact Nat.le_refl _ | omega | (simp; done) | (simp; omega)))) | refine below_drew ?_ | refine below_drewN ?_ _ | (refine Below.trans ?_ (Below.mono hb2 ?_); rotate_left; (focus (first | exact Nat.le_refl _ | omega | (simp; done) | (simp; omega)))) | (refine Below.trans ?_ (Below.mono hb1 ?_); rotate_left; (focus (first | exact Nat.le_refl _ | omega | (simp; done) | (simp; omega))))))))
      (first | (go_at_call 54; refine (iDegree_any m A xs.length cp _ (by omega)).mono ?_; rintro e w1 ⟨rfl, hb1⟩; have P1 : Bf w1 w.heap.size (.int .i64 m) (.slice A xs.length cp) := ((Bf.alloc1 w _ _ 26).keep (by (repeat (first | assumption | exact Below.refl _ _ | (refine Below.alloc ?_ ?_ _; rotate_left; (focus (first | exact Nat.le_refl _ | omega | (simp; done) | (simp; omega)))) | (refine Below.setCell ?_ ?_ _; rotate_left; (focus (first | exact Nat.le_refl _ | omega | (simp; done) | (simp; omega)))) | refine below_drew ?_ | refine below_drewN ?_ _ | (refine Below.trans ?_ (Below.mono hb1 ?_); rotate_left; (focus (first | exact Nat.le_refl _ | omega | (simp; done) | (simp; omega)))))))); have p1a := P1.1.2.1; have p1b := P1.1.2.2; obtain ⟨hc1, hf1⟩ := bcell hb1; have z1 := hb1.size; (try simp at z1); have z1p : w.heap.size < w1.heap.size := (by omega); (first | (have y1 : w.heap.size + 2 < w1.heap.size := (by omega)) | skip)) | (go_at_call 60; refine (zero_any _ m _ xs.length (by omega) (by omega)).mono ?_; rintro e w2 ⟨g, rfl, hg, hr2, hb2⟩; have P2 : Bf w2 w.heap.size (.int .i64 m) (.slice A xs.length cp) := ((Bf.alloc1 w _ _ 26).keep (by (repeat (first | assumption | exact Below.refl _ _ | (refine Below.alloc ?_ ?_ _; rotate_left; (focus (first | exact Nat.le_refl _ | omega | (simp; done) | (simp; omega)))) | (refine Below.setCell ?_ ?_ _; rotate_left; (focus (first | exact Nat.le_refl _ | omega | (simp; done) | (simp; omega)))) | refine below_drew ?_ | refine below_drewN ?_ _ | (refine Below.trans ?_ (Below.mono hb2 ?_); rotate_left; (focus (first | exact Nat.le_refl _ | omega | (simp; done) | (simp; omega)))) | (refine Below.trans ?_ (Below.mono hb1 ?_); rotate_left; (focus (first | exact Nat.le_refl _ | omega | (simp; done) | (simp; omega)))))))); have p2a := P2.1.2.1; have p2b := P2.1.2.2; obtain ⟨hc2, hf2⟩ := bcell hb2; have z2 := hb2.size; (try simp at z2); (try simp at hg); have z2p : w.heap.size < w2.heap.size := (by omega)))
    all_goals
      go_wp2_with fail
      go_meet
      have zg := hr2.lt
      have KK : Hid (Below w.heap.size w w2) := by (repeat (first | assumption | exact Below.refl _ _ | (refine Below.alloc ?_ ?_ _; rotate_left; (focus (first | exact Nat.le_refl _ | omega | (simp; done) | (simp; omega)))) | (refine Below.setCell ?_ ?_ _; rotate_left; (focus (first | exact Nat.le_refl _ | omega | (simp; done) | (simp; omega)))) | refine below_drew ?_ | refine below_drewN ?_ _ | (refine Below.trans ?_ (Below.mono hb2 ?_); rotate_left; (focus (first | exact Nat.le_refl _ | omega | (simp; done) | (simp; omega)))) | (refine Below.trans ?_ (Below.mono hb1 ?_); rotate_left; (focus (first | exact Nat.le_refl _ | omega | (simp; done) | (simp; omega))))))
      refine ⟨_, g, rfl, ?_, ?_, ?_, ?_, ?_, ?_, ?_, ?_, ?_,  ?_⟩
      · first | exact Nat.le_refl _ | omega | (simp; done) | (simp; omega)
      · first | omega | (simp; done) | (simp; omega) | (simp [World.setCell]; omega)
      · first | omega | (simp; omega)
      · first | omega | (simp; done) | (simp; omega) | (simp [World.setCell]; omega)
      · first | omega | (simp; omega)
      · first | exact Bf.alloc1 w2 _ _ _ | exact ((Bf.alloc1 w1 _ _ _).keep hb2).store2 | exact (((Bf.q3 (w := w)).keep (below_undrew hb1)).keep hb2).store2
      · first | exact hr2.alloc _ | exact (hr2.far (by first | omega | (simp; omega)) _).far (by first | omega | (simp; omega)) _
      · exact (Bf.q1 (w := w) (t := 26)).keep (by (repeat (first | assumption | exact Below.refl _ _ | (refine Below.alloc ?_ ?_ _; rotate_left; (focus (first | exact Nat.le_refl _ | omega | (simp; done) | (simp; omega)))) | (refine Below.setCell ?_ ?_ _; rotate_left; (focus (first | exact Nat.le_refl _ | omega | (simp; done) | (simp; omega)))) | refine below_drew ?_ | refine below_drewN ?_ _ | (refine Below.trans ?_ (Below.mono hb2 ?_); rotate_left; (focus (first | exact Nat.le_refl _ | omega | (simp; done) | (simp; omega)))) | (refine Below.trans ?_ (Below.mono hb1 ?_); rotate_left; (focus (first | exact Nat.le_refl _ | omega | (simp; done) | (simp; omega)))))))
      · exact (Bf.q2 (w := w) (t := 26) (t' := 26)).keep (by (repeat (first | assumption | exact Below.refl _ _ | (refine Below.alloc ?_ ?_ _; rotate_left; (focus (first | exact Nat.le_refl _ | omega | (simp; done) | (simp; omega)))) | (refine Below.setCell ?_ ?_ _; rotate_left; (focus (first | exact Nat.le_refl _ | omega | (simp; done) | (simp; omega)))) | refine below_drew ?_ | refine below_drewN ?_ _ | (refine Below.trans ?_ (Below.mono hb2 ?_); rotate_left; (focus (first | exact Nat.le_refl _ | omega | (simp; done) | (simp; omega)))) | (refine Below.trans ?_ (Below.mono hb1 ?_); rotate_left; (focus (first | exact Nat.le_refl _ | omega | (simp; done) | (simp; omega)))))))
      · (repeat (first | assumption | exact Below.refl _ _ | (refine Below.alloc ?_ ?_ _; rotate_left; (focus (first | exact Nat.le_refl _ | omega | (simp; done) | (simp; omega)))) | (refine Below.setCell ?_ ?_ _; rotate_left; (focus (first | exact Nat.le_refl _ | omega | (simp; done) | (simp; omega)))) | refine below_drew ?_ | refine below_drewN ?_ _ | (refine Below.trans ?_ (Below.mono hb2 ?_); rotate_left; (focus (first | exact Nat.le_refl _ | omega | (simp; done) | (simp; omega)))) | (refine Below.trans ?_ (Below.mono hb1 ?_); rotate_left; (focus (first | exact Nat.le_refl _ | omega | (simp; done) | (simp; omega))))))
  case rest =>
    obtain ⟨bo, g, rfl, hbo1, hbo2, hg1, hg2, hne, HO, HR, HP, HQ, HB⟩ := hcut
    have p1 := HP.out.1.2.1
    have p2 := HP.out.1.2.2
    have o1 := HO.out.1.2.1
    have o2 := HO.out.1.2.2
    have q1 := HQ.out.1.2.1
    have q2 := HQ.out.1.2.2
    have q3 := HQ.out.2.1
    have q4 := HQ.out.2.2
    have hd0 := HR.out.cell (k := 0) (by simp; omega)
    have hf0 := HR.out.free 0
    generalize (List.replicate xs.length (0 : Int)).getD 0 0 = y0 at hd0
    have hk1 : (0 : Int) < (xs.length : Int) := by omega
    have hk2 : 0 < xs.length := by omega
    have hk3 : ¬ xs.length = 0 := by omega
    have ne1 : (⟨g, 0, none⟩ : Addr) ≠ ⟨w.heap.size, 0, none⟩ := by first | (simp; done) | (simp; omega)
    have ne2 : (⟨g, 0, none⟩ : Addr) ≠ ⟨bo, 1, none⟩ := by first | (simp; done) | (simp; omega)
    go_wp2
    go_region_held3 (fun w' => w'.cell? ⟨w.heap.size, 0, none⟩ = some (.int .i64 m) ∧ w'.cell? ⟨bo, 1, none⟩ = some (.slice (some ⟨g, 0, none⟩) xs.length xs.length))
      ((first | exact ⟨p1, o2⟩ | exact ⟨(World.cell?_setCell_other _ _ _ _ ne1).trans p1, (World.cell?_setCell_other _ _ _ _ ne2).trans o2⟩ | go_keep))
      (first | (go_at_call 90; refine (mod_any c m _ (by omega) (by omega)).mono ?_; rintro e w1 ⟨rfl, k1, rfl⟩))
    go_wp2
    have hR := HR.out.set_ 0 (c % m)
    rw [conL_of, HY.out] at hR
    have hly : Hid (ys.length = xs.length) := by unfold Hid; rw [← HY.out, length_conL]
    refine bodyPost_ret (v := .agg #[.int .i64 m, .slice (some ⟨g, 0, none⟩) xs.length xs.length]) (by simp [results, Try.results110, go_sem, q1, q2]) rfl ⟨some ⟨g, 0, none⟩, xs.length, by rw [hly.out], ?_, ?_⟩
    · rw [hly.out]
      have := ((hR.far (p := ⟨w.heap.size + 1, 0, none⟩) (by simp; omega) (.int .i64 m)).far (p := ⟨w.heap.size + 1, 1, none⟩) (by simp; omega) (.slice (some ⟨g, 0, none⟩) xs.length xs.length)).own (B := w.heap.size) (by omega)
      rw [hly.out] at this
      exact this
    · (repeat (first | exact HB.out | refine below_drewN ?_ _ | refine below_drew ?_ | (refine Below.setCell ?_ ?_ _; rotate_left; focus (first | omega | (simp; done) | (simp; omega)))))

set_option maxHeartbeats 2000000 in
theorem serPower_any (w : World) (m : Int) (v : Value) (xs zs : List Int) (k n : Nat) (B : Nat) (hv : OwnI w B v xs) (hm : 2 ≤ m) (hm' : m ≤ 3000000000) (hn : NumL m xs) (hx : xs.length = n) (hl0 : 1 ≤ n) (hl : n ≤ 1000) (hk : k ≤ 1000000000) (hz : powL m n k (conL m n 1) xs = zs) :
    Calls Try.prog 75 #[.agg #[.int .i64 m, v], .int .i64 k] w (NewS w m zs) := by
  obtain ⟨A, cp, e0⟩ := hv.form
  subst e0
  rw [hx] at hv
  have HX := Lib.hid hx
  have HZ := Lib.hid hz
  have HN := Lib.hid hn
  clear hx hz hn
  go_enter Try.func75, Try.ntmps75
  rw [HX.out]
  go_wp2_with (go_at_call 110; refine (constant_any _ m (.slice A n cp) xs (conL m n 1) 1 B (OwnI.keep hv (by (repeat (first | assumption | exact Below.refl _ _ | refine Below.alloc ?_ (by first | omega | (simp; done) | (simp; omega)) _ | refine Below.setCell ?_ (by first | omega | (simp; done) | (simp; omega)) _ | refine below_drewN ?_ _))) (Nat.le_refl _)) hm hm' (by rw [HX.out]; exact hl0) (by rw [HX.out]; exact hl) (by rw [HX.out])).mono ?_; rintro e w1 ⟨A1, c1, rfl, o1, hb1⟩; rw [length_conL] at o1 ⊢; obtain ⟨P1, Q1, K1⟩ := Bf.first2 hb1; have p1a := P1.1.2.1; have p1b := P1.1.2.2; have z1 := P1.1.1; have q1a := Q1.1.2.1; have q1b := Q1.1.2.2; have q1c := Q1.2.1; have q1d := Q1.2.2; have y1 := Q1.1.1)
  have hv1 : OwnI w1 0 (.slice A n cp) xs := (OwnI.keep hv K1 (Nat.le_refl _)).mono (Nat.zero_le _)
  have hoff : Off (.slice A n cp) w1.heap.size := hv.off (.inr (by omega))
  go_loopw [1] (fun s wr => ∃ (k' : Nat) (cur r : List Int) (Aa : Option Addr) (ca : Nat) (Ao : Option Addr) (co' : Nat), s = .int .i64 k' ∧ k' ≤ k ∧ Hid (powL m n k' r cur = zs) ∧ Hid (cur.length = n ∧ NumL m cur ∧ OwnI wr 0 (.slice Aa n ca) cur ∧ Off (.slice Aa n ca) w1.heap.size) ∧ Hid (r.length = n ∧ NumL m r ∧ OwnI wr (w.heap.size + 2) (.slice Ao n co') r) ∧ Hid (Bf wr w.heap.size (.int .i64 m) (.slice Aa n ca)) ∧ Hid (Bf wr (w.heap.size + 1) (.int .i64 0) (.slice none 0 0)) ∧ Hid (Bf wr w1.heap.size (.int .i64 m) (.slice Ao n co')) ∧ Hid (Below w.heap.size w wr)) (fun s _ => (intOf s).toNat)
  case atStart =>
    refine ⟨k, xs, conL m n 1, A, cp, A1, c1, rfl, Nat.le_refl _, HZ, ⟨HX.out, HN.out, hv1.alloc _, hoff⟩, ⟨length_conL _ _ _, NumL.con (by omega) _ _, ?_⟩, P1.alloc _, Q1.alloc _, Bf.alloc1 _ _ _ _, K1.alloc (by omega) _⟩
    exact (o1.alloc _).mono (by simp)
  case round =>
    clear hv1 hoff o1 hb1 P1 Q1 p1a p1b q1a q1b q1c q1d K1 hv HZ HX HN
    obtain ⟨k', cur, r, Aa, ca, Ao, co', rfl, hk', HZ, HC, HR, HP, HQ, HO, HB⟩ := hrel
    have p1 := HP.out.1.2.1
    have p2 := HP.out.1.2.2
    have p3 := HP.out.2.1
    have p4 := HP.out.2.2
    have q1 := HQ.out.1.2.1
    have q2 := HQ.out.1.2.2
    have q3 := HQ.out.2.1
    have q4 := HQ.out.2.2
    have o1 := HO.out.1.2.1
    have o2 := HO.out.1.2.2
    have o3 := HO.out.2.1
    have o4 := HO.out.2.2
    have zP := HP.out.1.1
    have zQ := HQ.out.1.1
    have zO := HO.out.1.1
    by_cases h0 : k' = 0
    · subst h0
      have hr : r = zs := by rw [← HZ.out, powL_zero]
      subst hr
      have hrl : Hid (r.length = n) := HR.out.1
      go_wp2
      refine bodyPost_ret (v := .agg #[.int .i64 m, .slice Ao n co']) (by simp [results, Try.results75, go_sem, q1, q2]) rfl ⟨Ao, co', by rw [hrl.out], ?_, ?_⟩
      · rw [hrl.out]
        exact (HR.out.2.2.store (HR.out.2.2.off (.inl (by omega)))).mono (by omega)
      · (repeat (first | exact HB.out | refine below_drewN ?_ _ | refine below_drew ?_ | (refine Below.setCell ?_ ?_ _; rotate_left; focus (first | omega | (simp; done) | (simp; omega)))))
    · have hk1 : (0 : Int) < (k' : Int) := by omega
      have hk2 : (k' : Int).tdiv 2 = ((k' / 2 : Nat) : Int) := by rw [Int.tdiv_eq_ediv_of_nonneg (by omega)]; omega
      by_cases h1 : k' % 2 = 1
      · have hk3 : (k' : Int).tmod 2 = 1 := by rw [Int.tmod_eq_emod_of_nonneg (by omega)]; omega
        have HZ' : Hid (powL m n (k' / 2) (timesL m n r cur) (timesL m n cur cur) = zs) := by unfold Hid; rw [← powL_odd _ _ _ _ _ h1]; exact HZ.out
        go_wp2_with fail
        refine (times_any wr m m (.slice Ao n co') (.slice Aa n ca) r cur (timesL m n r cur) n (w.heap.size + 2) 0 HR.out.2.2 HC.out.2.2.1 hm hm' HR.out.2.1 HC.out.2.1 HR.out.1 HC.out.1 hl0 hl rfl).mono ?_
        rintro e w3 ⟨A3, c3, rfl, o3', hb3⟩
        rw [length_timesL] at o3' ⊢
        have P3 := HP.out.keep hb3
        have Q3 := HQ.out.keep hb3
        have O3 := HO.out.keep hb3
        have B3 := HB.out.trans (hb3.mono (by omega))
        have cu3 := HC.out.2.2.1.keep hb3 (Nat.le_refl _)
        have off3 := HC.out.2.2.2
        have hs3 := hb3.size
        have p3a := P3.1.2.1
        have p3b := P3.1.2.2
        have o3a := O3.1.2.1
        have o3b := O3.1.2.2
        have o3c := O3.2.1
        have o3d := O3.2.2
        clear p1 p2 p3 p4 q1 q2 q3 q4 o1 o2 o3 o4
        go_wp2_with fail
        have PP := (P3.setCell (p := ⟨w1.heap.size, 0, none⟩) (by simp; omega) (.int .i64 m)).setCell (p := ⟨w1.heap.size, 1, none⟩) (by simp; omega) (.slice A3 n c3)
        have QQ := (Q3.setCell (p := ⟨w1.heap.size, 0, none⟩) (by simp; omega) (.int .i64 m)).setCell (p := ⟨w1.heap.size, 1, none⟩) (by simp; omega) (.slice A3 n c3)
        have OO := O3.store2 (x' := .int .i64 m) (y' := .slice A3 n c3)
        have BB := (B3.setCell (p := ⟨w1.heap.size, 0, none⟩) (by simp; omega) (.int .i64 m)).setCell (p := ⟨w1.heap.size, 1, none⟩) (by simp; omega) (.slice A3 n c3)
        have OC := cu3.store (x := .int .i64 m) (y := .slice A3 n c3) off3
        have RR := (o3'.store (b := w1.heap.size) (x := .int .i64 m) (y := .slice A3 n c3) (o3'.off (.inl (by omega)))).mono (show w.heap.size + 2 ≤ wr.heap.size by omega)
        clear P3 Q3 O3 B3 cu3 o3' p3a p3b o3a o3b o3c o3d HP HQ HO HB HR hb3
        have zz : w3.heap.size = ((w3.setCell ⟨w1.heap.size, 0, none⟩ (.int .i64 m)).setCell ⟨w1.heap.size, 1, none⟩ (.slice A3 n c3)).heap.size := by simp
        generalize (w3.setCell ⟨w1.heap.size, 0, none⟩ (.int .i64 m)).setCell ⟨w1.heap.size, 1, none⟩ (.slice A3 n c3) = W4 at *
        refine (times_any W4 m m (.slice Aa n ca) (.slice Aa n ca) cur cur (timesL m n cur cur) n 0 0 OC OC hm hm' HC.out.2.1 HC.out.2.1 HC.out.1 HC.out.1 hl0 hl rfl).mono ?_
        rintro e w5 ⟨A5, c5, rfl, o5, hb5⟩
        rw [length_timesL] at o5 ⊢
        have P5 := PP.keep hb5
        have Q5 := QQ.keep hb5
        have O5 := OO.keep hb5
        have B5 := BB.trans (hb5.mono (by omega))
        have r5 := RR.keep hb5 (Nat.le_refl _)
        have p5a := P5.1.2.1
        have p5b := P5.1.2.2
        have p5c := P5.2.1
        have p5d := P5.2.2
        go_wp2_with fail
        go_roundw
        case rel =>
          refine ⟨k' / 2, timesL m n cur cur, timesL m n r cur, A5, c5, A3, c3, rfl, by omega, HZ', ⟨length_timesL _ _ _ _, NumL.timesL (by omega) _ _ _, ?_, ?_⟩, ⟨length_timesL _ _ _ _, NumL.timesL (by omega) _ _ _, ?_⟩, P5.store2, ?_, ?_, ?_⟩
          · exact (o5.store (o5.off (.inl (by omega)))).mono (Nat.zero_le _)
          · exact o5.off (.inl (by omega))
          · exact r5.store (r5.off (.inl (by omega)))
          · exact (Q5.setCell (p := ⟨w.heap.size, 0, none⟩) (by simp) _).setCell (p := ⟨w.heap.size, 1, none⟩) (by simp) _
          · exact (O5.setCell (p := ⟨w.heap.size, 0, none⟩) (by simp; omega) _).setCell (p := ⟨w.heap.size, 1, none⟩) (by simp; omega) _
          · exact (B5.setCell (p := ⟨w.heap.size, 0, none⟩) (by simp) _).setCell (p := ⟨w.heap.size, 1, none⟩) (by simp) _
        case measure => simp [intOf]; omega
      · have hk3 : (k' : Int).tmod 2 = 0 := by rw [Int.tmod_eq_emod_of_nonneg (by omega)]; omega
        have HZ' : Hid (powL m n (k' / 2) r (timesL m n cur cur) = zs) := by unfold Hid; rw [← powL_even _ _ _ _ _ (by omega) h0]; exact HZ.out
        go_wp2_with fail
        have PP := HP.out
        have QQ := HQ.out
        have OO := HO.out
        have BB := HB.out
        have OC := HC.out.2.2.1
        have RR := HR.out.2.2
        clear p1 p2 p3 p4 q1 q2 q3 q4 o1 o2 o3 o4
        refine (times_any wr m m (.slice Aa n ca) (.slice Aa n ca) cur cur (timesL m n cur cur) n 0 0 OC OC hm hm' HC.out.2.1 HC.out.2.1 HC.out.1 HC.out.1 hl0 hl rfl).mono ?_
        rintro e w5 ⟨A5, c5, rfl, o5, hb5⟩
        rw [length_timesL] at o5 ⊢
        have P5 := PP.keep hb5
        have Q5 := QQ.keep hb5
        have O5 := OO.keep hb5
        have B5 := BB.trans (hb5.mono (by omega))
        have r5 := RR.keep hb5 (Nat.le_refl _)
        have p5a := P5.1.2.1
        have p5b := P5.1.2.2
        have p5c := P5.2.1
        have p5d := P5.2.2
        go_wp2_with fail
        go_roundw
        case rel =>
          refine ⟨k' / 2, timesL m n cur cur, r, A5, c5, Ao, co', rfl, by omega, HZ', ⟨length_timesL _ _ _ _, NumL.timesL (by omega) _ _ _, ?_, ?_⟩, ⟨HR.out.1, HR.out.2.1, ?_⟩, P5.store2, ?_, ?_, ?_⟩
          · exact (o5.store (o5.off (.inl (by omega)))).mono (Nat.zero_le _)
          · exact o5.off (.inl (by omega))
          · exact r5.store (r5.off (.inl (by omega)))
          · exact (Q5.setCell (p := ⟨w.heap.size, 0, none⟩) (by simp) _).setCell (p := ⟨w.heap.size, 1, none⟩) (by simp) _
          · exact (O5.setCell (p := ⟨w.heap.size, 0, none⟩) (by simp; omega) _).setCell (p := ⟨w.heap.size, 1, none⟩) (by simp; omega) _
          · exact (B5.setCell (p := ⟨w.heap.size, 0, none⟩) (by simp) _).setCell (p := ⟨w.heap.size, 1, none⟩) (by simp) _
        case measure => simp [intOf]; omega

set_option maxRecDepth 8000 in
set_option maxHeartbeats 2000000 in
theorem l02Power_any (m : Int) (w : World) (v : Value) (xs zs : List Int) (k n : Nat) (d : Int) (B : Nat) (hv : OwnI w B v xs) (hm : 2 ≤ m) (hm' : m ≤ 3000000000) (hn : NumL m xs) (hx : xs.length = n) (hl0 : 1 ≤ n) (hl : n ≤ 1000) (hk : k ≤ 1000000000) (hd : d + 1 = (n : Int)) (hz : powL m n k (conL m n 1) xs = zs) :
    Calls Try.prog 74 #[.int .i64 m, v, .int .i64 k, .int .i64 d] w (NewI w zs) := by
  obtain ⟨A, cp, e0⟩ := hv.form
  subst e0
  rw [hx] at hv
  have HX := Lib.hid hx
  have HZ := Lib.hid hz
  have HN := Lib.hid hn
  have hdn : IntKind.i64.wrap (d + 1) = (n : Int) := by rw [hd]; exact IntWalk.i64_in _ (by omega)
  have HD := Lib.hid hd
  have hn0 : (0 : Int) < (n : Int) := by omega
  clear hx hz hn hd
  go_enter Try.func74, Try.ntmps74
  rw [HX.out]
  go_wp2_with (at_make; refine makeI _ n (by rfl) (by rfl) (by first | rfl | simp) (by omega) ?_; intro w1 hr1 hb1 hs1; have HS := Lib.hid hs1; clear hs1 hdn; (try simp at hr1); have hd0 := hr1.cell (k := 0) (by simp; omega); have hf0 := hr1.free 0; obtain ⟨y0, hy0⟩ : ∃ y0, y0 = (List.replicate n (0 : Int)).getD 0 0 := ⟨_, rfl⟩; rw [← hy0] at hd0; clear hy0)
  have hR := hr1.set_ 0 (1 % m)
  rw [conL_of, show (1 : Int) % m = 1 from Int.emod_eq_of_lt (by omega) (by omega)] at hR
  have hv1 : OwnI (w1.setCell ⟨w.heap.size, 0, none⟩ (.int .i64 1)) 0 (.slice A n cp) xs := ((OwnI.keep hv hb1 (Nat.le_refl _)).setCell_ge (fun g hg => by have := (hv.block_ge hg).2; simp; omega) _).mono (Nat.zero_le _)
  have hb2 : Below w.heap.size w (w1.setCell ⟨w.heap.size, 0, none⟩ (.int .i64 1)) := hb1.setCell (by simp) _
  go_loopw [1, 2, 9] (fun a s o wr => ∃ (k' : Nat) (cur r : List Int) (Aa : Option Addr) (ca : Nat) (Ao : Option Addr) (co' : Nat), a = .slice Aa n ca ∧ s = .int .i64 k' ∧ o = .slice Ao n co' ∧ k' ≤ k ∧ Hid (powL m n k' r cur = zs) ∧ Hid (cur.length = n ∧ NumL m cur ∧ OwnI wr 0 (.slice Aa n ca) cur) ∧ Hid (r.length = n ∧ NumL m r ∧ OwnI wr w.heap.size (.slice Ao n co') r) ∧ Hid (Below w.heap.size w wr)) (fun _ s _ _ => (intOf s).toNat)
  case atStart =>
    refine ⟨k, xs, conL m n 1, A, cp, some ⟨w.heap.size, 0, none⟩, n, rfl, rfl, rfl, Nat.le_refl _, HZ, ⟨HX.out, HN.out, hv1⟩, ⟨length_conL _ _ _, NumL.con (by omega) _ _, ?_⟩, hb2⟩
    exact hR.own' (Nat.le_refl _) (length_conL _ _ _)
  case round =>
    clear hv1 hb2 hR hb1 hr1 hd0 hf0 hv HZ HX HN
    obtain ⟨k', cur, r, Aa, ca, Ao, co', rfl, rfl, rfl, hk', HZ, HC, HR, HB⟩ := hrel
    have zB := HB.out.size
    by_cases h0 : k' = 0
    · subst h0
      have hr : r = zs := by rw [← HZ.out, powL_zero]
      subst hr
      have hrl : Hid (r.length = n) := HR.out.1
      go_wp2
      go_ret
      exact ⟨_, _, by rw [hrl.out]; rfl, by rw [hrl.out]; exact HR.out.2.2, HB.out⟩
    · have hk1 : (0 : Int) < (k' : Int) := by omega
      have hk2 : (k' : Int).tdiv 2 = ((k' / 2 : Nat) : Int) := by rw [Int.tdiv_eq_ediv_of_nonneg (by omega)]; omega
      by_cases h1 : k' % 2 = 1
      · have hk3 : (k' : Int).tmod 2 = 1 := by rw [Int.tmod_eq_emod_of_nonneg (by omega)]; omega
        have HZ' : Hid (powL m n (k' / 2) (timesL m n r cur) (timesL m n cur cur) = zs) := by unfold Hid; rw [← powL_odd _ _ _ _ _ h1]; exact HZ.out
        go_wp2_with fail
        refine (l02Times_any m wr (.slice Ao n co') (.slice Aa n ca) r cur (timesL m n r cur) d n w.heap.size 0 HR.out.2.2 HC.out.2.2 hm hm' HR.out.2.1 HC.out.2.1 (by rw [HR.out.1]; omega) (by rw [HC.out.1]; omega) HD.out (by omega) rfl).mono ?_
        rintro e w3 ⟨A3, c3, rfl, o3, hb3⟩
        rw [length_timesL] at o3 ⊢
        have B3 := HB.out.trans (hb3.mono (by omega))
        have cu3 := HC.out.2.2.keep hb3 (Nat.le_refl _)
        have hs3 := hb3.size
        go_wp2_with fail
        refine (l02Times_any m w3 (.slice Aa n ca) (.slice Aa n ca) cur cur (timesL m n cur cur) d n 0 0 cu3 cu3 hm hm' HC.out.2.1 HC.out.2.1 (by rw [HC.out.1]; omega) (by rw [HC.out.1]; omega) HD.out (by omega) rfl).mono ?_
        rintro e w5 ⟨A5, c5, rfl, o5, hb5⟩
        rw [length_timesL] at o5 ⊢
        have B5 := B3.trans (hb5.mono (by omega))
        have r5 := o3.keep hb5 (Nat.le_refl _)
        go_wp2_with fail
        go_roundw
        case rel => exact ⟨k' / 2, timesL m n cur cur, timesL m n r cur, A5, c5, A3, c3, rfl, rfl, rfl, by omega, HZ', ⟨length_timesL _ _ _ _, NumL.timesL (by omega) _ _ _, o5.mono (Nat.zero_le _)⟩, ⟨length_timesL _ _ _ _, NumL.timesL (by omega) _ _ _, r5.mono (by omega)⟩, B5⟩
        case measure => simp [intOf]; omega
      · have hk3 : (k' : Int).tmod 2 = 0 := by rw [Int.tmod_eq_emod_of_nonneg (by omega)]; omega
        have HZ' : Hid (powL m n (k' / 2) r (timesL m n cur cur) = zs) := by unfold Hid; rw [← powL_even _ _ _ _ _ (by omega) h0]; exact HZ.out
        go_wp2_with fail
        refine (l02Times_any m wr (.slice Aa n ca) (.slice Aa n ca) cur cur (timesL m n cur cur) d n 0 0 HC.out.2.2 HC.out.2.2 hm hm' HC.out.2.1 HC.out.2.1 (by rw [HC.out.1]; omega) (by rw [HC.out.1]; omega) HD.out (by omega) rfl).mono ?_
        rintro e w5 ⟨A5, c5, rfl, o5, hb5⟩
        rw [length_timesL] at o5 ⊢
        have B5 := HB.out.trans (hb5.mono (by omega))
        have r5 := HR.out.2.2.keep hb5 (Nat.le_refl _)
        go_wp2_with fail
        go_roundw
        case rel => exact ⟨k' / 2, timesL m n cur cur, r, A5, c5, Ao, co', rfl, rfl, rfl, by omega, HZ', ⟨length_timesL _ _ _ _, NumL.timesL (by omega) _ _ _, o5.mono (Nat.zero_le _)⟩, ⟨HR.out.1, HR.out.2.1, r5⟩, B5⟩
        case measure => simp [intOf]; omega

theorem length_powL (m : Int) (n k : Nat) (r a : List Int) (h : r.length = n) : (powL m n k r a).length = n := by
  induction k using Nat.strongRecOn generalizing r a with
  | _ k ih =>
    rw [powL]
    split
    · exact h
    · apply ih _ (by omega)
      split
      · exact length_timesL _ _ _ _
      · exact h
def PowerOfSeriesR (m : Int) (xs : List Int) (k : Int) : (Int × List Int) × Int := if isSer m xs = false then ((0, []), 1) else if inB k 0 1000 = false then ((0, []), 2) else ((m, powL m xs.length k.toNat (conL m xs.length 1) xs), 0)
theorem PowerOfSeriesR_len (m : Int) (xs : List Int) (k : Int) : (PowerOfSeriesR m xs k).1.2.length ≤ 100 := by
  unfold PowerOfSeriesR
  cases h : isSer m xs
  · simp
  · have := (isSer_true h).2.1
    split
    · simp
    · split
      · simp
      · simp only [length_powL _ _ _ _ _ (length_conL _ _ _)]; omega
set_option maxHeartbeats 1000000 in
theorem iPowerOfSeriesR_any (w : World) (m : Int) (v : Value) (xs : List Int) (k : Int) (B : Nat) (hv : OwnI w B v xs) (hl : xs.length ≤ 2000000) : Calls Try.prog 37 #[.agg #[.int .i64 m, v], .int .i64 k] w (RetSI w (PowerOfSeriesR m xs k)) := by
  obtain ⟨A, cp, e0, hcap1, hcap2, hAA⟩ := hv.open_
  subst e0
  unfold maxLen at hcap2
  cases hs : isSer m xs
  · have HF : PowerOfSeriesR m xs k = ((0, []), 1) := by simp [PowerOfSeriesR, hs]
    rw [HF]
    clear HF hAA
    have HS := Lib.hid hs
    clear hs
    go_enter Try.func37, Try.ntmps37
    go_wp2_with (go_at_call 53; refine (iIsSeries_any m _ _ xs B (OwnI.keep hv (by (repeat (first | assumption | exact Below.refl _ _ | refine Below.alloc ?_ (by first | omega | (simp; done) | (simp; omega)) _ | refine Below.setCell ?_ (by first | omega | (simp; done) | (simp; omega)) _ | refine below_drewN ?_ _))) (Nat.le_refl _)) (by omega)).mono ?_; rintro e w1 ⟨rfl, hb1⟩; rw [HS.out]; obtain ⟨P1, Q1, K1⟩ := Bf.first2 hb1; have p1a := P1.1.2.1; have p1b := P1.1.2.2; have z1 := P1.1.1; have q1a := Q1.1.2.1; have q1b := Q1.1.2.2; have q1c := Q1.2.1; have q1d := Q1.2.2; have y1 := Q1.1.1)
    exact bodyPost_ret (v := .tuple #[.agg #[.int .i64 0, .slice none 0 0], .int .i64 1]) (by simp [results, Try.results37, go_sem, q1a, q1b]) rfl ⟨none, 0, rfl, OwnI.nil_ _ _, by (repeat (first | assumption | exact Below.refl _ _ | refine Below.alloc ?_ (by first | omega | (simp; done) | (simp; omega)) _ | refine Below.setCell ?_ (by first | omega | (simp; done) | (simp; omega)) _ | refine below_drewN ?_ _))⟩
  · obtain ⟨hm, ⟨hl1, hl2⟩, hn⟩ := isSer_true hs
    have hmb := isModB_true hm
    have HM := Lib.hid hm
    have HNL := Lib.hid (isSer_NumL hs)
    cases hd : inB k 0 1000
    · have HF : PowerOfSeriesR m xs k = ((0, []), 2) := by simp [PowerOfSeriesR, hs, hd]
      rw [HF]
      clear HF
      have HS := Lib.hid hs
      have HD := Lib.hid hd
      clear hs hd hm hn
      go_enter Try.func37, Try.ntmps37
      go_wp2_with (first | (go_at_call 53; refine (iIsSeries_any m _ _ xs B (OwnI.keep hv (by (repeat (first | assumption | exact Below.refl _ _ | refine Below.alloc ?_ (by first | omega | (simp; done) | (simp; omega)) _ | refine Below.setCell ?_ (by first | omega | (simp; done) | (simp; omega)) _ | refine below_drewN ?_ _))) (Nat.le_refl _)) (by omega)).mono ?_; rintro e w1 ⟨rfl, hb1⟩; rw [HS.out]; obtain ⟨P1, Q1, K1⟩ := Bf.first2 hb1; have p1a := P1.1.2.1; have p1b := P1.1.2.2; have z1 := P1.1.1; have q1a := Q1.1.2.1; have q1b := Q1.1.2.2; have q1c := Q1.2.1; have q1d := Q1.2.2; have y1 := Q1.1.1) | (go_at_call 62; refine (in_any _ _ _ _).mono ?_; rintro e w2 ⟨rfl, k2, rfl⟩; rw [HD.out]))
      exact bodyPost_ret (v := .tuple #[.agg #[.int .i64 0, .slice none 0 0], .int .i64 2]) (by simp [results, Try.results37, go_sem, q1a, q1b]) rfl ⟨none, 0, rfl, OwnI.nil_ _ _, by (repeat (first | assumption | exact Below.refl _ _ | refine Below.alloc ?_ (by first | omega | (simp; done) | (simp; omega)) _ | refine Below.setCell ?_ (by first | omega | (simp; done) | (simp; omega)) _ | refine below_drewN ?_ _))⟩
    · obtain ⟨kn, rfl⟩ : ∃ kn : Nat, k = (kn : Int) := ⟨k.toNat, by have := inB_true.1 hd; omega⟩
      obtain ⟨ys, hy⟩ : ∃ ys, powL m xs.length kn (conL m xs.length 1) xs = ys := ⟨_, rfl⟩
      have HF : PowerOfSeriesR m xs (kn : Int) = ((m, ys), 0) := by simp only [PowerOfSeriesR, hs, hd, Int.toNat_natCast, hy]; simp
      rw [HF]
      clear HF
      have HS := Lib.hid hs
      have HY := Lib.hid hy
      have HD := Lib.hid hd
      obtain ⟨hk1, hk2⟩ := inB_true.1 hd
      have hkn : kn ≤ 1000 := by omega
      clear hk1 hk2
      clear hs hd hm hn hy
      go_enter Try.func37, Try.ntmps37
      go_wp2_with (first | (go_at_call 53; refine (iIsSeries_any m _ _ xs B (OwnI.keep hv (by (repeat (first | assumption | exact Below.refl _ _ | refine Below.alloc ?_ (by first | omega | (simp; done) | (simp; omega)) _ | refine Below.setCell ?_ (by first | omega | (simp; done) | (simp; omega)) _ | refine below_drewN ?_ _))) (Nat.le_refl _)) (by omega)).mono ?_; rintro e w1 ⟨rfl, hb1⟩; rw [HS.out]; obtain ⟨P1, Q1, K1⟩ := Bf.first2 hb1; have p1a := P1.1.2.1; have p1b := P1.1.2.2; have z1 := P1.1.1; have q1a := Q1.1.2.1; have q1b := Q1.1.2.2; have q1c := Q1.2.1; have q1d := Q1.2.2; have y1 := Q1.1.1) | (go_at_call 62; refine (in_any _ _ _ _).mono ?_; rintro e w2 ⟨rfl, k2, rfl⟩; rw [HD.out]))
      refine (serPower_any _ m _ xs ys kn xs.length B (OwnI.drewN (hv.keep K1 (Nat.le_refl _)) _) (by omega) (by omega) HNL.out rfl (by omega) (by omega) (by omega) HY.out).mono ?_
      rintro e w3 ⟨A3, c3, rfl, o3, hb3⟩
      have R3 : Below w1.heap.size w1 w3 := (Below.trans (by (repeat (first | assumption | exact Below.refl _ _ | refine Below.alloc ?_ (by first | omega | (simp; done) | (simp; omega)) _ | refine Below.setCell ?_ (by first | omega | (simp; done) | (simp; omega)) _ | refine below_drewN ?_ _))) (hb3.mono (by first | exact Nat.le_refl _ | (simp; done) | (simp; omega)))); have s3 := R3.size; have K3 : Below w.heap.size w w3 := K1.trans (R3.mono K1.size); have P3 := P1.keep R3; have Q3 := Q1.keep R3; have p3a := P3.1.2.1; have p3b := P3.1.2.2; have z3 := P3.1.1; have q3a := Q3.1.2.1; have q3b := Q3.1.2.2; have q3c := Q3.2.1; have q3d := Q3.2.2; have y3 := Q3.1.1
      go_wp2
      exact bodyPost_ret (v := .tuple #[.agg #[.int .i64 m, .slice A3 ys.length c3], .int .i64 0]) (by simp [results, Try.results37, go_sem, q3a, q3b]) rfl ⟨A3, c3, rfl, ((o3.setCell_lt (by show _ < w1.heap.size; exact y1) _).setCell_lt (by show _ < w1.heap.size; exact y1) _).mono (by show w.heap.size ≤ w1.heap.size; omega), by (repeat (first | assumption | exact Below.refl _ _ | refine Below.alloc ?_ (by first | omega | (simp; done) | (simp; omega)) _ | refine Below.setCell ?_ (by first | omega | (simp; done) | (simp; omega)) _ | refine below_drewN ?_ _))⟩
set_option maxHeartbeats 1000000 in
theorem sPowerOfSeriesR_any (w : World) (m : Int) (v : Value) (xs : List Int) (k : Int) (B : Nat) (hv : OwnI w B v xs) (hl : xs.length ≤ 2000000) : Calls Try.prog 36 #[.agg #[.int .i64 m, v], .int .i64 k] w (RetSI w (PowerOfSeriesR m xs k)) := by
  obtain ⟨A, cp, e0, hcap1, hcap2, hAA⟩ := hv.open_
  subst e0
  unfold maxLen at hcap2
  cases hs : isSer m xs
  · have HF : PowerOfSeriesR m xs k = ((0, []), 1) := by simp [PowerOfSeriesR, hs]
    rw [HF]
    clear HF hAA
    have HS := Lib.hid hs
    clear hs
    go_enter Try.func36, Try.ntmps36
    go_wp2_with (go_at_call 49; refine (l02Is_any m _ _ xs B (OwnI.keep hv (by (repeat (first | assumption | exact Below.refl _ _ | refine Below.alloc ?_ (by first | omega | (simp; done) | (simp; omega)) _ | refine Below.setCell ?_ (by first | omega | (simp; done) | (simp; omega)) _ | refine below_drewN ?_ _))) (Nat.le_refl _)) (by omega)).mono ?_; rintro e w1 ⟨rfl, hb1⟩; rw [HS.out]; obtain ⟨P1, Q1, K1⟩ := Bf.first2 hb1; have p1a := P1.1.2.1; have p1b := P1.1.2.2; have z1 := P1.1.1; have q1a := Q1.1.2.1; have q1b := Q1.1.2.2; have q1c := Q1.2.1; have q1d := Q1.2.2; have y1 := Q1.1.1)
    exact bodyPost_ret (v := .tuple #[.agg #[.int .i64 0, .slice none 0 0], .int .i64 1]) (by simp [results, Try.results36, go_sem, q1a, q1b]) rfl ⟨none, 0, rfl, OwnI.nil_ _ _, by (repeat (first | assumption | exact Below.refl _ _ | refine Below.alloc ?_ (by first | omega | (simp; done) | (simp; omega)) _ | refine Below.setCell ?_ (by first | omega | (simp; done) | (simp; omega)) _ | refine below_drewN ?_ _))⟩
  · obtain ⟨hm, ⟨hl1, hl2⟩, hn⟩ := isSer_true hs
    have hmb := isModB_true hm
    have HM := Lib.hid hm
    have HNL := Lib.hid (isSer_NumL hs)
    cases hd : inB k 0 1000
    · have HF : PowerOfSeriesR m xs k = ((0, []), 2) := by simp [PowerOfSeriesR, hs, hd]
      rw [HF]
      clear HF
      have HS := Lib.hid hs
      have HD := Lib.hid hd
      clear hs hd hm hn
      go_enter Try.func36, Try.ntmps36
      go_wp2_with (first | (go_at_call 49; refine (l02Is_any m _ _ xs B (OwnI.keep hv (by (repeat (first | assumption | exact Below.refl _ _ | refine Below.alloc ?_ (by first | omega | (simp; done) | (simp; omega)) _ | refine Below.setCell ?_ (by first | omega | (simp; done) | (simp; omega)) _ | refine below_drewN ?_ _))) (Nat.le_refl _)) (by omega)).mono ?_; rintro e w1 ⟨rfl, hb1⟩; rw [HS.out]; obtain ⟨P1, Q1, K1⟩ := Bf.first2 hb1; have p1a := P1.1.2.1; have p1b := P1.1.2.2; have z1 := P1.1.1; have q1a := Q1.1.2.1; have q1b := Q1.1.2.2; have q1c := Q1.2.1; have q1d := Q1.2.2; have y1 := Q1.1.1) | (go_at_call 57; refine (l01In_any _ _ _ _).mono ?_; rintro e w2 ⟨rfl, k2, rfl⟩; rw [HD.out]))
      exact bodyPost_ret (v := .tuple #[.agg #[.int .i64 0, .slice none 0 0], .int .i64 2]) (by simp [results, Try.results36, go_sem, q1a, q1b]) rfl ⟨none, 0, rfl, OwnI.nil_ _ _, by (repeat (first | assumption | exact Below.refl _ _ | refine Below.alloc ?_ (by first | omega | (simp; done) | (simp; omega)) _ | refine Below.setCell ?_ (by first | omega | (simp; done) | (simp; omega)) _ | refine below_drewN ?_ _))⟩
    · obtain ⟨kn, rfl⟩ : ∃ kn : Nat, k = (kn : Int) := ⟨k.toNat, by have := inB_true.1 hd; omega⟩
      obtain ⟨ys, hy⟩ : ∃ ys, powL m xs.length kn (conL m xs.length 1) xs = ys := ⟨_, rfl⟩
      have HF : PowerOfSeriesR m xs (kn : Int) = ((m, ys), 0) := by simp only [PowerOfSeriesR, hs, hd, Int.toNat_natCast, hy]; simp
      rw [HF]
      clear HF
      have HS := Lib.hid hs
      have HY := Lib.hid hy
      have HD := Lib.hid hd
      obtain ⟨hk1, hk2⟩ := inB_true.1 hd
      have hkn : kn ≤ 1000 := by omega
      clear hk1 hk2
      clear hs hd hm hn hy
      go_enter Try.func36, Try.ntmps36
      go_wp2_with (first | (go_at_call 49; refine (l02Is_any m _ _ xs B (OwnI.keep hv (by (repeat (first | assumption | exact Below.refl _ _ | refine Below.alloc ?_ (by first | omega | (simp; done) | (simp; omega)) _ | refine Below.setCell ?_ (by first | omega | (simp; done) | (simp; omega)) _ | refine below_drewN ?_ _))) (Nat.le_refl _)) (by omega)).mono ?_; rintro e w1 ⟨rfl, hb1⟩; rw [HS.out]; obtain ⟨P1, Q1, K1⟩ := Bf.first2 hb1; have p1a := P1.1.2.1; have p1b := P1.1.2.2; have z1 := P1.1.1; have q1a := Q1.1.2.1; have q1b := Q1.1.2.2; have q1c := Q1.2.1; have q1d := Q1.2.2; have y1 := Q1.1.1) | (go_at_call 57; refine (l01In_any _ _ _ _).mono ?_; rintro e w2 ⟨rfl, k2, rfl⟩; rw [HD.out]))
      go_region_held3 (fun w' => w'.cell? ⟨w.heap.size, 0, none⟩ = some (.int .i64 m) ∧ w'.cell? ⟨w.heap.size, 1, none⟩ = some (.slice A xs.length cp)) (first | go_keep | exact ⟨p1a, p1b⟩ | exact ⟨p6a, p6b⟩ | exact ⟨p3a, p3b⟩ | exact ⟨p4a, p4b⟩ | (simp [p4a, p4b]; done))
        (first | (go_at_call 50; refine (l02Degree_any m A xs.length cp _ (by omega)).mono ?_; rintro e w6 ⟨rfl, hb6⟩; have R6 : Below w1.heap.size w1 w6 := (Below.trans (by (repeat (first | assumption | exact Below.refl _ _ | refine Below.alloc ?_ (by first | omega | (simp; done) | (simp; omega)) _ | refine Below.setCell ?_ (by first | omega | (simp; done) | (simp; omega)) _ | refine below_drewN ?_ _))) (hb6.mono (by first | exact Nat.le_refl _ | (simp; done) | (simp; omega)))); have s6 := R6.size; have K6 : Below w.heap.size w w6 := K1.trans (R6.mono K1.size); have P6 := P1.keep R6; have Q6 := Q1.keep R6; have p6a := P6.1.2.1; have p6b := P6.1.2.2; have z6 := P6.1.1; have q6a := Q6.1.2.1; have q6b := Q6.1.2.2; have q6c := Q6.2.1; have q6d := Q6.2.2; have y6 := Q6.1.1) | (go_at_call 74; refine (l02Power_any m _ _ xs ys kn xs.length _ B (hv.keep K6 (Nat.le_refl _)) (by omega) (by omega) HNL.out rfl (by omega) (by omega) (by omega) (by omega) HY.out).mono ?_; rintro e w3 ⟨A3, c3, rfl, o3, hb3⟩; have R3 : Below w6.heap.size w6 w3 := (Below.trans (by (repeat (first | assumption | exact Below.refl _ _ | refine Below.alloc ?_ (by first | omega | (simp; done) | (simp; omega)) _ | refine Below.setCell ?_ (by first | omega | (simp; done) | (simp; omega)) _ | refine below_drewN ?_ _))) (hb3.mono (by first | exact Nat.le_refl _ | (simp; done) | (simp; omega)))); have s3 := R3.size; have K3 : Below w.heap.size w w3 := K6.trans (R3.mono K6.size); have P3 := P6.keep R3; have Q3 := Q6.keep R3; have p3a := P3.1.2.1; have p3b := P3.1.2.2; have z3 := P3.1.1; have q3a := Q3.1.2.1; have q3b := Q3.1.2.2; have q3c := Q3.2.1; have q3d := Q3.2.2; have y3 := Q3.1.1) | (go_at_call 51; refine (l02Make_any _ m A3 ys.length c3).mono ?_; rintro e w4 ⟨rfl, hb4⟩; have R4 : Below w3.heap.size w3 w4 := (Below.trans (by (repeat (first | assumption | exact Below.refl _ _ | refine Below.alloc ?_ (by first | omega | (simp; done) | (simp; omega)) _ | refine Below.setCell ?_ (by first | omega | (simp; done) | (simp; omega)) _ | refine below_drewN ?_ _))) (hb4.mono (by first | exact Nat.le_refl _ | (simp; done) | (simp; omega)))); have s4 := R4.size; have K4 : Below w.heap.size w w4 := K3.trans (R4.mono K3.size); have P4 := P3.keep R4; have Q4 := Q3.keep R4; have p4a := P4.1.2.1; have p4b := P4.1.2.2; have z4 := P4.1.1; have q4a := Q4.1.2.1; have q4b := Q4.1.2.2; have q4c := Q4.2.1; have q4d := Q4.2.2; have y4 := Q4.1.1))
      go_wp2
      exact bodyPost_ret (v := .tuple #[.agg #[.int .i64 m, .slice A3 ys.length c3], .int .i64 0]) (by simp [results, Try.results36, go_sem, q4a, q4b]) rfl ⟨A3, c3, rfl, (((o3.keep R4 (Nat.le_refl _)).setCell_lt (by show _ < w6.heap.size; exact y6) _).setCell_lt (by show _ < w6.heap.size; exact y6) _).mono (by show w.heap.size ≤ w6.heap.size; omega), by (repeat (first | assumption | exact Below.refl _ _ | refine Below.alloc ?_ (by first | omega | (simp; done) | (simp; omega)) _ | refine Below.setCell ?_ (by first | omega | (simp; done) | (simp; omega)) _ | refine below_drewN ?_ _))⟩

/-! ### The laws' walks, printed by genlaw.py -/
set_option maxHeartbeats 4000000 in
theorem FnExactPowerOfSeries_walk (w : World) (m0 : Int) (v0 : Value) (xs0 : List Int) (hv0 : RdI w v0 xs0) (a1 : Int) : Calls Try.prog 9 #[.agg #[.int .i64 m0, v0], .int .i64 a1] w fun e w' => e = .returned (.bool true) ∧ Below w.heap.size w w' := by
  obtain ⟨A0, c0, e0⟩ := hv0.form
  subst e0
  obtain ⟨r0, HR⟩ : ∃ r0, Hid (PowerOfSeriesR m0 xs0 a1 = r0) := ⟨_, rfl⟩
  obtain ⟨⟨rm, rl⟩, rc⟩ := r0
  have hlen := PowerOfSeriesR_len m0 xs0 a1
  rw [HR.out] at hlen
  simp only at hlen
  by_cases hz0 : 1048576 < (xs0.length : Int)
  · skip
    have HZ0 := Lib.hid (szN_lt hz0)
    go_enter Try.func9, Try.ntmps9
    go_wp2_with fail
    refine (szS_any _ m0 _ xs0 (1048576) (hv0.below (by (repeat (first | assumption | exact Below.refl _ _ | refine Below.alloc ?_ (by first | omega | (simp; done) | (simp; omega)) _ | refine Below.setCell ?_ (by first | omega | (simp; done) | (simp; omega)) _ | refine below_drewN ?_ _)))) (by omega) (by omega)).mono ?_
    rintro e w1 ⟨rfl, hb1⟩
    rw [HZ0.out]
    have R : Below w.heap.size w w1 := Below.trans (by (repeat (first | assumption | exact Below.refl _ _ | refine Below.alloc ?_ (by first | omega | (simp; done) | (simp; omega)) _ | refine Below.setCell ?_ (by first | omega | (simp; done) | (simp; omega)) _ | refine below_drewN ?_ _))) (hb1.mono (by first | exact Nat.le_refl _ | (simp; done) | (simp; omega)))
    have s1 : w.heap.size ≤ w1.heap.size := R.size
    have K1 : Hid (Below w.heap.size w w1) := R
    have b0 : Hid (Bx w1 w.heap.size (.int .i64 m0) (.slice A0 xs0.length c0)) := ⟨by have := hb1.size; simp at this; omega, by rw [hb1.cell (by first | (simp; done) | (simp; omega))]; simp, by rw [hb1.cell (by first | (simp; done) | (simp; omega))]; simp⟩
    clear R hb1
    have b0_c := b0.out.2.1
    have b0_d := b0.out.2.2
    have b0_z := b0.out.1
    go_wp2
    go_ret
    exact ⟨rfl, K1.out⟩
  have HZ0 := Lib.hid (szN_ge hz0)
  have hl0 : (xs0.length : Int) ≤ 1048576 := by omega
  clear hz0
  go_enter Try.func9, Try.ntmps9
  go_wp2_with fail
  refine (szS_any _ m0 _ xs0 (1048576) (hv0.below (by (repeat (first | assumption | exact Below.refl _ _ | refine Below.alloc ?_ (by first | omega | (simp; done) | (simp; omega)) _ | refine Below.setCell ?_ (by first | omega | (simp; done) | (simp; omega)) _ | refine below_drewN ?_ _)))) (by omega) (by omega)).mono ?_
  rintro e w2 ⟨rfl, hb2⟩
  rw [HZ0.out]
  have R : Below w.heap.size w w2 := Below.trans (by (repeat (first | assumption | exact Below.refl _ _ | refine Below.alloc ?_ (by first | omega | (simp; done) | (simp; omega)) _ | refine Below.setCell ?_ (by first | omega | (simp; done) | (simp; omega)) _ | refine below_drewN ?_ _))) (hb2.mono (by first | exact Nat.le_refl _ | (simp; done) | (simp; omega)))
  have s2 : w.heap.size ≤ w2.heap.size := R.size
  have K2 : Hid (Below w.heap.size w w2) := R
  have b0 : Hid (Bx w2 w.heap.size (.int .i64 m0) (.slice A0 xs0.length c0)) := ⟨by have := hb2.size; simp at this; omega, by rw [hb2.cell (by first | (simp; done) | (simp; omega))]; simp, by rw [hb2.cell (by first | (simp; done) | (simp; omega))]; simp⟩
  clear R hb2
  have b0_c := b0.out.2.1
  have b0_d := b0.out.2.2
  have b0_z := b0.out.1
  go_wp2_with fail
  refine (toS_any _ m0 _ xs0 (hv0.below K2.out) (by omega)).mono ?_
  rintro e w3 ⟨A_p0, c_p0, rfl, o_p0, hb3⟩
  clear b0_c b0_d b0_z
  have o_p0' := o_p0.mono (show w2.heap.size ≤ _ from by first | exact Nat.le_refl _ | (simp; done) | (simp; omega))
  clear o_p0
  have R : Below w2.heap.size w2 w3 := Below.trans (by (repeat (first | assumption | exact Below.refl _ _ | refine Below.alloc ?_ (by first | omega | (simp; done) | (simp; omega)) _ | refine Below.setCell ?_ (by first | omega | (simp; done) | (simp; omega)) _ | refine below_drewN ?_ _))) (hb3.mono (by first | exact Nat.le_refl _ | (simp; done) | (simp; omega)))
  have s3 : w2.heap.size ≤ w3.heap.size := R.size
  have K3 : Hid (Below w.heap.size w w3) := K2.out.trans (R.mono (by omega))
  replace b0 : Hid (Bx w3 w.heap.size (.int .i64 m0) (.slice A0 xs0.length c0)) := b0.out.keep R
  clear R hb3
  have p0 : Hid (OwnI w3 w2.heap.size (.slice A_p0 xs0.length c_p0) xs0) := o_p0'
  have p0_u : Hid (∀ g, Value.ownBlock (.slice A_p0 xs0.length c_p0) = some g → w2.heap.size ≤ g ∧ g < w3.heap.size) := fun g hg => o_p0'.block_ge hg
  clear o_p0'
  have b0_c := b0.out.2.1
  have b0_d := b0.out.2.2
  have b0_z := b0.out.1
  go_wp2_with fail
  refine (sPowerOfSeriesR_any _ m0 (.slice A_p0 xs0.length c_p0) xs0 a1 w2.heap.size (p0.out.keep (by (repeat (first | assumption | exact Below.refl _ _ | refine Below.alloc ?_ (by first | omega | (simp; done) | (simp; omega)) _ | refine Below.setCell ?_ (by first | omega | (simp; done) | (simp; omega)) _ | refine below_drewN ?_ _))) (Nat.le_refl _)) (by omega)).mono ?_
  rintro e w4 h_r
  replace h_r := h_r.of HR
  obtain ⟨A_ow, c_ow, rfl, o_ow, hb4⟩ := h_r
  have o_ow' := o_ow.mono (show w3.heap.size ≤ _ from by first | exact Nat.le_refl _ | (simp; done) | (simp; omega))
  clear o_ow
  clear b0_c b0_d b0_z
  have R : Below w3.heap.size w3 w4 := Below.trans (by (repeat (first | assumption | exact Below.refl _ _ | refine Below.alloc ?_ (by first | omega | (simp; done) | (simp; omega)) _ | refine Below.setCell ?_ (by first | omega | (simp; done) | (simp; omega)) _ | refine below_drewN ?_ _))) (hb4.mono (by first | exact Nat.le_refl _ | (simp; done) | (simp; omega)))
  have s4 : w3.heap.size ≤ w4.heap.size := R.size
  have K4 : Hid (Below w.heap.size w w4) := K3.out.trans (R.mono (by omega))
  replace b0 : Hid (Bx w4 w.heap.size (.int .i64 m0) (.slice A0 xs0.length c0)) := b0.out.keep R
  replace p0 : Hid (OwnI w4 w2.heap.size (.slice A_p0 xs0.length c_p0) xs0) := p0.out.keep R (Nat.le_refl _)
  clear R hb4
  have ow : Hid (OwnI w4 w3.heap.size (.slice A_ow rl.length c_ow) rl) := o_ow'
  have ow_u : Hid (∀ g, Value.ownBlock (.slice A_ow rl.length c_ow) = some g → w3.heap.size ≤ g ∧ g < w4.heap.size) := fun g hg => o_ow'.block_ge hg
  clear o_ow'
  clear p0 p0_u
  have b0_c := b0.out.2.1
  have b0_d := b0.out.2.2
  have b0_z := b0.out.1
  go_wp2_with fail
  refine (toS_any _ m0 _ xs0 (hv0.below (K4.out.trans (Below.mono (by (repeat (first | assumption | exact Below.refl _ _ | refine Below.alloc ?_ (by first | omega | (simp; done) | (simp; omega)) _ | refine Below.setCell ?_ (by first | omega | (simp; done) | (simp; omega)) _ | refine below_drewN ?_ _))) (by omega)))) (by omega)).mono ?_
  rintro e w5 ⟨A_x0, c_x0, rfl, o_x0, hb5⟩
  clear b0_c b0_d b0_z
  have o_x0' := o_x0.mono (show (w4.heap.size + 1) ≤ _ from by first | exact Nat.le_refl _ | (simp; done) | (simp; omega))
  clear o_x0
  have R : Below w4.heap.size w4 w5 := Below.trans (by (repeat (first | assumption | exact Below.refl _ _ | refine Below.alloc ?_ (by first | omega | (simp; done) | (simp; omega)) _ | refine Below.setCell ?_ (by first | omega | (simp; done) | (simp; omega)) _ | refine below_drewN ?_ _))) (hb5.mono (by first | exact Nat.le_refl _ | (simp; done) | (simp; omega)))
  have s5 : w4.heap.size ≤ w5.heap.size := R.size
  have K5 : Hid (Below w.heap.size w w5) := K4.out.trans (R.mono (by omega))
  replace b0 : Hid (Bx w5 w.heap.size (.int .i64 m0) (.slice A0 xs0.length c0)) := b0.out.keep R
  replace ow : Hid (OwnI w5 w3.heap.size (.slice A_ow rl.length c_ow) rl) := ow.out.keep R (Nat.le_refl _)
  have bw : Hid (Bx w5 w4.heap.size (.int .i64 rm) (.slice A_ow rl.length c_ow)) := ⟨by have := hb5.size; simp at this; omega, by rw [hb5.cell (by first | (simp; done) | (simp; omega))]; simp, by rw [hb5.cell (by first | (simp; done) | (simp; omega))]; simp⟩
  clear R hb5
  have x0 : Hid (OwnI w5 (w4.heap.size + 1) (.slice A_x0 xs0.length c_x0) xs0) := o_x0'
  have x0_u : Hid (∀ g, Value.ownBlock (.slice A_x0 xs0.length c_x0) = some g → (w4.heap.size + 1) ≤ g ∧ g < w5.heap.size) := fun g hg => o_x0'.block_ge hg
  clear o_x0'
  have b0_c := b0.out.2.1
  have b0_d := b0.out.2.2
  have b0_z := b0.out.1
  have bw_c := bw.out.2.1
  have bw_d := bw.out.2.2
  have bw_z := bw.out.1
  go_wp2_with fail
  refine (iPowerOfSeriesR_any _ m0 (.slice A_x0 xs0.length c_x0) xs0 a1 (w4.heap.size + 1) (x0.out.keep (by (repeat (first | assumption | exact Below.refl _ _ | refine Below.alloc ?_ (by first | omega | (simp; done) | (simp; omega)) _ | refine Below.setCell ?_ (by first | omega | (simp; done) | (simp; omega)) _ | refine below_drewN ?_ _))) (Nat.le_refl _)) (by omega)).mono ?_
  rintro e w6 h_r
  replace h_r := h_r.of HR
  obtain ⟨A_og, c_og, rfl, o_og, hb6⟩ := h_r
  have o_og' := o_og.mono (show (w5.heap.size + 1) ≤ _ from by first | exact Nat.le_refl _ | (simp; done) | (simp; omega))
  clear o_og
  clear b0_c b0_d b0_z
  clear bw_c bw_d bw_z
  have R : Below w5.heap.size w5 w6 := Below.trans (by (repeat (first | assumption | exact Below.refl _ _ | refine Below.alloc ?_ (by first | omega | (simp; done) | (simp; omega)) _ | refine Below.setCell ?_ (by first | omega | (simp; done) | (simp; omega)) _ | refine below_drewN ?_ _))) (hb6.mono (by first | exact Nat.le_refl _ | (simp; done) | (simp; omega)))
  have s6 : w5.heap.size ≤ w6.heap.size := R.size
  have K6 : Hid (Below w.heap.size w w6) := K5.out.trans (R.mono (by omega))
  replace b0 : Hid (Bx w6 w.heap.size (.int .i64 m0) (.slice A0 xs0.length c0)) := b0.out.keep R
  replace bw : Hid (Bx w6 w4.heap.size (.int .i64 rm) (.slice A_ow rl.length c_ow)) := bw.out.keep R
  replace ow : Hid (OwnI w6 w3.heap.size (.slice A_ow rl.length c_ow) rl) := ow.out.keep R (Nat.le_refl _)
  replace x0 : Hid (OwnI w6 (w4.heap.size + 1) (.slice A_x0 xs0.length c_x0) xs0) := x0.out.keep R (Nat.le_refl _)
  have bx0 : Hid (Bx w6 w5.heap.size (.int .i64 m0) (.slice A_x0 xs0.length c_x0)) := ⟨by have := hb6.size; simp at this; omega, by rw [hb6.cell (by first | (simp; done) | (simp; omega))]; simp, by rw [hb6.cell (by first | (simp; done) | (simp; omega))]; simp⟩
  clear R hb6
  have og : Hid (OwnI w6 (w5.heap.size + 1) (.slice A_og rl.length c_og) rl) := o_og'
  have og_u : Hid (∀ g, Value.ownBlock (.slice A_og rl.length c_og) = some g → (w5.heap.size + 1) ≤ g ∧ g < w6.heap.size) := fun g hg => o_og'.block_ge hg
  clear o_og'
  have b0_c := b0.out.2.1
  have b0_d := b0.out.2.2
  have b0_z := b0.out.1
  have bw_c := bw.out.2.1
  have bw_d := bw.out.2.2
  have bw_z := bw.out.1
  have bx0_c := bx0.out.2.1
  have bx0_d := bx0.out.2.2
  have bx0_z := bx0.out.1
  go_wp2_with fail
  refine (eqS_any _ rm rm _ _ _ _ (og.out.keep (by (repeat (first | assumption | exact Below.refl _ _ | refine Below.alloc ?_ (by first | omega | (simp; done) | (simp; omega)) _ | refine Below.setCell ?_ (by first | omega | (simp; done) | (simp; omega)) _ | refine below_drewN ?_ _))) (Nat.le_refl _)).rd (ow.out.keep (by (repeat (first | assumption | exact Below.refl _ _ | refine Below.alloc ?_ (by first | omega | (simp; done) | (simp; omega)) _ | refine Below.setCell ?_ (by first | omega | (simp; done) | (simp; omega)) _ | refine below_drewN ?_ _))) (Nat.le_refl _)).rd).mono ?_
  rintro e w7 ⟨rfl, hb7⟩
  clear b0_c b0_d b0_z
  clear bw_c bw_d bw_z
  clear bx0_c bx0_d bx0_z
  have R : Below w6.heap.size w6 w7 := Below.trans (by (repeat (first | assumption | exact Below.refl _ _ | refine Below.alloc ?_ (by first | omega | (simp; done) | (simp; omega)) _ | refine Below.setCell ?_ (by first | omega | (simp; done) | (simp; omega)) _ | refine below_drewN ?_ _))) (hb7.mono (by first | exact Nat.le_refl _ | (simp; done) | (simp; omega)))
  have s7 : w6.heap.size ≤ w7.heap.size := R.size
  have K7 : Hid (Below w.heap.size w w7) := K6.out.trans (R.mono (by omega))
  replace b0 : Hid (Bx w7 w.heap.size (.int .i64 m0) (.slice A0 xs0.length c0)) := b0.out.keep R
  replace bw : Hid (Bx w7 w4.heap.size (.int .i64 rm) (.slice A_ow rl.length c_ow)) := bw.out.keep R
  replace bx0 : Hid (Bx w7 w5.heap.size (.int .i64 m0) (.slice A_x0 xs0.length c_x0)) := bx0.out.keep R
  replace ow : Hid (OwnI w7 w3.heap.size (.slice A_ow rl.length c_ow) rl) := ow.out.keep R (Nat.le_refl _)
  replace x0 : Hid (OwnI w7 (w4.heap.size + 1) (.slice A_x0 xs0.length c_x0) xs0) := x0.out.keep R (Nat.le_refl _)
  replace og : Hid (OwnI w7 (w5.heap.size + 1) (.slice A_og rl.length c_og) rl) := og.out.keep R (Nat.le_refl _)
  have bg : Hid (Bx w7 w6.heap.size (.int .i64 rm) (.slice A_og rl.length c_og)) := ⟨by have := hb7.size; simp at this; omega, by rw [hb7.cell (by first | (simp; done) | (simp; omega))]; simp, by rw [hb7.cell (by first | (simp; done) | (simp; omega))]; simp⟩
  clear R hb7
  have b0_c := b0.out.2.1
  have b0_d := b0.out.2.2
  have b0_z := b0.out.1
  have bw_c := bw.out.2.1
  have bw_d := bw.out.2.2
  have bw_z := bw.out.1
  have bx0_c := bx0.out.2.1
  have bx0_d := bx0.out.2.2
  have bx0_z := bx0.out.1
  have bg_c := bg.out.2.1
  have bg_d := bg.out.2.2
  have bg_z := bg.out.1
  go_wp2
  clear b0_c b0_d b0_z
  clear bw_c bw_d bw_z
  clear bx0_c bx0_d bx0_z
  clear bg_c bg_d bg_z
  have L0 : Below w.heap.size w w7.drew := below_drew K7.out
  have T0 : Hid (Bx w7.drew w.heap.size (.int .i64 m0) (.slice A0 xs0.length c0) ∧ Bx w7.drew w4.heap.size (.int .i64 rm) (.slice A_ow rl.length c_ow) ∧ Bx w7.drew w5.heap.size (.int .i64 m0) (.slice A_x0 xs0.length c_x0) ∧ Bx w7.drew w6.heap.size (.int .i64 rm) (.slice A_og rl.length c_og) ∧ OwnI w7.drew w3.heap.size (.slice A_ow rl.length c_ow) rl ∧ OwnI w7.drew (w4.heap.size + 1) (.slice A_x0 xs0.length c_x0) xs0 ∧ OwnI w7.drew (w5.heap.size + 1) (.slice A_og rl.length c_og) rl ∧ Below w.heap.size w w7.drew ∧ w7.heap.size ≤ w7.drew.heap.size) := ⟨b0.out, bw.out, bx0.out, bg.out, ow.out, x0.out, og.out, L0, Nat.le_refl _⟩
  go_region_held3 (fun w' => w'.cell? ⟨w.heap.size, 0, none⟩ = some (.int .i64 m0) ∧ w'.cell? ⟨w.heap.size, 1, none⟩ = some (.slice A0 xs0.length c0) ∧ w'.cell? ⟨w4.heap.size, 0, none⟩ = some (.int .i64 rm) ∧ w'.cell? ⟨w4.heap.size, 1, none⟩ = some (.slice A_ow rl.length c_ow) ∧ w'.cell? ⟨w5.heap.size, 0, none⟩ = some (.int .i64 m0) ∧ w'.cell? ⟨w5.heap.size, 1, none⟩ = some (.slice A_x0 xs0.length c_x0) ∧ w'.cell? ⟨w6.heap.size, 0, none⟩ = some (.int .i64 rm) ∧ w'.cell? ⟨w6.heap.size, 1, none⟩ = some (.slice A_og rl.length c_og) ∧ Hid (Bx w' w.heap.size (.int .i64 m0) (.slice A0 xs0.length c0) ∧ Bx w' w4.heap.size (.int .i64 rm) (.slice A_ow rl.length c_ow) ∧ Bx w' w5.heap.size (.int .i64 m0) (.slice A_x0 xs0.length c_x0) ∧ Bx w' w6.heap.size (.int .i64 rm) (.slice A_og rl.length c_og) ∧ OwnI w' w3.heap.size (.slice A_ow rl.length c_ow) rl ∧ OwnI w' (w4.heap.size + 1) (.slice A_x0 xs0.length c_x0) xs0 ∧ OwnI w' (w5.heap.size + 1) (.slice A_og rl.length c_og) rl ∧ Below w.heap.size w w' ∧ w7.heap.size ≤ w'.heap.size))
    (first | exact ⟨(T0.out.1).2.1, (T0.out.1).2.2, (T0.out.2.1).2.1, (T0.out.2.1).2.2, (T0.out.2.2.1).2.1, (T0.out.2.2.1).2.2, (T0.out.2.2.2.1).2.1, (T0.out.2.2.2.1).2.2, T0⟩ | exact ⟨(T1.out.1).2.1, (T1.out.1).2.2, (T1.out.2.1).2.1, (T1.out.2.1).2.2, (T1.out.2.2.1).2.1, (T1.out.2.2.1).2.2, (T1.out.2.2.2.1).2.1, (T1.out.2.2.2.1).2.2, T1⟩ | exact ⟨(T2.out.1).2.1, (T2.out.1).2.2, (T2.out.2.1).2.1, (T2.out.2.1).2.2, (T2.out.2.2.1).2.1, (T2.out.2.2.1).2.2, (T2.out.2.2.2.1).2.1, (T2.out.2.2.2.1).2.2, T2⟩)
    (first
      | (go_at_call 17; refine (toS_any _ m0 _ xs0 (hv0.below L0) (by omega)).mono ?_; rintro e w8 ⟨A_t, c_t, rfl, o_t, hbA⟩; have T1 : Hid (Bx w8 w.heap.size (.int .i64 m0) (.slice A0 xs0.length c0) ∧ Bx w8 w4.heap.size (.int .i64 rm) (.slice A_ow rl.length c_ow) ∧ Bx w8 w5.heap.size (.int .i64 m0) (.slice A_x0 xs0.length c_x0) ∧ Bx w8 w6.heap.size (.int .i64 rm) (.slice A_og rl.length c_og) ∧ OwnI w8 w3.heap.size (.slice A_ow rl.length c_ow) rl ∧ OwnI w8 (w4.heap.size + 1) (.slice A_x0 xs0.length c_x0) xs0 ∧ OwnI w8 (w5.heap.size + 1) (.slice A_og rl.length c_og) rl ∧ Below w.heap.size w w8 ∧ w7.heap.size ≤ w8.heap.size) := ⟨(T0.out.1).keep hbA, (T0.out.2.1).keep hbA, (T0.out.2.2.1).keep hbA, (T0.out.2.2.2.1).keep hbA, (T0.out.2.2.2.2.1).keep hbA (Nat.le_refl _), (T0.out.2.2.2.2.2.1).keep hbA (Nat.le_refl _), (T0.out.2.2.2.2.2.2.1).keep hbA (Nat.le_refl _), (T0.out.2.2.2.2.2.2.2.1).trans (hbA.mono (Nat.le_trans (show w.heap.size ≤ w7.heap.size from by omega) (T0.out.2.2.2.2.2.2.2.2))), Nat.le_trans (T0.out.2.2.2.2.2.2.2.2) hbA.size⟩)
      | (go_at_call 19; refine (eqS_any _ m0 m0 _ _ xs0 xs0 (T1.out.2.2.2.2.2.1).rd o_t.rd).mono ?_; rintro e w9 ⟨rfl, hbB⟩; have T2 : Hid (Bx w9 w.heap.size (.int .i64 m0) (.slice A0 xs0.length c0) ∧ Bx w9 w4.heap.size (.int .i64 rm) (.slice A_ow rl.length c_ow) ∧ Bx w9 w5.heap.size (.int .i64 m0) (.slice A_x0 xs0.length c_x0) ∧ Bx w9 w6.heap.size (.int .i64 rm) (.slice A_og rl.length c_og) ∧ OwnI w9 w3.heap.size (.slice A_ow rl.length c_ow) rl ∧ OwnI w9 (w4.heap.size + 1) (.slice A_x0 xs0.length c_x0) xs0 ∧ OwnI w9 (w5.heap.size + 1) (.slice A_og rl.length c_og) rl ∧ Below w.heap.size w w9 ∧ w7.heap.size ≤ w9.heap.size) := ⟨(T1.out.1).keep hbB, (T1.out.2.1).keep hbB, (T1.out.2.2.1).keep hbB, (T1.out.2.2.2.1).keep hbB, (T1.out.2.2.2.2.1).keep hbB (Nat.le_refl _), (T1.out.2.2.2.2.2.1).keep hbB (Nat.le_refl _), (T1.out.2.2.2.2.2.2.1).keep hbB (Nat.le_refl _), (T1.out.2.2.2.2.2.2.2.1).trans (hbB.mono (Nat.le_trans (show w.heap.size ≤ w7.heap.size from by omega) (T1.out.2.2.2.2.2.2.2.2))), Nat.le_trans (T1.out.2.2.2.2.2.2.2.2) hbB.size⟩))
  have s9 : w7.heap.size ≤ w9.heap.size := T2.out.2.2.2.2.2.2.2.2
  have K9 : Hid (Below w.heap.size w w9) := T2.out.2.2.2.2.2.2.2.1
  replace b0 : Hid (Bx w9 w.heap.size (.int .i64 m0) (.slice A0 xs0.length c0)) := T2.out.1
  replace bw : Hid (Bx w9 w4.heap.size (.int .i64 rm) (.slice A_ow rl.length c_ow)) := T2.out.2.1
  replace bx0 : Hid (Bx w9 w5.heap.size (.int .i64 m0) (.slice A_x0 xs0.length c_x0)) := T2.out.2.2.1
  replace bg : Hid (Bx w9 w6.heap.size (.int .i64 rm) (.slice A_og rl.length c_og)) := T2.out.2.2.2.1
  replace ow : Hid (OwnI w9 w3.heap.size (.slice A_ow rl.length c_ow) rl) := T2.out.2.2.2.2.1
  replace x0 : Hid (OwnI w9 (w4.heap.size + 1) (.slice A_x0 xs0.length c_x0) xs0) := T2.out.2.2.2.2.2.1
  replace og : Hid (OwnI w9 (w5.heap.size + 1) (.slice A_og rl.length c_og) rl) := T2.out.2.2.2.2.2.2.1
  clear T0 T1 T2 L0 o_t
  have b0_c := b0.out.2.1
  have b0_d := b0.out.2.2
  have b0_z := b0.out.1
  have bw_c := bw.out.2.1
  have bw_d := bw.out.2.2
  have bw_z := bw.out.1
  have bx0_c := bx0.out.2.1
  have bx0_d := bx0.out.2.2
  have bx0_z := bx0.out.1
  have bg_c := bg.out.2.1
  have bg_d := bg.out.2.2
  have bg_z := bg.out.1
  go_wp2_with fail
  refine (markS_any _ (w4.heap.size + 1) m0 _ _ xs0.length (1) (x0.out.keep (by (repeat (first | assumption | exact Below.refl _ _ | refine Below.alloc ?_ (by first | omega | (simp; done) | (simp; omega)) _ | refine Below.setCell ?_ (by first | omega | (simp; done) | (simp; omega)) _ | refine below_drewN ?_ _))) (Nat.le_refl _)) rfl (by omega) (by omega) (by omega)).mono ?_
  rintro e w10 ⟨rfl, o_m, hg10⟩
  clear b0_c b0_d b0_z
  clear bw_c bw_d bw_z
  clear bx0_c bx0_d bx0_z
  clear bg_c bg_d bg_z
  have R : w9.grownBy w10 (Value.ownBlock (.slice A_x0 xs0.length c_x0)) := grownBy_behind (by (repeat (first | assumption | exact Below.refl _ _ | refine Below.alloc ?_ (by first | omega | (simp; done) | (simp; omega)) _ | refine Below.setCell ?_ (by first | omega | (simp; done) | (simp; omega)) _ | refine below_drewN ?_ _))) hg10
  have s10 : w9.heap.size ≤ w10.heap.size := R.size
  have K10 : Hid (Below w.heap.size w w10) := below_grownBy K9.out (by omega) R (fun g hg => by have := x0_u.out g hg; omega)
  replace b0 : Hid (Bx w10 w.heap.size (.int .i64 m0) (.slice A0 xs0.length c0)) := b0.out.grown R (fun g hg => by have := x0_u.out g hg; omega)
  replace bw : Hid (Bx w10 w4.heap.size (.int .i64 rm) (.slice A_ow rl.length c_ow)) := bw.out.grown R (fun g hg => by have := x0_u.out g hg; omega)
  replace bx0 : Hid (Bx w10 w5.heap.size (.int .i64 m0) (.slice A_x0 xs0.length c_x0)) := bx0.out.grown R (fun g hg => by have := x0_u.out g hg; omega)
  replace bg : Hid (Bx w10 w6.heap.size (.int .i64 rm) (.slice A_og rl.length c_og)) := bg.out.grown R (fun g hg => by have := x0_u.out g hg; omega)
  replace ow : Hid (OwnI w10 w3.heap.size (.slice A_ow rl.length c_ow) rl) := ow.out.grown R (fun g g' hg hg' => by have := ow_u.out g hg; have := x0_u.out g' hg'; omega)
  replace og : Hid (OwnI w10 (w5.heap.size + 1) (.slice A_og rl.length c_og) rl) := og.out.grown R (fun g g' hg hg' => by have := og_u.out g hg; have := x0_u.out g' hg'; omega)
  clear R hg10
  replace x0 : Hid (OwnI w10 (w4.heap.size + 1) (.slice A_x0 xs0.length c_x0) (marks (1) xs0.length)) := o_m
  clear o_m
  have b0_c := b0.out.2.1
  have b0_d := b0.out.2.2
  have b0_z := b0.out.1
  have bw_c := bw.out.2.1
  have bw_d := bw.out.2.2
  have bw_z := bw.out.1
  have bx0_c := bx0.out.2.1
  have bx0_d := bx0.out.2.2
  have bx0_z := bx0.out.1
  have bg_c := bg.out.2.1
  have bg_d := bg.out.2.2
  have bg_z := bg.out.1
  go_wp2_with fail
  refine (eqS_any _ rm rm _ _ _ _ (og.out.keep (by (repeat (first | assumption | exact Below.refl _ _ | refine Below.alloc ?_ (by first | omega | (simp; done) | (simp; omega)) _ | refine Below.setCell ?_ (by first | omega | (simp; done) | (simp; omega)) _ | refine below_drewN ?_ _))) (Nat.le_refl _)).rd (ow.out.keep (by (repeat (first | assumption | exact Below.refl _ _ | refine Below.alloc ?_ (by first | omega | (simp; done) | (simp; omega)) _ | refine Below.setCell ?_ (by first | omega | (simp; done) | (simp; omega)) _ | refine below_drewN ?_ _))) (Nat.le_refl _)).rd).mono ?_
  rintro e w11 ⟨rfl, hb11⟩
  clear b0_c b0_d b0_z
  clear bw_c bw_d bw_z
  clear bx0_c bx0_d bx0_z
  clear bg_c bg_d bg_z
  have R : Below w10.heap.size w10 w11 := Below.trans (by (repeat (first | assumption | exact Below.refl _ _ | refine Below.alloc ?_ (by first | omega | (simp; done) | (simp; omega)) _ | refine Below.setCell ?_ (by first | omega | (simp; done) | (simp; omega)) _ | refine below_drewN ?_ _))) (hb11.mono (by first | exact Nat.le_refl _ | (simp; done) | (simp; omega)))
  have s11 : w10.heap.size ≤ w11.heap.size := R.size
  have K11 : Hid (Below w.heap.size w w11) := K10.out.trans (R.mono (by omega))
  replace b0 : Hid (Bx w11 w.heap.size (.int .i64 m0) (.slice A0 xs0.length c0)) := b0.out.keep R
  replace bw : Hid (Bx w11 w4.heap.size (.int .i64 rm) (.slice A_ow rl.length c_ow)) := bw.out.keep R
  replace bx0 : Hid (Bx w11 w5.heap.size (.int .i64 m0) (.slice A_x0 xs0.length c_x0)) := bx0.out.keep R
  replace bg : Hid (Bx w11 w6.heap.size (.int .i64 rm) (.slice A_og rl.length c_og)) := bg.out.keep R
  replace ow : Hid (OwnI w11 w3.heap.size (.slice A_ow rl.length c_ow) rl) := ow.out.keep R (Nat.le_refl _)
  replace x0 : Hid (OwnI w11 (w4.heap.size + 1) (.slice A_x0 xs0.length c_x0) (marks (1) xs0.length)) := x0.out.keep R (Nat.le_refl _)
  replace og : Hid (OwnI w11 (w5.heap.size + 1) (.slice A_og rl.length c_og) rl) := og.out.keep R (Nat.le_refl _)
  clear R hb11
  have b0_c := b0.out.2.1
  have b0_d := b0.out.2.2
  have b0_z := b0.out.1
  have bw_c := bw.out.2.1
  have bw_d := bw.out.2.2
  have bw_z := bw.out.1
  have bx0_c := bx0.out.2.1
  have bx0_d := bx0.out.2.2
  have bx0_z := bx0.out.1
  have bg_c := bg.out.2.1
  have bg_d := bg.out.2.2
  have bg_z := bg.out.1
  go_wp2_with fail
  refine (markS_any _ (w5.heap.size + 1) rm _ _ rl.length (1) (og.out.keep (by (repeat (first | assumption | exact Below.refl _ _ | refine Below.alloc ?_ (by first | omega | (simp; done) | (simp; omega)) _ | refine Below.setCell ?_ (by first | omega | (simp; done) | (simp; omega)) _ | refine below_drewN ?_ _))) (Nat.le_refl _)) rfl (by omega) (by omega) (by omega)).mono ?_
  rintro e w12 ⟨rfl, o_m, hg12⟩
  clear b0_c b0_d b0_z
  clear bw_c bw_d bw_z
  clear bx0_c bx0_d bx0_z
  clear bg_c bg_d bg_z
  have R : w11.grownBy w12 (Value.ownBlock (.slice A_og rl.length c_og)) := grownBy_behind (by (repeat (first | assumption | exact Below.refl _ _ | refine Below.alloc ?_ (by first | omega | (simp; done) | (simp; omega)) _ | refine Below.setCell ?_ (by first | omega | (simp; done) | (simp; omega)) _ | refine below_drewN ?_ _))) hg12
  have s12 : w11.heap.size ≤ w12.heap.size := R.size
  have K12 : Hid (Below w.heap.size w w12) := below_grownBy K11.out (by omega) R (fun g hg => by have := og_u.out g hg; omega)
  replace b0 : Hid (Bx w12 w.heap.size (.int .i64 m0) (.slice A0 xs0.length c0)) := b0.out.grown R (fun g hg => by have := og_u.out g hg; omega)
  replace bw : Hid (Bx w12 w4.heap.size (.int .i64 rm) (.slice A_ow rl.length c_ow)) := bw.out.grown R (fun g hg => by have := og_u.out g hg; omega)
  replace bx0 : Hid (Bx w12 w5.heap.size (.int .i64 m0) (.slice A_x0 xs0.length c_x0)) := bx0.out.grown R (fun g hg => by have := og_u.out g hg; omega)
  replace bg : Hid (Bx w12 w6.heap.size (.int .i64 rm) (.slice A_og rl.length c_og)) := bg.out.grown R (fun g hg => by have := og_u.out g hg; omega)
  replace ow : Hid (OwnI w12 w3.heap.size (.slice A_ow rl.length c_ow) rl) := ow.out.grown R (fun g g' hg hg' => by have := ow_u.out g hg; have := og_u.out g' hg'; omega)
  replace x0 : Hid (OwnI w12 (w4.heap.size + 1) (.slice A_x0 xs0.length c_x0) (marks (1) xs0.length)) := x0.out.grown R (fun g g' hg hg' => by have := x0_u.out g hg; have := og_u.out g' hg'; omega)
  clear R hg12
  replace og : Hid (OwnI w12 (w5.heap.size + 1) (.slice A_og rl.length c_og) (marks (1) rl.length)) := o_m
  clear o_m
  have b0_c := b0.out.2.1
  have b0_d := b0.out.2.2
  have b0_z := b0.out.1
  have bw_c := bw.out.2.1
  have bw_d := bw.out.2.2
  have bw_z := bw.out.1
  have bx0_c := bx0.out.2.1
  have bx0_d := bx0.out.2.2
  have bx0_z := bx0.out.1
  have bg_c := bg.out.2.1
  have bg_d := bg.out.2.2
  have bg_z := bg.out.1
  go_wp2_with fail
  refine (heldS_any _ (w5.heap.size + 1) rm _ rl.length (1) (og.out.keep (by (repeat (first | assumption | exact Below.refl _ _ | refine Below.alloc ?_ (by first | omega | (simp; done) | (simp; omega)) _ | refine Below.setCell ?_ (by first | omega | (simp; done) | (simp; omega)) _ | refine below_drewN ?_ _))) (Nat.le_refl _)) (by omega) (by omega) (by omega)).mono ?_
  rintro e w13 ⟨rfl, hb13⟩
  clear b0_c b0_d b0_z
  clear bw_c bw_d bw_z
  clear bx0_c bx0_d bx0_z
  clear bg_c bg_d bg_z
  have R : Below w12.heap.size w12 w13 := Below.trans (by (repeat (first | assumption | exact Below.refl _ _ | refine Below.alloc ?_ (by first | omega | (simp; done) | (simp; omega)) _ | refine Below.setCell ?_ (by first | omega | (simp; done) | (simp; omega)) _ | refine below_drewN ?_ _))) (hb13.mono (by first | exact Nat.le_refl _ | (simp; done) | (simp; omega)))
  have s13 : w12.heap.size ≤ w13.heap.size := R.size
  have K13 : Hid (Below w.heap.size w w13) := K12.out.trans (R.mono (by omega))
  replace b0 : Hid (Bx w13 w.heap.size (.int .i64 m0) (.slice A0 xs0.length c0)) := b0.out.keep R
  replace bw : Hid (Bx w13 w4.heap.size (.int .i64 rm) (.slice A_ow rl.length c_ow)) := bw.out.keep R
  replace bx0 : Hid (Bx w13 w5.heap.size (.int .i64 m0) (.slice A_x0 xs0.length c_x0)) := bx0.out.keep R
  replace bg : Hid (Bx w13 w6.heap.size (.int .i64 rm) (.slice A_og rl.length c_og)) := bg.out.keep R
  replace ow : Hid (OwnI w13 w3.heap.size (.slice A_ow rl.length c_ow) rl) := ow.out.keep R (Nat.le_refl _)
  replace x0 : Hid (OwnI w13 (w4.heap.size + 1) (.slice A_x0 xs0.length c_x0) (marks (1) xs0.length)) := x0.out.keep R (Nat.le_refl _)
  replace og : Hid (OwnI w13 (w5.heap.size + 1) (.slice A_og rl.length c_og) (marks (1) rl.length)) := og.out.keep R (Nat.le_refl _)
  clear R hb13
  have b0_c := b0.out.2.1
  have b0_d := b0.out.2.2
  have b0_z := b0.out.1
  have bw_c := bw.out.2.1
  have bw_d := bw.out.2.2
  have bw_z := bw.out.1
  have bx0_c := bx0.out.2.1
  have bx0_d := bx0.out.2.2
  have bx0_z := bx0.out.1
  have bg_c := bg.out.2.1
  have bg_d := bg.out.2.2
  have bg_z := bg.out.1
  go_wp2_with fail
  refine (toS_any _ m0 _ xs0 (hv0.below K13.out) (by omega)).mono ?_
  rintro e w14 ⟨A_y0, c_y0, rfl, o_y0, hb14⟩
  clear b0_c b0_d b0_z
  clear bw_c bw_d bw_z
  clear bx0_c bx0_d bx0_z
  clear bg_c bg_d bg_z
  have o_y0' := o_y0.mono (show w13.heap.size ≤ _ from by first | exact Nat.le_refl _ | (simp; done) | (simp; omega))
  clear o_y0
  have R : Below w13.heap.size w13 w14 := Below.trans (by (repeat (first | assumption | exact Below.refl _ _ | refine Below.alloc ?_ (by first | omega | (simp; done) | (simp; omega)) _ | refine Below.setCell ?_ (by first | omega | (simp; done) | (simp; omega)) _ | refine below_drewN ?_ _))) (hb14.mono (by first | exact Nat.le_refl _ | (simp; done) | (simp; omega)))
  have s14 : w13.heap.size ≤ w14.heap.size := R.size
  have K14 : Hid (Below w.heap.size w w14) := K13.out.trans (R.mono (by omega))
  replace b0 : Hid (Bx w14 w.heap.size (.int .i64 m0) (.slice A0 xs0.length c0)) := b0.out.keep R
  replace bw : Hid (Bx w14 w4.heap.size (.int .i64 rm) (.slice A_ow rl.length c_ow)) := bw.out.keep R
  replace bx0 : Hid (Bx w14 w5.heap.size (.int .i64 m0) (.slice A_x0 xs0.length c_x0)) := bx0.out.keep R
  replace bg : Hid (Bx w14 w6.heap.size (.int .i64 rm) (.slice A_og rl.length c_og)) := bg.out.keep R
  replace ow : Hid (OwnI w14 w3.heap.size (.slice A_ow rl.length c_ow) rl) := ow.out.keep R (Nat.le_refl _)
  replace x0 : Hid (OwnI w14 (w4.heap.size + 1) (.slice A_x0 xs0.length c_x0) (marks (1) xs0.length)) := x0.out.keep R (Nat.le_refl _)
  replace og : Hid (OwnI w14 (w5.heap.size + 1) (.slice A_og rl.length c_og) (marks (1) rl.length)) := og.out.keep R (Nat.le_refl _)
  clear R hb14
  have y0 : Hid (OwnI w14 w13.heap.size (.slice A_y0 xs0.length c_y0) xs0) := o_y0'
  have y0_u : Hid (∀ g, Value.ownBlock (.slice A_y0 xs0.length c_y0) = some g → w13.heap.size ≤ g ∧ g < w14.heap.size) := fun g hg => o_y0'.block_ge hg
  clear o_y0'
  have b0_c := b0.out.2.1
  have b0_d := b0.out.2.2
  have b0_z := b0.out.1
  have bw_c := bw.out.2.1
  have bw_d := bw.out.2.2
  have bw_z := bw.out.1
  have bx0_c := bx0.out.2.1
  have bx0_d := bx0.out.2.2
  have bx0_z := bx0.out.1
  have bg_c := bg.out.2.1
  have bg_d := bg.out.2.2
  have bg_z := bg.out.1
  go_wp2_with fail
  refine (iPowerOfSeriesR_any _ m0 (.slice A_y0 xs0.length c_y0) xs0 a1 w13.heap.size (y0.out.keep (by (repeat (first | assumption | exact Below.refl _ _ | refine Below.alloc ?_ (by first | omega | (simp; done) | (simp; omega)) _ | refine Below.setCell ?_ (by first | omega | (simp; done) | (simp; omega)) _ | refine below_drewN ?_ _))) (Nat.le_refl _)) (by omega)).mono ?_
  rintro e w15 h_r
  replace h_r := h_r.of HR
  obtain ⟨A_oh, c_oh, rfl, o_oh, hb15⟩ := h_r
  have o_oh' := o_oh.mono (show w14.heap.size ≤ _ from by first | exact Nat.le_refl _ | (simp; done) | (simp; omega))
  clear o_oh
  clear b0_c b0_d b0_z
  clear bw_c bw_d bw_z
  clear bx0_c bx0_d bx0_z
  clear bg_c bg_d bg_z
  have R : Below w14.heap.size w14 w15 := Below.trans (by (repeat (first | assumption | exact Below.refl _ _ | refine Below.alloc ?_ (by first | omega | (simp; done) | (simp; omega)) _ | refine Below.setCell ?_ (by first | omega | (simp; done) | (simp; omega)) _ | refine below_drewN ?_ _))) (hb15.mono (by first | exact Nat.le_refl _ | (simp; done) | (simp; omega)))
  have s15 : w14.heap.size ≤ w15.heap.size := R.size
  have K15 : Hid (Below w.heap.size w w15) := K14.out.trans (R.mono (by omega))
  replace b0 : Hid (Bx w15 w.heap.size (.int .i64 m0) (.slice A0 xs0.length c0)) := b0.out.keep R
  replace bw : Hid (Bx w15 w4.heap.size (.int .i64 rm) (.slice A_ow rl.length c_ow)) := bw.out.keep R
  replace bx0 : Hid (Bx w15 w5.heap.size (.int .i64 m0) (.slice A_x0 xs0.length c_x0)) := bx0.out.keep R
  replace bg : Hid (Bx w15 w6.heap.size (.int .i64 rm) (.slice A_og rl.length c_og)) := bg.out.keep R
  replace ow : Hid (OwnI w15 w3.heap.size (.slice A_ow rl.length c_ow) rl) := ow.out.keep R (Nat.le_refl _)
  replace x0 : Hid (OwnI w15 (w4.heap.size + 1) (.slice A_x0 xs0.length c_x0) (marks (1) xs0.length)) := x0.out.keep R (Nat.le_refl _)
  replace og : Hid (OwnI w15 (w5.heap.size + 1) (.slice A_og rl.length c_og) (marks (1) rl.length)) := og.out.keep R (Nat.le_refl _)
  replace y0 : Hid (OwnI w15 w13.heap.size (.slice A_y0 xs0.length c_y0) xs0) := y0.out.keep R (Nat.le_refl _)
  clear R hb15
  have oh : Hid (OwnI w15 w14.heap.size (.slice A_oh rl.length c_oh) rl) := o_oh'
  have oh_u : Hid (∀ g, Value.ownBlock (.slice A_oh rl.length c_oh) = some g → w14.heap.size ≤ g ∧ g < w15.heap.size) := fun g hg => o_oh'.block_ge hg
  clear o_oh'
  have b0_c := b0.out.2.1
  have b0_d := b0.out.2.2
  have b0_z := b0.out.1
  have bw_c := bw.out.2.1
  have bw_d := bw.out.2.2
  have bw_z := bw.out.1
  have bx0_c := bx0.out.2.1
  have bx0_d := bx0.out.2.2
  have bx0_z := bx0.out.1
  have bg_c := bg.out.2.1
  have bg_d := bg.out.2.2
  have bg_z := bg.out.1
  go_wp2_with fail
  refine (eqS_any _ rm rm _ _ _ _ (oh.out.keep (by (repeat (first | assumption | exact Below.refl _ _ | refine Below.alloc ?_ (by first | omega | (simp; done) | (simp; omega)) _ | refine Below.setCell ?_ (by first | omega | (simp; done) | (simp; omega)) _ | refine below_drewN ?_ _))) (Nat.le_refl _)).rd (ow.out.keep (by (repeat (first | assumption | exact Below.refl _ _ | refine Below.alloc ?_ (by first | omega | (simp; done) | (simp; omega)) _ | refine Below.setCell ?_ (by first | omega | (simp; done) | (simp; omega)) _ | refine below_drewN ?_ _))) (Nat.le_refl _)).rd).mono ?_
  rintro e w16 ⟨rfl, hb16⟩
  clear b0_c b0_d b0_z
  clear bw_c bw_d bw_z
  clear bx0_c bx0_d bx0_z
  clear bg_c bg_d bg_z
  have R : Below w15.heap.size w15 w16 := Below.trans (by (repeat (first | assumption | exact Below.refl _ _ | refine Below.alloc ?_ (by first | omega | (simp; done) | (simp; omega)) _ | refine Below.setCell ?_ (by first | omega | (simp; done) | (simp; omega)) _ | refine below_drewN ?_ _))) (hb16.mono (by first | exact Nat.le_refl _ | (simp; done) | (simp; omega)))
  have s16 : w15.heap.size ≤ w16.heap.size := R.size
  have K16 : Hid (Below w.heap.size w w16) := K15.out.trans (R.mono (by omega))
  replace b0 : Hid (Bx w16 w.heap.size (.int .i64 m0) (.slice A0 xs0.length c0)) := b0.out.keep R
  replace bw : Hid (Bx w16 w4.heap.size (.int .i64 rm) (.slice A_ow rl.length c_ow)) := bw.out.keep R
  replace bx0 : Hid (Bx w16 w5.heap.size (.int .i64 m0) (.slice A_x0 xs0.length c_x0)) := bx0.out.keep R
  replace bg : Hid (Bx w16 w6.heap.size (.int .i64 rm) (.slice A_og rl.length c_og)) := bg.out.keep R
  replace ow : Hid (OwnI w16 w3.heap.size (.slice A_ow rl.length c_ow) rl) := ow.out.keep R (Nat.le_refl _)
  replace x0 : Hid (OwnI w16 (w4.heap.size + 1) (.slice A_x0 xs0.length c_x0) (marks (1) xs0.length)) := x0.out.keep R (Nat.le_refl _)
  replace og : Hid (OwnI w16 (w5.heap.size + 1) (.slice A_og rl.length c_og) (marks (1) rl.length)) := og.out.keep R (Nat.le_refl _)
  replace y0 : Hid (OwnI w16 w13.heap.size (.slice A_y0 xs0.length c_y0) xs0) := y0.out.keep R (Nat.le_refl _)
  replace oh : Hid (OwnI w16 w14.heap.size (.slice A_oh rl.length c_oh) rl) := oh.out.keep R (Nat.le_refl _)
  have bh : Hid (Bx w16 w15.heap.size (.int .i64 rm) (.slice A_oh rl.length c_oh)) := ⟨by have := hb16.size; simp at this; omega, by rw [hb16.cell (by first | (simp; done) | (simp; omega))]; simp, by rw [hb16.cell (by first | (simp; done) | (simp; omega))]; simp⟩
  clear R hb16
  have b0_c := b0.out.2.1
  have b0_d := b0.out.2.2
  have b0_z := b0.out.1
  have bw_c := bw.out.2.1
  have bw_d := bw.out.2.2
  have bw_z := bw.out.1
  have bx0_c := bx0.out.2.1
  have bx0_d := bx0.out.2.2
  have bx0_z := bx0.out.1
  have bg_c := bg.out.2.1
  have bg_d := bg.out.2.2
  have bg_z := bg.out.1
  have bh_c := bh.out.2.1
  have bh_d := bh.out.2.2
  have bh_z := bh.out.1
  go_wp2_with fail
  refine (heldS_any _ (w5.heap.size + 1) rm _ rl.length (1) (og.out.keep (by (repeat (first | assumption | exact Below.refl _ _ | refine Below.alloc ?_ (by first | omega | (simp; done) | (simp; omega)) _ | refine Below.setCell ?_ (by first | omega | (simp; done) | (simp; omega)) _ | refine below_drewN ?_ _))) (Nat.le_refl _)) (by omega) (by omega) (by omega)).mono ?_
  rintro e w17 ⟨rfl, hb17⟩
  clear b0_c b0_d b0_z
  clear bw_c bw_d bw_z
  clear bx0_c bx0_d bx0_z
  clear bg_c bg_d bg_z
  clear bh_c bh_d bh_z
  have R : Below w16.heap.size w16 w17 := Below.trans (by (repeat (first | assumption | exact Below.refl _ _ | refine Below.alloc ?_ (by first | omega | (simp; done) | (simp; omega)) _ | refine Below.setCell ?_ (by first | omega | (simp; done) | (simp; omega)) _ | refine below_drewN ?_ _))) (hb17.mono (by first | exact Nat.le_refl _ | (simp; done) | (simp; omega)))
  have s17 : w16.heap.size ≤ w17.heap.size := R.size
  have K17 : Hid (Below w.heap.size w w17) := K16.out.trans (R.mono (by omega))
  replace b0 : Hid (Bx w17 w.heap.size (.int .i64 m0) (.slice A0 xs0.length c0)) := b0.out.keep R
  replace bw : Hid (Bx w17 w4.heap.size (.int .i64 rm) (.slice A_ow rl.length c_ow)) := bw.out.keep R
  replace bx0 : Hid (Bx w17 w5.heap.size (.int .i64 m0) (.slice A_x0 xs0.length c_x0)) := bx0.out.keep R
  replace bg : Hid (Bx w17 w6.heap.size (.int .i64 rm) (.slice A_og rl.length c_og)) := bg.out.keep R
  replace bh : Hid (Bx w17 w15.heap.size (.int .i64 rm) (.slice A_oh rl.length c_oh)) := bh.out.keep R
  replace ow : Hid (OwnI w17 w3.heap.size (.slice A_ow rl.length c_ow) rl) := ow.out.keep R (Nat.le_refl _)
  replace x0 : Hid (OwnI w17 (w4.heap.size + 1) (.slice A_x0 xs0.length c_x0) (marks (1) xs0.length)) := x0.out.keep R (Nat.le_refl _)
  replace og : Hid (OwnI w17 (w5.heap.size + 1) (.slice A_og rl.length c_og) (marks (1) rl.length)) := og.out.keep R (Nat.le_refl _)
  replace y0 : Hid (OwnI w17 w13.heap.size (.slice A_y0 xs0.length c_y0) xs0) := y0.out.keep R (Nat.le_refl _)
  replace oh : Hid (OwnI w17 w14.heap.size (.slice A_oh rl.length c_oh) rl) := oh.out.keep R (Nat.le_refl _)
  clear R hb17
  have b0_c := b0.out.2.1
  have b0_d := b0.out.2.2
  have b0_z := b0.out.1
  have bw_c := bw.out.2.1
  have bw_d := bw.out.2.2
  have bw_z := bw.out.1
  have bx0_c := bx0.out.2.1
  have bx0_d := bx0.out.2.2
  have bx0_z := bx0.out.1
  have bg_c := bg.out.2.1
  have bg_d := bg.out.2.2
  have bg_z := bg.out.1
  have bh_c := bh.out.2.1
  have bh_d := bh.out.2.2
  have bh_z := bh.out.1
  go_wp2
  go_ret
  exact ⟨rfl, K17.out⟩


end Go.Proofs.Ytfdklbimdkaaiaa
