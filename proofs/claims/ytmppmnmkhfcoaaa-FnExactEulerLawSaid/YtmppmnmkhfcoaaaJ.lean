/- Contracts over this seat's translation. Condition: each contract's own. -/
import Derived.Test.YtmppmnmkhfcoaaaI
import Derived.ProofKit
import Derived.Laws.Bits64b
import Derived.Lib.Mul64
import Derived.OpenShut
import Derived.Below
import Derived.ChangeSame
import Derived.Deep.Modes
import Derived.Lib.SmallJoins
import Derived.ChangeSlices
import Derived.WalkKit
import Derived.WalkSpells
import Derived.WalkLawsBesides
import Derived.Deep.QuietTactic
import Derived.BigQuiet
import Derived.Deep.RegionHeld3
import Derived.Deep.RegionWith
import Derived.Deep.RegionLaw
import Derived.Deep.AppendLies
import Derived.Laws.CopyOwn
import Derived.Deep.DeepCutAuto
import Derived.Deep.OwnRows
import Derived.Deep.LoopGhost
import Derived.Deep.DeepFit
import Derived.Deep.DeepMust
import Derived.Deep.Draws
import Derived.Deep.CutRange
import Derived.Maps.AppendAt
import Derived.Lib.Hide
import Derived.StillTailTactics
import Derived.Laws.MakeOwn
import Derived.Deep.Matrix
set_option linter.unusedVariables false
open Go Go.RowKit
namespace Go.Proofs.Ytmppmnmkhfcoaaa
/-! ### Products of series -/
theorem stepF_at (m : Int) (a b : Nat → Int) (i j : Nat) : stepF m a b i j (i + j) = cvTo m a b i (i + j) := by simp [stepF, show ¬ i + j < i by omega]
theorem times_step (m : Int) (a b : Nat → Int) (d i j : Nat) : (lst d (stepF m a b i j)).set (i + j) ((cvTo m a b i (i + j) + a i * b j % m) % m) = lst d (stepF m a b i (j + 1)) := by
  rw [set_lst]
  apply lst_congr
  intro k _
  have e := cvTo_succ m a b i (i + j)
  rw [show i + j - i = j by omega] at e
  rw [e, stepF_next]
theorem times_step' (m : Int) (a b : Nat → Int) (d i j : Nat) : (lst d (stepF m a b i j)).set (i + j) ((cvTo m a b i (i + j) + a i * b j) % m) = lst d (stepF m a b i (j + 1)) := by
  rw [set_lst]
  apply lst_congr
  intro k _
  have e := cvTo_succ' m a b i (i + j)
  rw [show i + j - i = j by omega] at e
  rw [e, stepF_next]
theorem times_row (m : Int) (a b : Nat → Int) (d i r : Nat) (h : i + r = d) : lst d (stepF m a b i r) = lst d (stepF m a b (i + 1) 0) := by
  apply lst_congr
  intro k hk
  rw [show r = d - i by omega]
  exact stepF_row m a b d i k hk
theorem times_start (m : Int) (a b : Nat → Int) (d : Nat) : List.replicate d (0 : Int) = lst d (stepF m a b 0 0) := by
  rw [replicate_lst]
  exact lst_congr fun k _ => (stepF_zero m a b k).symm
theorem times_all (m : Int) (xs ys : List Int) (d : Nat) : lst d (stepF m (co xs) (co ys) d 0) = timesL m d xs ys := lst_congr fun k hk => stepF_all m _ _ d k hk
set_option maxRecDepth 8000 in
set_option maxHeartbeats 4000000 in
theorem times_any (w : World) (m m2 : Int) (v v2 : Value) (xs ys zs : List Int) (d : Nat) (B B2 : Nat) (hv : OwnI w B v xs) (hv2 : OwnI w B2 v2 ys) (hm : 2 ≤ m) (hm' : m ≤ 3000000000) (hn : NumL m xs) (hn2 : NumL m ys) (hd : xs.length = d) (hd2 : ys.length = d) (hl0 : 1 ≤ d) (hl : d ≤ 1000) (hz : timesL m d xs ys = zs) :
    Calls Try.prog 148 #[.agg #[.int .i64 m, v], .agg #[.int .i64 m2, v2]] w (NewS w m zs) := by
  obtain ⟨A, cp, e0, hc1, hc2, hA⟩ := hv.open_
  obtain ⟨A2, cp2, e2, hc3, hc4, hA2⟩ := hv2.open_
  rw [hd] at e0 hc1 hA
  rw [hd2] at e2 hc3 hA2
  subst e0 e2
  unfold maxLen at hc2 hc4
  have HZ := Lib.hid hz
  have HN := Lib.hid hn
  have HN2 := Lib.hid hn2
  clear hz hn hn2 hv hv2 hd hd2
  go_enter Try.func148, Try.ntmps148
  go_upto_region 1 with fail
  go_cut [5] from 10 to 14 (fun s wx => ∃ bo g : Nat, s = .pointer (some ⟨bo, 0, none⟩) ∧ w.heap.size + 3 ≤ bo ∧ bo < wx.heap.size ∧ w.heap.size + 3 ≤ g ∧ g < wx.heap.size ∧ bo ≠ g ∧ Hid (Bf wx bo (.int .i64 m) (.slice (some ⟨g, 0, none⟩) d d)) ∧ Hid (RowI wx g d (List.replicate d 0)) ∧ Hid (Bf wx w.heap.size (.int .i64 m) (.slice A d cp)) ∧ Hid (Bf wx (w.heap.size + 1) (.int .i64 m2) (.slice A2 d cp2)) ∧ Hid (Bf wx (w.heap.size + 2) (.int .i64 0) (.slice none 0 0)) ∧ Hid (Below w.heap.size w wx))
  case first =>
    go_region_held3 (fun w' => w'.cell? ⟨w.heap.size, 0, none⟩ = some (.int .i64 m) ∧ w'.cell? ⟨w.heap.size, 1, none⟩ = some (.slice A d cp))
      (first | go_keep | (refine (fun (h : Bf _ w.heap.size (.int .i64 m) (.slice A d cp)) => ⟨h.1.2.1, h.1.2.2⟩) ((Bf.alloc1 w _ _ 78).keep ?_); (repeat (first | assumption | exact Below.refl _ _ | (refine Below.alloc ?_ ?_ _; rotate_left; (focus (first | exact Nat.le_refl _ | omega | (simp; done) | (simp; omega)))) | (refine Below.setCell ?_ ?_ _; rotate_left; (focus (first | exact Nat.le_refl _ | omega | (simp; done) | (simp; omega)))) | refine below_drew ?_ | refine below_drewN ?_ _ | (refine Below.trans ?_ (Below.mono hb2 ?_); rotate_left; (focus (first | exact Nat.le_refl _ | omega | (simp; done) | (simp; omega)))) | (refine Below.trans ?_ (Below.mono hb1 ?_); rotate_left; (focus (first | exact Nat.le_refl _ | omega | (simp; done) | (simp; omega))))))))
      (first | (go_at_call 147; refine (iDegree_any m A d cp _ (by omega)).mono ?_; rintro e w1 ⟨rfl, hb1⟩; have P1 : Bf w1 w.heap.size (.int .i64 m) (.slice A d cp) := ((Bf.alloc1 w _ _ 78).keep (by (repeat (first | assumption | exact Below.refl _ _ | (refine Below.alloc ?_ ?_ _; rotate_left; (focus (first | exact Nat.le_refl _ | omega | (simp; done) | (simp; omega)))) | (refine Below.setCell ?_ ?_ _; rotate_left; (focus (first | exact Nat.le_refl _ | omega | (simp; done) | (simp; omega)))) | refine below_drew ?_ | refine below_drewN ?_ _ | (refine Below.trans ?_ (Below.mono hb1 ?_); rotate_left; (focus (first | exact Nat.le_refl _ | omega | (simp; done) | (simp; omega)))))))); have p1a := P1.1.2.1; have p1b := P1.1.2.2; obtain ⟨hc1, hf1⟩ := bcell hb1; have z1 := hb1.size; (try simp at z1); have z1p : w.heap.size < w1.heap.size := (by omega); (first | (have y1 : w.heap.size + 3 < w1.heap.size := (by omega)) | skip)) | (go_at_call 83; refine (zero_any _ m _ d (by omega) (by omega)).mono ?_; rintro e w2 ⟨g, rfl, hg, hr2, hb2⟩; have P2 : Bf w2 w.heap.size (.int .i64 m) (.slice A d cp) := ((Bf.alloc1 w _ _ 78).keep (by (repeat (first | assumption | exact Below.refl _ _ | (refine Below.alloc ?_ ?_ _; rotate_left; (focus (first | exact Nat.le_refl _ | omega | (simp; done) | (simp; omega)))) | (refine Below.setCell ?_ ?_ _; rotate_left; (focus (first | exact Nat.le_refl _ | omega | (simp; done) | (simp; omega)))) | refine below_drew ?_ | refine below_drewN ?_ _ | (refine Below.trans ?_ (Below.mono hb2 ?_); rotate_left; (focus (first | exact Nat.le_refl _ | omega | (simp; done) | (simp; omega)))) | (refine Below.trans ?_ (Below.mono hb1 ?_); rotate_left; (focus (first | exact Nat.le_refl _ | omega | (simp; done) | (simp; omega)))))))); have p2a := P2.1.2.1; have p2b := P2.1.2.2; obtain ⟨hc2, hf2⟩ := bcell hb2; have z2 := hb2.size; (try simp at z2); (try simp at hg); have z2p : w.heap.size < w2.heap.size := (by omega)))
    all_goals
      go_wp2_with fail
      go_meet
      have zg := hr2.lt
      have KK : Hid (Below w.heap.size w w2) := by (repeat (first | assumption | exact Below.refl _ _ | (refine Below.alloc ?_ ?_ _; rotate_left; (focus (first | exact Nat.le_refl _ | omega | (simp; done) | (simp; omega)))) | (refine Below.setCell ?_ ?_ _; rotate_left; (focus (first | exact Nat.le_refl _ | omega | (simp; done) | (simp; omega)))) | refine below_drew ?_ | refine below_drewN ?_ _ | (refine Below.trans ?_ (Below.mono hb2 ?_); rotate_left; (focus (first | exact Nat.le_refl _ | omega | (simp; done) | (simp; omega)))) | (refine Below.trans ?_ (Below.mono hb1 ?_); rotate_left; (focus (first | exact Nat.le_refl _ | omega | (simp; done) | (simp; omega))))))
      refine ⟨_, g, rfl, ?_, ?_, ?_, ?_, ?_, ?_, ?_, ?_, ?_, ?_,  ?_⟩
      · first | exact Nat.le_refl _ | omega | (simp; done) | (simp; omega)
      · first | omega | (simp; done) | (simp; omega) | (simp [World.setCell]; omega)
      · first | omega | (simp; omega)
      · first | omega | (simp; done) | (simp; omega) | (simp [World.setCell]; omega)
      · first | omega | (simp; omega)
      · first | exact Bf.alloc1 w2 _ _ _ | exact ((Bf.alloc1 w1 _ _ _).keep hb2).store2 | exact (((Bf.q4 (w := w)).keep (below_undrew hb1)).keep hb2).store2
      · first | exact hr2.alloc _ | exact (hr2.far (by first | omega | (simp; omega)) _).far (by first | omega | (simp; omega)) _
      · exact (Bf.q1 (w := w) (t := 78)).keep (by (repeat (first | assumption | exact Below.refl _ _ | (refine Below.alloc ?_ ?_ _; rotate_left; (focus (first | exact Nat.le_refl _ | omega | (simp; done) | (simp; omega)))) | (refine Below.setCell ?_ ?_ _; rotate_left; (focus (first | exact Nat.le_refl _ | omega | (simp; done) | (simp; omega)))) | refine below_drew ?_ | refine below_drewN ?_ _ | (refine Below.trans ?_ (Below.mono hb2 ?_); rotate_left; (focus (first | exact Nat.le_refl _ | omega | (simp; done) | (simp; omega)))) | (refine Below.trans ?_ (Below.mono hb1 ?_); rotate_left; (focus (first | exact Nat.le_refl _ | omega | (simp; done) | (simp; omega)))))))
      · exact (Bf.q2 (w := w) (t := 78) (t' := 78)).keep (by (repeat (first | assumption | exact Below.refl _ _ | (refine Below.alloc ?_ ?_ _; rotate_left; (focus (first | exact Nat.le_refl _ | omega | (simp; done) | (simp; omega)))) | (refine Below.setCell ?_ ?_ _; rotate_left; (focus (first | exact Nat.le_refl _ | omega | (simp; done) | (simp; omega)))) | refine below_drew ?_ | refine below_drewN ?_ _ | (refine Below.trans ?_ (Below.mono hb2 ?_); rotate_left; (focus (first | exact Nat.le_refl _ | omega | (simp; done) | (simp; omega)))) | (refine Below.trans ?_ (Below.mono hb1 ?_); rotate_left; (focus (first | exact Nat.le_refl _ | omega | (simp; done) | (simp; omega)))))))
      · exact (Bf.q3 (w := w) (t := 78) (t' := 78)).keep (by (repeat (first | assumption | exact Below.refl _ _ | (refine Below.alloc ?_ ?_ _; rotate_left; (focus (first | exact Nat.le_refl _ | omega | (simp; done) | (simp; omega)))) | (refine Below.setCell ?_ ?_ _; rotate_left; (focus (first | exact Nat.le_refl _ | omega | (simp; done) | (simp; omega)))) | refine below_drew ?_ | refine below_drewN ?_ _ | (refine Below.trans ?_ (Below.mono hb2 ?_); rotate_left; (focus (first | exact Nat.le_refl _ | omega | (simp; done) | (simp; omega)))) | (refine Below.trans ?_ (Below.mono hb1 ?_); rotate_left; (focus (first | exact Nat.le_refl _ | omega | (simp; done) | (simp; omega)))))))
      · (repeat (first | assumption | exact Below.refl _ _ | (refine Below.alloc ?_ ?_ _; rotate_left; (focus (first | exact Nat.le_refl _ | omega | (simp; done) | (simp; omega)))) | (refine Below.setCell ?_ ?_ _; rotate_left; (focus (first | exact Nat.le_refl _ | omega | (simp; done) | (simp; omega)))) | refine below_drew ?_ | refine below_drewN ?_ _ | (refine Below.trans ?_ (Below.mono hb2 ?_); rotate_left; (focus (first | exact Nat.le_refl _ | omega | (simp; done) | (simp; omega)))) | (refine Below.trans ?_ (Below.mono hb1 ?_); rotate_left; (focus (first | exact Nat.le_refl _ | omega | (simp; done) | (simp; omega))))))
  case rest =>
    obtain ⟨bo, g, rfl, hbo1, hbo2, hg1, hg2, hne, HO, HR, HP, HP2, HQ, HB⟩ := hcut
    have p1 := HP.out.1.2.1
    have p2 := HP.out.1.2.2
    go_wp2
    go_loopw [18] (fun s wr => ∃ i : Nat, i ≤ d ∧ s = .int .i64 i ∧ Hid (Bf wr bo (.int .i64 m) (.slice (some ⟨g, 0, none⟩) d d)) ∧ Hid (RowI wr g d (lst d (stepF m (co xs) (co ys) i 0))) ∧ Hid (Bf wr w.heap.size (.int .i64 m) (.slice A d cp)) ∧ Hid (Bf wr (w.heap.size + 1) (.int .i64 m2) (.slice A2 d cp2)) ∧ Hid (Bf wr (w.heap.size + 2) (.int .i64 0) (.slice none 0 0)) ∧ Hid (Below w.heap.size w wr)) (fun s _ => d - (intOf s).toNat)
    case atStart => exact ⟨0, Nat.zero_le _, rfl, HO, (by unfold Hid; rw [← times_start]; exact HR.out), HP, HP2, HQ, HB⟩
    case round =>
      clear HO HR HP HP2 HQ HB p1 p2
      obtain ⟨i, hi, rfl, HO, HR, HP, HP2, HQ, HB⟩ := hrel
      have p1 := HP.out.1.2.1
      have p2 := HP.out.1.2.2
      have p3 := HP2.out.1.2.2
      have q1 := HQ.out.1.2.1
      have q2 := HQ.out.1.2.2
      have q3 := HQ.out.2.1
      have q4 := HQ.out.2.2
      have o1 := HO.out.1.2.1
      have o2 := HO.out.1.2.2
      by_cases hlt : i < d
      · obtain ⟨b, rfl, hb1, hb2, hcell, hfr⟩ := hA i hlt
        have hc0 : wr.cell? ⟨b, i, none⟩ = some (.int .i64 (co xs i)) := (HB.out.cell (p := ⟨b, i, none⟩) hb2).trans hcell
        have hnk : 0 ≤ co xs i ∧ co xs i < m := HN.out i
        obtain ⟨x, hx⟩ : ∃ x, x = co xs i := ⟨_, rfl⟩
        rw [← hx] at hc0 hnk
        have HX := Lib.hid hx
        obtain ⟨r, hr⟩ : ∃ r, i + r = d := ⟨d - i, by omega⟩
        have hr1 : (d : Int) - (i : Int) = (r : Int) := by omega
        have hr2 : r ≤ d := by omega
        have hr3 : (r : Int) ≤ (cp2 : Int) := by omega
        have HRr := Lib.hid hr
        have hrd : r + i ≤ d ∧ d ≤ r + i := by omega
        clear hx hcell hfr hr
        have hi0 : (0 : Int) ≤ (i : Int) := by omega
        have hi1 : (i : Int) < (d : Int) := by omega
        go_wp2
        clear hr1
        go_loopw [32] (fun s w2 => ∃ j : Nat, j ≤ r ∧ s = .int .i64 j ∧ Hid (Bf w2 bo (.int .i64 m) (.slice (some ⟨g, 0, none⟩) d d)) ∧ Hid (RowI w2 g d (lst d (stepF m (co xs) (co ys) i j))) ∧ Hid (Bf w2 w.heap.size (.int .i64 m) (.slice (some ⟨b, 0, none⟩) d cp)) ∧ Hid (Bf w2 (w.heap.size + 1) (.int .i64 m2) (.slice A2 d cp2)) ∧ Hid (Bf w2 (w.heap.size + 2) (.int .i64 0) (.slice none 0 0)) ∧ Hid (Below w.heap.size w w2)) (fun s _ => r - (intOf s).toNat)
        case atStart => exact ⟨0, Nat.zero_le _, rfl, HO, HR, HP, HP2, HQ, HB⟩
        case round =>
          clear HO HR HP HP2 HQ HB p1 p2 p3 q1 q2 q3 q4 o1 o2 hc0
          obtain ⟨j, hj, rfl, HO, HR, HP, HP2, HQ, HB⟩ := hrel
          have p1 := HP.out.1.2.1
          have o2 := HO.out.1.2.2
          have zO := HO.out.1.1
          have zP := HP.out.1.1
          by_cases hlt2 : j < r
          · obtain ⟨b2, rfl, hb3, hb4, hcell2, hfr2⟩ := hA2 j (by omega)
            have hc1' : wr.cell? ⟨b2, j, none⟩ = some (.int .i64 (co ys j)) := (HB.out.cell (p := ⟨b2, j, none⟩) hb4).trans hcell2
            have hnj : 0 ≤ co ys j ∧ co ys j < m := HN2.out j
            have HS := Lib.hid (times_step' m (co xs) (co ys) d i j)
            have hd0 := HR.out.cell (k := i + j) (by rw [length_lst]; omega)
            have hf0 := HR.out.free (i + j)
            rw [getD_lst _ _ _ (by omega), stepF_at] at hd0
            have hcb := cvTo_bd (show 0 < m by omega) (co xs) (co ys) i (i + j)
            obtain ⟨y, hy⟩ : ∃ y, y = co ys j := ⟨_, rfl⟩
            rw [← hy] at hc1' hnj
            rw [← hy, ← HX.out] at HS
            generalize cvTo m (co xs) (co ys) i (i + j) = t at *
            clear hy hcell2 hfr2
            have hxy1 : 0 ≤ x * y % m := Int.emod_nonneg _ (by omega)
            have hxy2 : x * y % m < m := Int.emod_lt_of_pos _ (by omega)
            have hj0 : (0 : Int) ≤ (j : Int) := by omega
            have hj1 : (j : Int) < (r : Int) := by omega
            have v1 : IntKind.i64.wrap ((i : Int) + (j : Int)) = (i : Int) + (j : Int) := IntWalk.i64_in _ (by omega)
            have v2 : IntKind.i64.wrap (t + x * y % m) = t + x * y % m := IntWalk.i64_in _ (by omega)
            have v3 : (t + x * y % m).tmod m = (t + x * y % m) % m := Int.tmod_eq_emod_of_nonneg (by omega)
            have v4 : (0 : Int) ≤ (i : Int) + (j : Int) := by omega
            have v5 : (i : Int) + (j : Int) < (d : Int) := by omega
            have v6 : (m == 0) = false := by simp; omega
            have v8 : ¬ m = 0 := by omega
            have v7 : ((i : Int) + (j : Int)).toNat = i + j := by omega
            have ne1 : (⟨g, i + j, none⟩ : Addr) ≠ ⟨w.heap.size, 0, none⟩ := by first | (simp; done) | (simp; omega)
            have ne2 : (⟨g, i + j, none⟩ : Addr) ≠ ⟨bo, 1, none⟩ := by first | (simp; done) | (simp; omega)
            go_wp2
            go_still_tail 22, (by kernel_rfl)
            still_call ((mul_any m x y _ (by omega) (by omega) hnk.1 hnk.2 hnj.1 hnj.2).mono fun e w' h => ⟨h.1, h.2.symm⟩)
            repeat still_step
            refine wpStill_nil ?_
            change wpList _ _ _ _ _ wr.drew
            clear v1 v2 v3 v4 v5 v7
            go_wp2
            go_roundw
            case rel =>
              refine ⟨j + 1, by omega, by go_num, HO.out.setCell (by simp; omega) _, ?_, HP.out.setCell (by simp; omega) _, HP2.out.setCell (by simp; omega) _, HQ.out.setCell (by simp; omega) _, (by unfold Hid; (repeat (first | exact HB.out | refine below_drewN ?_ _ | refine below_drew ?_ | (refine Below.setCell ?_ ?_ _; rotate_left; focus (first | omega | (simp; done) | (simp; omega))))))⟩
              unfold Hid
              rw [← HS.out]
              exact HR.out.set_ (i + j) ((t + x * y) % m)
            case measure => simp [intOf]; omega
          · have hjr : j = r := by omega
            have hR : Hid (RowI wr g d (lst d (stepF m (co xs) (co ys) (i + 1) 0))) := by unfold Hid; rw [← times_row m _ _ d i r HRr.out, ← hjr]; exact HR.out
            clear hjr
            go_wp2
            go_roundw
            case rel => exact ⟨i + 1, by omega, by go_num, HO, hR, HP, HP2, HQ, HB⟩
            case measure => simp [intOf]; omega
      · have hid : i = d := by omega
        have hR : RowI wr g d zs := by rw [← HZ.out, ← times_all, ← hid]; rw [hid] at HR ⊢; exact HR.out
        have hly : Hid (zs.length = d) := by unfold Hid; rw [← HZ.out, length_timesL]
        clear hid
        go_wp2
        refine bodyPost_ret (v := .agg #[.int .i64 m, .slice (some ⟨g, 0, none⟩) d d]) (by simp [results, Try.results148, go_sem, q1, q2]) rfl ⟨some ⟨g, 0, none⟩, d, by rw [hly.out], ?_, ?_⟩
        · rw [hly.out]
          have := ((hR.far (p := ⟨w.heap.size + 2, 0, none⟩) (by simp; omega) (.int .i64 m)).far (p := ⟨w.heap.size + 2, 1, none⟩) (by simp; omega) (.slice (some ⟨g, 0, none⟩) d d)).own (B := w.heap.size) (by omega)
          rw [hly.out] at this
          exact this
        · exact (HB.out.setCell (by simp; omega) _).setCell (by simp; omega) _

/-! ### Constants and powers of series -/
def conL (m : Int) (n : Nat) (c : Int) : List Int := lst n fun k => if k = 0 then c % m else 0
theorem length_conL (m : Int) (n : Nat) (c : Int) : (conL m n c).length = n := length_lst _ _
theorem conL_of (m : Int) (n : Nat) (c : Int) : (List.replicate n (0 : Int)).set 0 (c % m) = conL m n c := by
  rw [replicate_lst, set_lst]
  rfl
theorem NumL.con {m : Int} (hm : 0 < m) (n : Nat) (c : Int) : NumL m (conL m n c) := NumL.lst hm fun k _ => by
  have := Int.emod_nonneg c (show m ≠ 0 by omega)
  have := Int.emod_lt_of_pos c hm
  split <;> omega
/-- The block of a slice is not the block b. -/
def Off (v : Value) (b : Nat) : Prop := ∀ g, v.ownBlock = some g → g ≠ b
theorem OwnI.off {w : World} {B b : Nat} {v : Value} {xs : List Int} (h : OwnI w B v xs) (hb : b < B ∨ w.heap.size ≤ b) : Off v b := fun g hg => by
  have := h.block_ge hg
  omega
theorem OwnI.store {w : World} {B b : Nat} {v x y : Value} {xs : List Int} (h : OwnI w B v xs) (hf : Off v b) : OwnI ((w.setCell ⟨b, 0, none⟩ x).setCell ⟨b, 1, none⟩ y) B v xs :=
  (h.setCell_ge (p := ⟨b, 0, none⟩) hf x).setCell_ge (p := ⟨b, 1, none⟩) hf y
def powL (m : Int) (n : Nat) (k : Nat) (r a : List Int) : List Int :=
  if k = 0 then r else powL m n (k / 2) (if k % 2 = 1 then timesL m n r a else r) (timesL m n a a)
termination_by k
decreasing_by omega
theorem powL_zero (m : Int) (n : Nat) (r a : List Int) : powL m n 0 r a = r := by rw [powL]; simp
theorem powL_odd (m : Int) (n k : Nat) (r a : List Int) (h : k % 2 = 1) : powL m n k r a = powL m n (k / 2) (timesL m n r a) (timesL m n a a) := by
  rw [powL, if_neg (by omega), if_pos h]
theorem powL_even (m : Int) (n k : Nat) (r a : List Int) (h : k % 2 = 0) (h0 : k ≠ 0) : powL m n k r a = powL m n (k / 2) r (timesL m n a a) := by
  rw [powL, if_neg h0, if_neg (by omega)]
set_option maxHeartbeats 1000000 in
theorem constant_any (w : World) (m : Int) (v : Value) (xs ys : List Int) (c : Int) (B : Nat) (hv : OwnI w B v xs) (hm : 2 ≤ m) (hm' : m ≤ 3000000000) (hl0 : 1 ≤ xs.length) (hl : xs.length ≤ 1000) (hy : conL m xs.length c = ys) :
    Calls Try.prog 84 #[.agg #[.int .i64 m, v], .int .i64 c] w (NewS w m ys) := by
  obtain ⟨A, cp, e0, hc1, hc2, hA⟩ := hv.open_
  subst e0
  unfold maxLen at hc2
  have HY := Lib.hid hy
  clear hy hv hA
  go_enter Try.func84, Try.ntmps84
  go_upto_region 1 with fail
  go_cut [5] from 6 to 10 (fun s wx => ∃ bo g : Nat, s = .pointer (some ⟨bo, 0, none⟩) ∧ w.heap.size + 2 ≤ bo ∧ bo < wx.heap.size ∧ w.heap.size + 2 ≤ g ∧ g < wx.heap.size ∧ bo ≠ g ∧ Hid (Bf wx bo (.int .i64 m) (.slice (some ⟨g, 0, none⟩) xs.length xs.length)) ∧ Hid (RowI wx g xs.length (List.replicate xs.length 0)) ∧ Hid (Bf wx w.heap.size (.int .i64 m) (.slice A xs.length cp)) ∧ Hid (Bf wx (w.heap.size + 1) (.int .i64 0) (.slice none 0 0)) ∧ Hid (Below w.heap.size w wx))
  case first =>
    go_region_held3 (fun w' => w'.cell? ⟨w.heap.size, 0, none⟩ = some (.int .i64 m) ∧ w'.cell? ⟨w.heap.size, 1, none⟩ = some (.slice A xs.length cp))
      (first | go_keep | (refine (fun (h : Bf _ w.heap.size (.int .i64 m) (.slice A xs.length cp)) => ⟨h.1.2.1, h.1.2.2⟩) ((Bf.alloc1 w _ _ 78).keep ?_); (repeat (first | assumption | exact Below.refl _ _ | (refine Below.alloc ?_ ?_ _; rotate_left; (focus (first | exact Nat.le_refl _ | omega | (simp; done) | (simp; omega)))) | (refine Below.setCell ?_ ?_ _; rotate_left; (focus (first | exact Nat.le_refl _ | omega | (simp; done) | (simp; omega)))) | refine below_drew ?_ | refine below_drewN ?_ _ | (refine Below.trans ?_ (Below.mono hb2 ?_); rotate_left; (focus (first | exact Nat.le_refl _ | omega | (simp; done) | (simp; omega)))) | (refine Below.trans ?_ (Below.mono hb1 ?_); rotate_left; (focus (first | exact Nat.le_refl _ | omega | (simp; done) | (simp; omega))))))))
      (first | (go_at_call 147; refine (iDegree_any m A xs.length cp _ (by omega)).mono ?_; rintro e w1 ⟨rfl, hb1⟩; have P1 : Bf w1 w.heap.size (.int .i64 m) (.slice A xs.length cp) := ((Bf.alloc1 w _ _ 78).keep (by (repeat (first | assumption | exact Below.refl _ _ | (refine Below.alloc ?_ ?_ _; rotate_left; (focus (first | exact Nat.le_refl _ | omega | (simp; done) | (simp; omega)))) | (refine Below.setCell ?_ ?_ _; rotate_left; (focus (first | exact Nat.le_refl _ | omega | (simp; done) | (simp; omega)))) | refine below_drew ?_ | refine below_drewN ?_ _ | (refine Below.trans ?_ (Below.mono hb1 ?_); rotate_left; (focus (first | exact Nat.le_refl _ | omega | (simp; done) | (simp; omega)))))))); have p1a := P1.1.2.1; have p1b := P1.1.2.2; obtain ⟨hc1, hf1⟩ := bcell hb1; have z1 := hb1.size; (try simp at z1); have z1p : w.heap.size < w1.heap.size := (by omega); (first | (have y1 : w.heap.size + 2 < w1.heap.size := (by omega)) | skip)) | (go_at_call 83; refine (zero_any _ m _ xs.length (by omega) (by omega)).mono ?_; rintro e w2 ⟨g, rfl, hg, hr2, hb2⟩; have P2 : Bf w2 w.heap.size (.int .i64 m) (.slice A xs.length cp) := ((Bf.alloc1 w _ _ 78).keep (by (repeat (first | assumption | exact Below.refl _ _ | (refine Below.alloc ?_ ?_ _; rotate_left; (focus (first | exact Nat.le_refl _ | omega | (simp; done) | (simp; omega)))) | (refine Below.setCell ?_ ?_ _; rotate_left; (focus (first | exact Nat.le_refl _ | omega | (simp; done) | (simp; omega)))) | refine below_drew ?_ | refine below_drewN ?_ _ | (refine Below.trans ?_ (Below.mono hb2 ?_); rotate_left; (focus (first | exact Nat.le_refl _ | omega | (simp; done) | (simp; omega)))) | (refine Below.trans ?_ (Below.mono hb1 ?_); rotate_left; (focus (first | exact Nat.le_refl _ | omega | (simp; done) | (simp; omega)))))))); have p2a := P2.1.2.1; have p2b := P2.1.2.2; obtain ⟨hc2, hf2⟩ := bcell hb2; have z2 := hb2.size; (try simp at z2); (try simp at hg); have z2p : w.heap.size < w2.heap.size := (by omega)))
    all_goals
      go_wp2_with fail
      go_meet
      have zg := hr2.lt
      have KK : Hid (Below w.heap.size w w2) := by (repeat (first | assumption | exact Below.refl _ _ | (refine Below.alloc ?_ ?_ _; rotate_left; (focus (first | exact Nat.le_refl _ | omega | (simp; done) | (simp; omega)))) | (refine Below.setCell ?_ ?_ _; rotate_left; (focus (first | exact Nat.le_refl _ | omega | (simp; done) | (simp; omega)))) | refine below_drew ?_ | refine below_drewN ?_ _ | (refine Below.trans ?_ (Below.mono hb2 ?_); rotate_left; (focus (first | exact Nat.le_refl _ | omega | (simp; done) | (simp; omega)))) | (refine Below.trans ?_ (Below.mono hb1 ?_); rotate_left; (focus (first | exact Nat.le_refl _ | omega | (simp; done) | (simp; omega))))))
      refine ⟨_, g, rfl, ?_, ?_, ?_, ?_, ?_, ?_, ?_, ?_, ?_,  ?_⟩
      · first | exact Nat.le_refl _ | omega | (simp; done) | (simp; omega)
      · first | omega | (simp; done) | (simp; omega) | (simp [World.setCell]; omega)
      · first | omega | (simp; omega)
      · first | omega | (simp; done) | (simp; omega) | (simp [World.setCell]; omega)
      · first | omega | (simp; omega)
      · first | exact Bf.alloc1 w2 _ _ _ | exact ((Bf.alloc1 w1 _ _ _).keep hb2).store2 | exact (((Bf.q3 (w := w)).keep (below_undrew hb1)).keep hb2).store2
      · first | exact hr2.alloc _ | exact (hr2.far (by first | omega | (simp; omega)) _).far (by first | omega | (simp; omega)) _
      · exact (Bf.q1 (w := w) (t := 78)).keep (by (repeat (first | assumption | exact Below.refl _ _ | (refine Below.alloc ?_ ?_ _; rotate_left; (focus (first | exact Nat.le_refl _ | omega | (simp; done) | (simp; omega)))) | (refine Below.setCell ?_ ?_ _; rotate_left; (focus (first | exact Nat.le_refl _ | omega | (simp; done) | (simp; omega)))) | refine below_drew ?_ | refine below_drewN ?_ _ | (refine Below.trans ?_ (Below.mono hb2 ?_); rotate_left; (focus (first | exact Nat.le_refl _ | omega | (simp; done) | (simp; omega)))) | (refine Below.trans ?_ (Below.mono hb1 ?_); rotate_left; (focus (first | exact Nat.le_refl _ | omega | (simp; done) | (simp; omega)))))))
      · exact (Bf.q2 (w := w) (t := 78) (t' := 78)).keep (by (repeat (first | assumption | exact Below.refl _ _ | (refine Below.alloc ?_ ?_ _; rotate_left; (focus (first | exact Nat.le_refl _ | omega | (simp; done) | (simp; omega)))) | (refine Below.setCell ?_ ?_ _; rotate_left; (focus (first | exact Nat.le_refl _ | omega | (simp; done) | (simp; omega)))) | refine below_drew ?_ | refine below_drewN ?_ _ | (refine Below.trans ?_ (Below.mono hb2 ?_); rotate_left; (focus (first | exact Nat.le_refl _ | omega | (simp; done) | (simp; omega)))) | (refine Below.trans ?_ (Below.mono hb1 ?_); rotate_left; (focus (first | exact Nat.le_refl _ | omega | (simp; done) | (simp; omega)))))))
      · (repeat (first | assumption | exact Below.refl _ _ | (refine Below.alloc ?_ ?_ _; rotate_left; (focus (first | exact Nat.le_refl _ | omega | (simp; done) | (simp; omega)))) | (refine Below.setCell ?_ ?_ _; rotate_left; (focus (first | exact Nat.le_refl _ | omega | (simp; done) | (simp; omega)))) | refine below_drew ?_ | refine below_drewN ?_ _ | (refine Below.trans ?_ (Below.mono hb2 ?_); rotate_left; (focus (first | exact Nat.le_refl _ | omega | (simp; done) | (simp; omega)))) | (refine Below.trans ?_ (Below.mono hb1 ?_); rotate_left; (focus (first | exact Nat.le_refl _ | omega | (simp; done) | (simp; omega))))))
  case rest =>
    obtain ⟨bo, g, rfl, hbo1, hbo2, hg1, hg2, hne, HO, HR, HP, HQ, HB⟩ := hcut
    have p1 := HP.out.1.2.1
    have p2 := HP.out.1.2.2
    have o1 := HO.out.1.2.1
    have o2 := HO.out.1.2.2
    have q1 := HQ.out.1.2.1
    have q2 := HQ.out.1.2.2
    have q3 := HQ.out.2.1
    have q4 := HQ.out.2.2
    have hd0 := HR.out.cell (k := 0) (by simp; omega)
    have hf0 := HR.out.free 0
    generalize (List.replicate xs.length (0 : Int)).getD 0 0 = y0 at hd0
    have hk1 : (0 : Int) < (xs.length : Int) := by omega
    have hk2 : 0 < xs.length := by omega
    have hk3 : ¬ xs.length = 0 := by omega
    have ne1 : (⟨g, 0, none⟩ : Addr) ≠ ⟨w.heap.size, 0, none⟩ := by first | (simp; done) | (simp; omega)
    have ne2 : (⟨g, 0, none⟩ : Addr) ≠ ⟨bo, 1, none⟩ := by first | (simp; done) | (simp; omega)
    go_wp2
    go_region_held3 (fun w' => w'.cell? ⟨w.heap.size, 0, none⟩ = some (.int .i64 m) ∧ w'.cell? ⟨bo, 1, none⟩ = some (.slice (some ⟨g, 0, none⟩) xs.length xs.length))
      ((first | exact ⟨p1, o2⟩ | exact ⟨(World.cell?_setCell_other _ _ _ _ ne1).trans p1, (World.cell?_setCell_other _ _ _ _ ne2).trans o2⟩ | go_keep))
      (first | (go_at_call 85; refine (mod_any c m _ (by omega) (by omega)).mono ?_; rintro e w1 ⟨rfl, k1, rfl⟩))
    go_wp2
    have hR := HR.out.set_ 0 (c % m)
    rw [conL_of, HY.out] at hR
    have hly : Hid (ys.length = xs.length) := by unfold Hid; rw [← HY.out, length_conL]
    refine bodyPost_ret (v := .agg #[.int .i64 m, .slice (some ⟨g, 0, none⟩) xs.length xs.length]) (by simp [results, Try.results84, go_sem, q1, q2]) rfl ⟨some ⟨g, 0, none⟩, xs.length, by rw [hly.out], ?_, ?_⟩
    · rw [hly.out]
      have := ((hR.far (p := ⟨w.heap.size + 1, 0, none⟩) (by simp; omega) (.int .i64 m)).far (p := ⟨w.heap.size + 1, 1, none⟩) (by simp; omega) (.slice (some ⟨g, 0, none⟩) xs.length xs.length)).own (B := w.heap.size) (by omega)
      rw [hly.out] at this
      exact this
    · (repeat (first | exact HB.out | refine below_drewN ?_ _ | refine below_drew ?_ | (refine Below.setCell ?_ ?_ _; rotate_left; focus (first | omega | (simp; done) | (simp; omega)))))

theorem field1 (a : Value) (A : Option Addr) (n c : Nat) (w : World) : (Instr.field 78 (.agg #[a, .slice A n c]) 1).run Try.prog w = .ok (.slice A n c) w := by
  simp [Instr.field, go_sem, asAgg]

/-! ### The law of Euler: the plain law -/
/-- What is wanted at n + 1 of the root, behind q products. -/
def wtF (m st : Int) (L : List Int) (n q : Nat) : Int := (st - sumN (fun i => co L (i + 1) * co L (n - i)) q) % m
theorem wtF_bd {m : Int} (hm : 0 < m) (st : Int) (L : List Int) (n q : Nat) : 0 ≤ wtF m st L n q ∧ wtF m st L n q < m := ⟨Int.emod_nonneg _ (by omega), Int.emod_lt_of_pos _ hm⟩
theorem wt_zero {m st : Int} (h : 0 ≤ st ∧ st < m) (L : List Int) (n : Nat) : wtF m st L n 0 = st := by
  unfold wtF
  simp only [sumN, Int.sub_zero]
  exact Int.emod_eq_of_lt h.1 h.2
theorem wt_step (m st : Int) (L : List Int) (n q : Nat) : (wtF m st L n q + (m - co L (q + 1)) * co L (n - q)) % m = wtF m st L n (q + 1) := by
  unfold wtF
  simp only [sumN]
  rw [Int.emod_add_emod, Int.sub_mul]
  generalize sumN (fun i => co L (i + 1) * co L (n - i)) q = S
  rw [show st - S + (m * co L (n - q) - co L (q + 1) * co L (n - q)) = st - (S + co L (q + 1) * co L (n - q)) + m * co L (n - q) by omega, Int.add_mul_emod_self_left]
theorem sumN_shift' (f : Nat → Int) (n : Nat) : sumN f (n + 1) = f 0 + sumN (fun i => f (i + 1)) n := by
  induction n with
  | zero => simp [sumN]
  | succ n ih =>
    have e : sumN f (n + 1 + 1) = sumN f (n + 1) + f (n + 1) := rfl
    have e2 : sumN (fun i => f (i + 1)) (n + 1) = sumN (fun i => f (i + 1)) n + f (n + 1) := rfl
    rw [e, e2, ih]
    omega
theorem co_out {xs : List Int} {j : Nat} (h : xs.length ≤ j) : co xs j = 0 := by
  unfold co
  rw [List.getD_eq_getElem?_getD, List.getElem?_eq_none h]
  rfl
theorem sub_emod_right (a b m : Int) : (a - b % m) % m = (a - b) % m := by
  rw [Int.emod_def b m, show a - (b - m * (b / m)) = a - b + m * (b / m) by omega, Int.add_mul_emod_self_left]
theorem wt_impl (m st : Int) (L : List Int) (n d : Nat) (hL : L.length = n + 1) (hd : n + 1 < d) : (st - cv m (co (lst d (co L))) (co (lst d (co L))) (n + 1)) % m = wtF m st L n n := by
  have hc : ∀ j, j < d → co (lst d (co L)) j = co L j := fun j hj => getD_lst _ _ _ hj
  unfold cv cvTo wtF
  rw [sub_emod_right, sumN_shift']
  simp only [Nat.sub_zero, sumN]
  rw [hc (n + 1) (by omega), co_out (xs := L) (j := n + 1) (by omega), Int.mul_zero, Int.zero_mul, Int.zero_add, Int.add_zero]
  rw [sumN_congr]
  intro i hi
  rw [hc _ (by omega), hc _ (by omega), show n + 1 - (i + 1) = n - i by omega]
/-- The series under the root. -/
def sqF (m a e : Int) (k : Nat) : Int := if k = 0 then 1 else if k = 2 then (-2 * a) % m else if k = 4 then e else 0
theorem sqF_bd {m a e : Int} (hm : 2 ≤ m) (he : 0 ≤ e ∧ e < m) (k : Nat) : 0 ≤ sqF m a e k ∧ sqF m a e k < m := by
  have h1 := Int.emod_nonneg (-2 * a) (show m ≠ 0 by omega)
  have h2 := Int.emod_lt_of_pos (-2 * a) (show 0 < m by omega)
  unfold sqF
  split
  · omega
  · split
    · omega
    · split <;> omega
theorem sq_two (m a : Int) : (2 * m - 2 * a) % m = (-2 * a) % m := by
  rw [show 2 * m - 2 * a = -2 * a + m * 2 by omega, Int.add_mul_emod_self_left]
def rootTo (m h a e : Int) : Nat → List Int
  | 0 => [1]
  | n + 1 => rootTo m h a e n ++ [wtF m (sqF m a e (n + 1)) (rootTo m h a e n) n n * h % m]
theorem length_rootTo (m h a e : Int) (n : Nat) : (rootTo m h a e n).length = n + 1 := by
  induction n with
  | zero => rfl
  | succ n ih => simp [rootTo, ih]
theorem rootTo_num {m : Int} (hm : 2 ≤ m) (h a e : Int) (n : Nat) : NumL m (rootTo m h a e n) := by
  induction n with
  | zero =>
    intro j
    cases j with
    | zero => simp only [rootTo, List.getD_cons_zero]; omega
    | succ j => simp only [rootTo, List.getD_cons_succ, List.getD_nil]; omega
  | succ n ih =>
    intro j
    simp only [rootTo, List.getD_eq_getElem?_getD, List.getElem?_append]
    split
    · have := ih j
      rw [List.getD_eq_getElem?_getD] at this
      exact this
    · have h1 := Int.emod_nonneg (wtF m (sqF m a e (n + 1)) (rootTo m h a e n) n n * h) (show m ≠ 0 by omega)
      have h2 := Int.emod_lt_of_pos (wtF m (sqF m a e (n + 1)) (rootTo m h a e n) n n * h) (show 0 < m by omega)
      generalize wtF m (sqF m a e (n + 1)) (rootTo m h a e n) n n * h % m = y at *
      rcases hk : j - (rootTo m h a e n).length with _ | j
      · simp; omega
      · simp; omega
theorem root_next (m h a e : Int) (n d : Nat) : (lst d (co (rootTo m h a e n))).set (n + 1) (wtF m (sqF m a e (n + 1)) (rootTo m h a e n) n n * h % m) = lst d (co (rootTo m h a e (n + 1))) := by
  rw [set_lst]
  apply lst_congr
  intro j _
  have hl := length_rootTo m h a e n
  unfold upd co
  simp only [rootTo, List.getD_eq_getElem?_getD, List.getElem?_append]
  by_cases h : j = n + 1
  · subst h
    simp [hl]
  · rw [if_neg h]
    split
    · rfl
    · rw [List.getElem?_eq_none (by omega), List.getElem?_eq_none (by simp; omega)]
theorem root_all (m h a e : Int) (n : Nat) : lst (n + 1) (co (rootTo m h a e n)) = rootTo m h a e n := by
  have := lst_self (rootTo m h a e n)
  rwa [length_rootTo] at this
theorem root_start (m h a e : Int) (d : Nat) : (List.replicate d (0 : Int)).set 0 1 = lst d (co (rootTo m h a e 0)) := by
  rw [replicate_lst, set_lst]
  apply lst_congr
  intro j _
  cases j with
  | zero => simp [upd, co, rootTo]
  | succ j => simp [upd, co, rootTo]
def topF (m : Int) (R : List Int) (i j : Nat) : Int := ((if i = 1 then co R j else 0) + if j = 1 then co R i else 0) % m
theorem x_root (m : Int) (n : Nat) (R : List Int) : tab n (tmF m n (co2 (tab n (axF (varL n) 0))) (co2 (tab n (axF R 1)))) = tab n fun i j => if i = 1 then co R j % m else 0 := tab_congr fun a b hab => by
  unfold tmF
  by_cases hn : 2 ≤ n
  · rw [allS_single (p := 1) (q := 0) hab (by omega) fun i j hij hne => by rw [co2_tab _ hij, axF_var n 0 i j hij, if_pos rfl, if_neg hne]]
    rw [co2_tab _ (by omega), axF_var n 0 1 0 (by omega)]
    by_cases h1 : 1 ≤ a ∧ 0 ≤ b
    · rw [if_pos h1, co2_tab _ (by omega)]
      unfold axF
      by_cases h2 : a = 1
      · subst h2; simp
      · have h4 : ¬ a - 1 = 0 := by omega
        simp [h2, h4]
    · rw [if_neg h1]
      have h2 : ¬ a = 1 := by omega
      simp [h2]
  · have ha : a = 0 := by omega
    have hb : b = 0 := by omega
    subst ha hb
    have h0 : co2 (tab n (axF (varL n) 0)) 0 0 = 0 := by rw [co2_tab _ hab, axF_var n 0 0 0 hab]; simp
    have e : allS n (co2 (tab n (axF (varL n) 0))) (co2 (tab n (axF R 1))) n 0 0 = 0 := by
      unfold allS
      apply sumN_none
      intro i hi
      unfold rowS
      apply sumN_none
      intro j hj
      have hi0 : i = 0 := by omega
      have hj0 : j = 0 := by omega
      subst hi0 hj0
      unfold fT
      rw [h0, Int.zero_mul]
      split <;> rfl
    rw [e]
    simp
theorem y_root (m : Int) (n : Nat) (R : List Int) : tab n (tmF m n (co2 (tab n (axF (varL n) 1))) (co2 (tab n (axF R 0)))) = tab n fun i j => if j = 1 then co R i % m else 0 := tab_congr fun a b hab => by
  unfold tmF
  by_cases hn : 2 ≤ n
  · rw [allS_single (p := 0) (q := 1) hab (by omega) fun i j hij hne => by rw [co2_tab _ hij, axF_var n 1 i j hij, if_neg (by decide), if_neg hne]]
    rw [co2_tab _ (by omega), axF_var n 1 0 1 (by omega)]
    by_cases h1 : 0 ≤ a ∧ 1 ≤ b
    · rw [if_pos h1, co2_tab _ (by omega)]
      unfold axF
      by_cases h2 : b = 1
      · subst h2; simp
      · have h4 : ¬ b - 1 = 0 := by omega
        simp [h2, h4]
    · rw [if_neg h1]
      have h2 : ¬ b = 1 := by omega
      simp [h2]
  · have ha : a = 0 := by omega
    have hb : b = 0 := by omega
    subst ha hb
    have h0 : co2 (tab n (axF (varL n) 1)) 0 0 = 0 := by rw [co2_tab _ hab, axF_var n 1 0 0 hab]; simp
    have e : allS n (co2 (tab n (axF (varL n) 1))) (co2 (tab n (axF R 0))) n 0 0 = 0 := by
      unfold allS
      apply sumN_none
      intro i hi
      unfold rowS
      apply sumN_none
      intro j hj
      have hi0 : i = 0 := by omega
      have hj0 : j = 0 := by omega
      subst hi0 hj0
      unfold fT
      rw [h0, Int.zero_mul]
      split <;> rfl
    rw [e]
    simp
theorem top_join (m : Int) (n : Nat) (R : List Int) : (tab n fun i j => (co2 (tab n fun i j => if i = 1 then co R j % m else 0) i j + co2 (tab n fun i j => if j = 1 then co R i % m else 0) i j) % m) = tab n (topF m R) := tab_congr fun i j hij => by
  rw [co2_tab _ hij, co2_tab _ hij]
  unfold topF
  by_cases h1 : i = 1
  · by_cases h2 : j = 1
    · rw [if_pos h1, if_pos h1, if_pos h2, if_pos h2, ← Int.add_emod]
    · rw [if_pos h1, if_pos h1, if_neg h2, if_neg h2, Int.add_zero, Int.add_zero, Int.emod_emod]
  · by_cases h2 : j = 1
    · rw [if_neg h1, if_neg h1, if_pos h2, if_pos h2, Int.zero_add, Int.zero_add, Int.emod_emod]
    · rw [if_neg h1, if_neg h1, if_neg h2, if_neg h2]
/-- The reference's top: row 1, then column 1. -/
def topA (R : List Int) (k i j : Nat) : Int := if i = 1 ∧ j < k then co R j else 0
def topB (m : Int) (R : List Int) (k i j : Nat) : Int := if j = 1 ∧ i < k then topF m R i j else if i = 1 then co R j else 0
theorem topA_zero (R : List Int) (n : Nat) : (tab n fun _ _ => 0) = tab n (topA R 0) := tab_congr fun i j _ => by simp [topA]
theorem topA_step (R : List Int) (n k : Nat) : tab n (upd2 (topA R k) 1 k (co R k)) = tab n (topA R (k + 1)) := tab_congr fun i j _ => by
  unfold upd2 topA
  by_cases h : i = 1 ∧ j = k
  · obtain ⟨rfl, rfl⟩ := h
    rw [if_pos ⟨rfl, rfl⟩, if_pos ⟨rfl, by omega⟩]
  · rw [if_neg h]
    by_cases h2 : i = 1 ∧ j < k
    · have h3 : i = 1 ∧ j < k + 1 := by omega
      rw [if_pos h2, if_pos h3]
    · have h3 : ¬ (i = 1 ∧ j < k + 1) := by omega
      rw [if_neg h2, if_neg h3]
theorem topA_all (m : Int) (R : List Int) (n : Nat) : tab n (topA R (n - 1)) = tab n (topB m R 0) := tab_congr fun i j hij => by
  unfold topA topB
  rw [if_neg (show ¬ (j = 1 ∧ i < 0) by omega)]
  by_cases h : i = 1
  · rw [if_pos ⟨h, by omega⟩, if_pos h]
  · rw [if_neg (by omega), if_neg h]
theorem topB_at (m : Int) (R : List Int) (k : Nat) : topB m R k k 1 = if k = 1 then co R 1 else 0 := by
  unfold topB
  rw [if_neg (by omega)]
theorem topB_step (m : Int) (R : List Int) (n k : Nat) : tab n (upd2 (topB m R k) k 1 ((topB m R k k 1 + co R k) % m)) = tab n (topB m R (k + 1)) := tab_congr fun i j _ => by
  rw [topB_at]
  unfold upd2
  by_cases h : i = k ∧ j = 1
  · obtain ⟨rfl, rfl⟩ := h
    rw [if_pos ⟨rfl, rfl⟩]
    have h3 : (1 : Nat) = 1 ∧ i < i + 1 := ⟨rfl, by omega⟩
    unfold topB topF
    rw [if_pos h3]
    simp
  · rw [if_neg h]
    unfold topB
    by_cases h2 : j = 1 ∧ i < k
    · have h3 : j = 1 ∧ i < k + 1 := by omega
      rw [if_pos h2, if_pos h3]
    · have h3 : ¬ (j = 1 ∧ i < k + 1) := by omega
      rw [if_neg h2, if_neg h3]
theorem topB_all (m : Int) (R : List Int) (n : Nat) (hR : NumL m R) : tab n (topB m R (n - 1)) = tab n (topF m R) := tab_congr fun i j hij => by
  unfold topB
  by_cases h : j = 1
  · rw [if_pos ⟨h, by omega⟩]
  · rw [if_neg (by omega)]
    unfold topF
    rw [if_neg h, Int.add_zero]
    split
    · exact (Int.emod_eq_of_lt (hR j).1 (hR j).2).symm
    · simp
/-- The reference's factor. -/
def facTo (m e : Int) (k i j : Nat) : Int := if i = j ∧ i % 2 = 0 ∧ i / 2 < k then gp m e (i / 2) else 0
theorem facTo_zero (m e : Int) (n : Nat) : (tab n fun _ _ => 0) = tab n (facTo m e 0) := tab_congr fun i j _ => by simp [facTo]
theorem facTo_step (m e : Int) (n k : Nat) : tab n (upd2 (facTo m e k) (2 * k) (2 * k) (gp m e k)) = tab n (facTo m e (k + 1)) := tab_congr fun i j _ => by
  unfold upd2 facTo
  by_cases h : i = 2 * k ∧ j = 2 * k
  · obtain ⟨rfl, rfl⟩ := h
    rw [if_pos ⟨rfl, rfl⟩, if_pos ⟨rfl, by omega, by omega⟩, show 2 * k / 2 = k by omega]
  · rw [if_neg h]
    by_cases h2 : i = j ∧ i % 2 = 0 ∧ i / 2 < k
    · have h3 : i = j ∧ i % 2 = 0 ∧ i / 2 < k + 1 := by omega
      rw [if_pos h2, if_pos h3]
    · have h3 : ¬ (i = j ∧ i % 2 = 0 ∧ i / 2 < k + 1) := by omega
      rw [if_neg h2, if_neg h3]
theorem facTo_all (m e : Int) (n k : Nat) (h : n ≤ 4 * k) : tab n (facTo m e k) = tab n (geoF m e 2 (n - 1)) := tab_congr fun i j hij => by
  unfold facTo geoF
  by_cases h2 : i = j ∧ i % 2 = 0 ∧ i / 2 < k
  · have h3 : i = j ∧ i % 2 = 0 ∧ i / 2 ≤ n - 1 := by omega
    rw [if_pos h2, if_pos h3]
  · have h3 : ¬ (i = j ∧ i % 2 = 0 ∧ i / 2 ≤ n - 1) := by omega
    rw [if_neg h2, if_neg h3]
theorem xy_sq (m : Int) (n : Nat) (hm : 2 ≤ m) : tab n (tmF m n (co2 (tab n fun i j => if i = 1 ∧ j = 1 then (1 : Int) else 0)) (co2 (tab n fun i j => if i = 1 ∧ j = 1 then (1 : Int) else 0))) = tab n fun i j => if i = 2 ∧ j = 2 then 1 else 0 := tab_congr fun a b hab => by
  unfold tmF
  rw [allS_single2 (p := 1) (q := 1) hab fun i j hij hne => by rw [co2_tab _ hij, if_neg hne]]
  have e1 : (1 : Int) % m = 1 := Int.emod_eq_of_lt (by omega) (by omega)
  by_cases h1 : 1 ≤ a ∧ 1 ≤ b
  · rw [if_pos h1, co2_tab _ (by omega), co2_tab _ (by omega)]
    by_cases h2 : a = 2 ∧ b = 2
    · obtain ⟨rfl, rfl⟩ := h2
      simp [e1]
    · have h3 : ¬ (a - 1 = 1 ∧ b - 1 = 1) := by omega
      rw [if_neg h3, if_neg h2, Int.zero_mul, Int.zero_emod]
  · rw [if_neg h1, if_neg (by omega), Int.zero_emod]
theorem eul_rest (m e : Int) (n : Nat) (hm : 2 ≤ m) : (tab n fun i j => (co2 (tab n (numF m 1)) i j - co2 (tab n fun i j => (co2 (tab n (numF m 1)) i j - co2 (tab n fun i j => e % m * co2 (tab n fun i j => if i = 2 ∧ j = 2 then (1 : Int) else 0) i j % m) i j) % m) i j) % m) = tab n (sing 2 (e % m)) := tab_congr fun i j hij => by
  rw [co2_tab _ hij, co2_tab _ hij, co2_tab _ hij, co2_tab _ hij, co2_tab _ hij]
  unfold numF sing
  have e1 : (1 : Int) % m = 1 := Int.emod_eq_of_lt (by omega) (by omega)
  rw [sub_emod_right]
  by_cases h1 : i = 2 ∧ j = 2
  · obtain ⟨rfl, rfl⟩ := h1
    simp
  · rw [if_neg h1, if_neg h1, Int.mul_zero, Int.zero_emod, Int.sub_zero, Int.sub_self, Int.zero_emod]

/-! ### The product of two tables (spec) -/
set_option maxRecDepth 16000 in
set_option maxHeartbeats 8000000 in
theorem l03Times_any (w : World) (m : Int) (v v2 : Value) (xss yss zss : List (List Int)) (n : Nat) (lo0 hi0 lo2 hi2 : Nat) (hv : OwnP w lo0 hi0 v xss) (ht : Tri n xss) (hq : Num2 m xss) (hv2 : OwnP w lo2 hi2 v2 yss) (ht2 : Tri n yss) (hq2 : Num2 m yss) (hm : 2 ≤ m) (hm' : m ≤ 3000000000) (hn1 : 1 ≤ n) (hn : n ≤ 1000) (hz : tab n (tmF m n (co2 xss) (co2 yss)) = zss) :
    Calls Try.prog 146 #[.int .i64 m, v, v2] w (NewP w zss) := by
  obtain ⟨gA, cA, rfl, hcA1, hcA2, hgA, hA⟩ := hv.source n ht.1 hn1
  obtain ⟨gB, cB, rfl, hcB1, hcB2, hgB, hB⟩ := hv2.source n ht2.1 hn1
  have HZ := Lib.hid hz
  have HT := Lib.hid ht
  have HT2 := Lib.hid ht2
  have HQ := Lib.hid hq
  have HQ2 := Lib.hid hq2
  have HV := Lib.hid hv
  have HV2 := Lib.hid hv2
  have HL : Hid (zss.length = n) := by unfold Hid; rw [← hz, length_tab]
  clear hz ht ht2 hq hq2 hv hv2 hA hB
  go_enter Try.func146, Try.ntmps146
  go_wp2_with (go_at_call 125; refine (l03Zero_any _ _ n (by omega) (by omega)).mono ?_; rintro e w1 ⟨A1, c1, rfl, o1, hb1⟩; rw [length_tab] at o1 ⊢; obtain ⟨g, _, _, -, e0, hg1, hg2, hg3, -⟩ := o1.row (k := 0) (by rw [length_tab]; omega); rw [length_tab] at e0; simp only [Value.slice.injEq] at e0; obtain ⟨rfl, -, rfl⟩ := e0)
  rw [tP_zero m n (co2 xss) (co2 yss)] at o1
  obtain ⟨lo, hlo⟩ : ∃ lo, lo = w.heap.size := ⟨_, rfl⟩
  obtain ⟨hi, hhi⟩ : ∃ hi, hi = w1.heap.size := ⟨_, rfl⟩
  have HR0 : Hid (OwnP w1 lo hi (.slice (some ⟨g, 0, none⟩) n c1) (tab n (stP m n (co2 xss) (co2 yss) 0 0 0 0))) := by rw [hlo, hhi]; exact o1
  have HB0 := Lib.hid hb1
  have hlo2 : w.heap.size ≤ lo := by omega
  clear o1 hb1 hhi
  go_loopw [9] (fun s wr => ∃ i : Nat, i ≤ n ∧ s = .int .i64 i ∧ Hid (OwnP wr lo hi (.slice (some ⟨g, 0, none⟩) n c1) (tab n (stP m n (co2 xss) (co2 yss) i 0 0 0))) ∧ Hid (Below w.heap.size w wr)) (fun s _ => n - (intOf s).toNat)
  case atStart => exact ⟨0, Nat.zero_le _, rfl, HR0, HB0⟩
  case round =>
    clear HR0 HB0
    obtain ⟨i, hin, rfl, HR, HB⟩ := hrel
    by_cases hlti : i < n
    · obtain ⟨gx, grx, crx, e1, hx1, hx2, hx3, -, hx5⟩ := HV.out.at2 (i := i) (j := 0) (by rw [HT.out.1]; exact hlti) (by rw [HT.out.2 i hlti]; omega)
      simp only [Option.some.injEq, Addr.mk.injEq] at e1
      obtain ⟨rfl, -⟩ := e1
      obtain ⟨ri, hri⟩ : ∃ ri, ri = n - i := ⟨_, rfl⟩
      rw [HT.out.2 i hlti, ← hri] at hx2 hx5
      have hri2 : i + ri = n := by omega
      have HRI := Lib.hid hri2
      have hri3 : i + ri ≤ n ∧ n ≤ i + ri := by omega
      clear hri hri2
      have hi0 : (0 : Int) ≤ (i : Int) := by omega
      have hi1 : (i : Int) < (n : Int) := by omega
      go_wp2
      go_loopw [10] (fun s wr => ∃ j : Nat, j ≤ ri ∧ s = .int .i64 j ∧ Hid (OwnP wr lo hi (.slice (some ⟨g, 0, none⟩) n c1) (tab n (stP m n (co2 xss) (co2 yss) i j 0 0))) ∧ Hid (Below w.heap.size w wr)) (fun s _ => ri - (intOf s).toNat)
      case atStart => exact ⟨0, Nat.zero_le _, rfl, HR, HB⟩
      case round =>
        clear HR HB
        obtain ⟨j, hj, rfl, HR, HB⟩ := hrel
        by_cases hltj : j < ri
        · obtain ⟨gx2, grx2, crx2, e1, -, hy2, hy3, hy4, -⟩ := HV.out.at2 (i := i) (j := j) (by rw [HT.out.1]; exact hlti) (by rw [HT.out.2 i hlti]; omega)
          simp only [Option.some.injEq, Addr.mk.injEq] at e1
          obtain ⟨rfl, -⟩ := e1
          rw [hx2] at hy2
          simp only [Option.some.injEq, Value.slice.injEq, Addr.mk.injEq] at hy2
          obtain ⟨⟨rfl, -⟩, -, -⟩ := hy2
          have hc1 := (HB.out.cell (p := ⟨gA, i, none⟩) hx1).trans hx2
          have hc2 := (HB.out.cell (p := ⟨grx, j, none⟩) hy3).trans hy4
          have hxb := HQ.out i j
          obtain ⟨x, hx⟩ : ∃ x, x = co2 xss i j := ⟨_, rfl⟩
          rw [← hx] at hc2 hxb hy4
          have HX := Lib.hid hx
          clear hx
          have hj0 : (0 : Int) ≤ (j : Int) := by omega
          have hj1 : (j : Int) < (ri : Int) := by omega
          have hij : (i : Int) + (j : Int) < (n : Int) := by omega
          by_cases hx0 : x = 0
          · have hxz : (x == 0) = true := by simpa using hx0
            have hs := HR.out
            rw [tP_skip m n (co2 xss) (co2 yss) i j (by rw [← HX.out]; exact hx0)] at hs
            have HR' := Lib.hid hs
            clear hs hx0
            go_wp2
            go_roundw
            case rel => exact ⟨j + 1, by omega, by go_num, HR', HB⟩
            case measure => simp [intOf]; omega
          · have hxz : (x == 0) = false := by simpa using hx0
            clear hx0
            go_wp2
            clear hc2 hc1
            go_loopw [11] (fun s wr => ∃ k : Nat, i + j + k ≤ n ∧ s = .int .i64 k ∧ Hid (OwnP wr lo hi (.slice (some ⟨g, 0, none⟩) n c1) (tab n (stP m n (co2 xss) (co2 yss) i j k 0))) ∧ Hid (Below w.heap.size w wr)) (fun s _ => n + 1 - (intOf s).toNat)
            case atStart => exact ⟨0, by omega, rfl, HR, HB⟩
            case round =>
              clear HR HB
              obtain ⟨k, hk, rfl, HR, HB⟩ := hrel
              by_cases hltk : i + j + k < n
              · obtain ⟨gy, gry, cry, e1, hw1, hw2, hw3, -, hw5⟩ := HV2.out.at2 (i := k) (j := 0) (by rw [HT2.out.1]; omega) (by rw [HT2.out.2 k (by omega)]; omega)
                simp only [Option.some.injEq, Addr.mk.injEq] at e1
                obtain ⟨rfl, -⟩ := e1
                obtain ⟨rk, hrk⟩ : ∃ rk, rk = n - k := ⟨_, rfl⟩
                rw [HT2.out.2 k (by omega), ← hrk] at hw2 hw5
                obtain ⟨r, hr⟩ : ∃ r, i + j + k + r = n := ⟨n - (i + j + k), by omega⟩
                have HRR := Lib.hid hr
                have hr3 : i + j + k + r ≤ n ∧ n ≤ i + j + k + r ∧ r ≤ rk ∧ rk + k ≤ n ∧ n ≤ rk + k := by omega
                clear hrk hr
                have hc3 := (HB.out.cell (p := ⟨gB, k, none⟩) hw1).trans hw2
                obtain ⟨gr, cr, hcr, hne, hgl, hgh, hgz, -, -, -⟩ := HR.out.put (i := i + k) (j := j) (by omega)
                obtain ⟨q, hq⟩ : ∃ q, q = n - (i + k) := ⟨_, rfl⟩
                rw [← hq] at hcr
                have hq2 : q + (i + k) ≤ n ∧ n ≤ q + (i + k) := by omega
                clear hq
                have hk0 : (0 : Int) ≤ (k : Int) := by omega
                have hk1 : (k : Int) < (n : Int) := by omega
                have hk2 : (i : Int) + (j : Int) + (k : Int) < (n : Int) := by omega
                have v1 : IntKind.i64.wrap ((i : Int) + (k : Int)) = (i : Int) + (k : Int) := IntWalk.i64_in _ (by omega)
                have v5 : (0 : Int) ≤ (i : Int) + (k : Int) := by omega
                have v6 : (i : Int) + (k : Int) < (n : Int) := by omega
                have v7 : ((i : Int) + (k : Int)).toNat = i + k := by omega
                go_wp2
                go_quiet (fail)
                have HCR : Hid (wr.cell? ⟨g, i + k, none⟩ = some (.slice (some ⟨gr, 0, none⟩) q cr)) := hcr
                clear v1 hc3 hcr
                go_wp2
                go_loopw [14] (fun s wr => ∃ l : Nat, l ≤ r ∧ s = .int .i64 l ∧ Hid (wr.cell? ⟨g, i + k, none⟩ = some (.slice (some ⟨gr, 0, none⟩) q cr)) ∧ Hid (OwnP wr lo hi (.slice (some ⟨g, 0, none⟩) n c1) (tab n (stP m n (co2 xss) (co2 yss) i j k l))) ∧ Hid (Below w.heap.size w wr)) (fun s _ => r - (intOf s).toNat)
                case atStart => exact ⟨0, Nat.zero_le _, rfl, HCR, HR, below_drewN HB.out _⟩
                case round =>
                  clear HR HB HCR
                  obtain ⟨l, hl, rfl, HCR, HR, HB⟩ := hrel
                  by_cases hltl : l < r
                  · obtain ⟨gy2, gry2, cry2, e1, -, hu2, hu3, hu4, -⟩ := HV2.out.at2 (i := k) (j := l) (by rw [HT2.out.1]; omega) (by rw [HT2.out.2 k (by omega)]; omega)
                    simp only [Option.some.injEq, Addr.mk.injEq] at e1
                    obtain ⟨rfl, -⟩ := e1
                    rw [hw2] at hu2
                    simp only [Option.some.injEq, Value.slice.injEq, Addr.mk.injEq] at hu2
                    obtain ⟨⟨rfl, -⟩, -, -⟩ := hu2
                    have hc1 := (HB.out.cell (p := ⟨gA, i, none⟩) hx1).trans hx2
                    have hc2 := (HB.out.cell (p := ⟨grx, j, none⟩) hy3).trans hy4
                    have hc4 := (HB.out.cell (p := ⟨gry, l, none⟩) hu3).trans hu4
                    have hyb := HQ2.out k l
                    obtain ⟨gr2, cr2, hcr2, hne2, hgl2, hgh2, hgz2, hd0, hf0, hset⟩ := HR.out.put (i := i + k) (j := j + l) (by omega)
                    rw [HCR.out] at hcr2
                    simp only [Option.some.injEq, Value.slice.injEq, Addr.mk.injEq] at hcr2
                    obtain ⟨⟨rfl, -⟩, -, -⟩ := hcr2
                    rw [stP_at] at hd0
                    have hsb := stS_bd (show 0 < m by omega) n (co2 xss) (co2 yss) i j (i + k) (j + l)
                    have hst := tP_step' m n (co2 xss) (co2 yss) i j k l
                    rw [← HX.out] at hst
                    obtain ⟨y, hy⟩ : ∃ y, y = co2 yss k l := ⟨_, rfl⟩
                    rw [← hy] at hc4 hyb hst
                    have HST := Lib.hid hst
                    have HSET := Lib.hid hset
                    obtain ⟨s, hs⟩ : ∃ s, s = stS n (co2 xss) (co2 yss) i j (i + k) (j + l) % m := ⟨_, rfl⟩
                    rw [← hs] at hd0 hsb HST
                    clear hset hst hu4 hy hs
                    have hxy := prod_bd hxb.1 hxb.2 hyb.1 hyb.2 hm'
                    have hl0 : (0 : Int) ≤ (l : Int) := by omega
                    have hl1 : (l : Int) < (rk : Int) := by omega
                    have hl2 : (i : Int) + (j : Int) + (k : Int) + (l : Int) < (n : Int) := by omega
                    have v2 : IntKind.i64.wrap ((j : Int) + (l : Int)) = (j : Int) + (l : Int) := IntWalk.i64_in _ (by omega)
                    have v3 : IntKind.i64.wrap (s + x * y) = s + x * y := IntWalk.i64_in _ (by omega)
                    have v3' : IntKind.i64.wrap (x * y) = x * y := IntWalk.i64_in _ (by omega)
                    have v4 : (s + x * y).tmod m = (s + x * y) % m := Int.tmod_eq_emod_of_nonneg (by omega)
                    have v8 : (0 : Int) ≤ (j : Int) + (l : Int) := by omega
                    have v9 : (j : Int) + (l : Int) < (q : Int) := by omega
                    have v10 : ((j : Int) + (l : Int)).toNat = j + l := by omega
                    have v11 : (m == 0) = false := by simp; omega
                    have v12 : ¬ m = 0 := by omega
                    go_wp2
                    go_still_tail 26, (by kernel_rfl)
                    change wpList _ _ _ _ _ wr.drew
                    clear v2 v3 v3' v4
                    go_wp2
                    go_roundw
                    case rel =>
                      refine ⟨l + 1, by omega, by go_num, ?_, ?_, (below_drew HB.out).setCell (by simp; omega) _⟩
                      · unfold Hid
                        exact (World.cell?_setCell_other _ _ _ _ (by first | (simp; done) | (simp; omega))).trans HCR.out
                      · unfold Hid
                        rw [← HST.out]
                        exact HSET.out _
                    case measure => simp [intOf]; omega
                  · have hlr : l = r := by omega
                    have hs := HR.out
                    rw [hlr, tP_endl m n (co2 xss) (co2 yss) i j k r HRR.out] at hs
                    have HR' := Lib.hid hs
                    have hd6 : decide ((i : Int) + (j : Int) + (k : Int) + (l : Int) < (n : Int)) = false := by simp; omega
                    clear hs hlr
                    go_wp2
                    go_roundw
                    case rel => exact ⟨k + 1, by omega, by go_num, HR', HB⟩
                    case measure => simp [intOf]; omega
              · have hkn : i + j + k = n := by omega
                have hs := HR.out
                rw [tP_endk m n (co2 xss) (co2 yss) i j k hkn] at hs
                have HR' := Lib.hid hs
                have hd6 : decide ((i : Int) + (j : Int) + (k : Int) < (n : Int)) = false := by simp; omega
                clear hs hkn
                go_wp2
                go_roundw
                case rel => exact ⟨j + 1, by omega, by go_num, HR', HB⟩
                case measure => simp [intOf]; omega
        · have hjr : j = ri := by omega
          have hs := HR.out
          rw [hjr, tP_endj m n (co2 xss) (co2 yss) i ri HRI.out] at hs
          have HR' := Lib.hid hs
          have hd6 : decide ((i : Int) + (j : Int) < (n : Int)) = false := by simp; omega
          clear hs hjr
          go_wp2
          go_roundw
          case rel => exact ⟨i + 1, by omega, by go_num, HR', HB⟩
          case measure => simp [intOf]; omega
    · obtain rfl : i = n := by omega
      have hs := HR.out
      rw [tP_all, HZ.out] at hs
      have hd6 : decide ((i : Int) < (i : Int)) = false := by simp
      go_wp2
      go_ret
      exact ⟨some ⟨g, 0, none⟩, c1, by rw [HL.out]; rfl, by rw [HL.out]; exact hs.top (by omega), HB.out⟩

/-! ### The root (spec) -/
theorem invN_bd {m : Int} (hm : 0 < m) (a : Int) : 0 ≤ invN m a ∧ invN m a < m := ⟨Int.emod_nonneg _ (by omega), Int.emod_lt_of_pos _ hm⟩
theorem madeRow (w : World) (n : Nat) (hn : n ≤ 1000000000000) : RowI (w.alloc (.cells (madeCells #[Value.int .i64 0] n) 2)) w.heap.size n (List.replicate n 0) := by
  rcases (made_own w n hn w.heap.size (Nat.le_refl _)).row with ⟨e, -⟩ | ⟨g, c, e, -, h⟩
  · simp at e
  · simp only [Value.slice.injEq, Option.some.injEq, Addr.mk.injEq] at e
    obtain ⟨⟨rfl, -⟩, -, rfl⟩ := e
    exact h
theorem sqF_zero {m a e : Int} {k : Nat} (h0 : k ≠ 0) (h2 : k ≠ 2) (h4 : k ≠ 4) : sqF m a e k = 0 := by
  unfold sqF
  rw [if_neg h0, if_neg h2, if_neg h4]
set_option maxRecDepth 16000 in
set_option maxHeartbeats 8000000 in
theorem l08Root_any (w : World) (m d a0 e0 : Int) (zs : List Int) (n : Nat) (hd : d + 1 = (n : Int)) (hm : 2 ≤ m) (hm' : m ≤ 10000) (hn2 : 2 ≤ n) (hn : n ≤ 1000) (ha : 0 ≤ a0 ∧ a0 < m) (he : 0 ≤ e0 ∧ e0 < m) (hz : rootTo m (invN m 2) a0 e0 (n - 1) = zs) :
    Calls Try.prog 145 #[.int .i64 m, .int .i64 d, .int .i64 a0, .int .i64 e0] w (NewI w zs) := by
  have hd2 : d = (n : Int) - 1 := by omega
  subst hd2
  obtain ⟨u, hu⟩ : ∃ u, u = invN m 2 := ⟨_, rfl⟩
  have hub := invN_bd (show 0 < m by omega) 2
  rw [← hu] at hub hz
  have HU : Hid (invN m 2 = u) := hu.symm
  have HZ := Lib.hid hz
  have hmk := make64 n (by omega)
  have hwn : IntKind.i64.wrap ((n : Int) - 1 + 1) = (n : Int) := by rw [show (n : Int) - 1 + 1 = (n : Int) by omega]; exact IntWalk.i64_in _ (by omega)
  have hwn2 : (n : Int) - 1 + 1 = (n : Int) := by omega
  have hwn3 : IntKind.i64.wrap (n : Int) = (n : Int) := IntWalk.i64_in _ (by omega)
  have HNB := Lib.hid (rootTo_num (m := m) hm u a0 e0)
  clear hd hz hu
  go_enter Try.func145, Try.ntmps145
  go_upto_region 1 with fail
  go_cut [9, 10] from 14 to 18 (fun s9 s10 wx => ∃ g : Nat, s9 = .int .i64 u ∧ s10 = .slice (some ⟨g, 0, none⟩) n n ∧ w.heap.size ≤ g ∧ Hid (RowI wx g n (List.replicate n 0)) ∧ Hid (Below w.heap.size w wx))
  case first =>
    go_region_law ((go_simp; go_at_call 111; refine (l01Inv_any m 2 _ (by omega) (by omega)).mono ?_; rintro e w1 ⟨rfl, k1, rfl⟩; rw [HU.out]))
    · go_wp2_with fail
      go_meet
      exact ⟨w.heap.size, rfl, rfl, Nat.le_refl _, madeRow (w.drewN (1 + k1)) n (by omega), by (repeat (first | assumption | exact Below.refl _ _ | refine Below.alloc ?_ (by first | omega | (simp; done) | (simp; omega)) _ | refine Below.setCell ?_ (by first | omega | (simp; done) | (simp; omega)) _ | refine below_drewN ?_ _))⟩
    · go_wp2_with fail
      go_meet
      exact ⟨w.heap.size, rfl, rfl, Nat.le_refl _, (madeRow w n (by omega)).drewN _, by (repeat (first | assumption | exact Below.refl _ _ | refine Below.alloc ?_ (by first | omega | (simp; done) | (simp; omega)) _ | refine Below.setCell ?_ (by first | omega | (simp; done) | (simp; omega)) _ | refine below_drewN ?_ _))⟩
  case rest =>
    obtain ⟨g, rfl, rfl, hg, HR, HB⟩ := hcut
    have hd0 := HR.out.cell (k := 0) (by simp; omega)
    have hf0 := HR.out.free 0
    obtain ⟨y0, hy0⟩ : ∃ y0, y0 = (List.replicate n (0 : Int)).getD 0 0 := ⟨_, rfl⟩
    rw [← hy0] at hd0
    clear hy0
    have R0 := HR.out.set_ 0 1
    rw [root_start m u a0 e0 n] at R0
    have B0 := HB.out.setCell (p := ⟨g, 0, none⟩) hg (.int .i64 1)
    have hn0 : 0 < n := by omega
    have hn0' : (0 : Int) < (n : Int) := by omega
    have hn0'' : ¬ n = 0 := by omega
    clear hmk hwn hwn2 hwn3
    go_wp2
    clear hd0 hf0
    go_loopw [11] (fun i wr => ∃ k : Nat, k + 1 ≤ n ∧ i = .int .i64 ((k : Int) + 1) ∧ Hid (RowI wr g n (lst n (co (rootTo m u a0 e0 k)))) ∧ Hid (Below w.heap.size w wr)) (fun i _ => n + 1 - (intOf i).toNat)
    case atStart => exact ⟨0, by omega, rfl, R0, B0⟩
    case round =>
      clear HR HB R0 B0
      obtain ⟨k, hk, rfl, HR, HB⟩ := hrel
      have zB := HB.out.size
      have zR := HR.out.lt
      obtain ⟨I, hI⟩ : ∃ I : Int, I = (k : Int) + 1 := ⟨_, rfl⟩
      rw [← hI]
      have HI := Lib.hid hI
      have hIa : I ≤ (k : Int) + 1 := by omega
      have hIb : (k : Int) + 1 ≤ I := by omega
      have hIn : Hid (I.toNat = k + 1) := by unfold Hid; omega
      clear hI
      by_cases hlt : k + 1 < n
      · have hlt1 : I ≤ (n : Int) - 1 := by omega
        obtain ⟨L, hL⟩ : ∃ L, L = rootTo m u a0 e0 k := ⟨_, rfl⟩
        have HLL : Hid (L.length = k + 1) := by unfold Hid; rw [hL, length_rootTo]
        have HLB : Hid (NumL m L) := by unfold Hid; rw [hL]; exact HNB.out k
        have hnx := root_next m u a0 e0 k n
        rw [← hL] at hnx HR
        have HNX := Lib.hid hnx
        obtain ⟨st, hst⟩ : ∃ st, st = sqF m a0 e0 (k + 1) := ⟨_, rfl⟩
        have hsb := sqF_bd hm he (a := a0) (k + 1)
        rw [← hst] at hsb HNX
        clear hnx hL
        by_cases h1 : k = 1
        · have HS : Hid ((2 * m - 2 * a0) % m = st) := by unfold Hid; rw [hst, h1, sq_two]; rfl
          have hb2 : (I == 2) = true := by simp; omega
          have hb4 : (I == 4) = false := by simp; omega
          have v1 : IntKind.i64.wrap (2 * m) = 2 * m := IntWalk.i64_in _ (by omega)
          have v2 : IntKind.i64.wrap (2 * a0) = 2 * a0 := IntWalk.i64_in _ (by omega)
          have v3 : IntKind.i64.wrap (2 * m - 2 * a0) = 2 * m - 2 * a0 := IntWalk.i64_in _ (by omega)
          have v4 : (2 * m - 2 * a0).tmod m = (2 * m - 2 * a0) % m := Int.tmod_eq_emod_of_nonneg (by omega)
          have v5 : ¬ m = 0 := by omega
          clear h1 hst
          go_wp2
          go_loopw [12, 13] (fun s i w2 => ∃ q : Nat, q ≤ k ∧ s = .int .i64 (wtF m st L k q) ∧ i = .int .i64 ((q : Int) + 1) ∧ ∃ kk, w2 = wr.drewN kk) (fun _ i _ => k + 3 - (intOf i).toNat)
          case atStart => exact ⟨0, Nat.zero_le _, by rw [wt_zero hsb, ← HS.out]; first | rfl | (rw [show 2 * m - 2 * a0 = -(2 * a0) + m * 2 by omega, Int.add_mul_emod_self_left]), rfl, 0, rfl⟩
          case round =>
            obtain ⟨q, hq, rfl, rfl, kk, rfl⟩ := hrel
            by_cases hlt2 : q < k
            · have hq1 : (q : Int) + 1 < I := by omega
              obtain ⟨z, hzq⟩ : ∃ z, z + q = k := ⟨k - q, by omega⟩
              have hx0 := HR.out.cell (k := q + 1) (by rw [length_lst]; omega)
              have hy0 := HR.out.cell (k := z) (by rw [length_lst]; omega)
              rw [getD_lst _ _ _ (by omega)] at hx0 hy0
              have hst := wt_step m st L k q
              rw [show k - q = z by omega] at hst
              have hxb : 0 ≤ co L (q + 1) ∧ co L (q + 1) < m := HLB.out (q + 1)
              have hyb : 0 ≤ co L z ∧ co L z < m := HLB.out z
              have hwb := wtF_bd (show 0 < m by omega) st L k q
              obtain ⟨x, hx⟩ : ∃ x, x = co L (q + 1) := ⟨_, rfl⟩
              obtain ⟨y, hy⟩ : ∃ y, y = co L z := ⟨_, rfl⟩
              obtain ⟨W, hW⟩ : ∃ W, W = wtF m st L k q := ⟨_, rfl⟩
              rw [← hx] at hx0 hst hxb
              rw [← hy] at hy0 hst hyb
              rw [← hW] at hst hwb ⊢
              have HST := Lib.hid hst
              clear hst hx hy hW
              have hp := mul_bd' (show 0 ≤ m - x by omega) (show m - x ≤ 10000 by omega) hyb.1 (show y ≤ 10000 by omega)
              have v1 : IntKind.i64.wrap (m - x) = m - x := IntWalk.i64_in _ (by omega)
              have v2 : IntKind.i64.wrap ((m - x) * y) = (m - x) * y := IntWalk.i64_in _ (by omega)
              have v3 : IntKind.i64.wrap (W + (m - x) * y) = W + (m - x) * y := IntWalk.i64_in _ (by omega)
              have v4 : (W + (m - x) * y).tmod m = (W + (m - x) * y) % m := Int.tmod_eq_emod_of_nonneg (by omega)
              have v5 : IntKind.i64.wrap (I - ((q : Int) + 1)) = (z : Int) := by rw [show I - ((q : Int) + 1) = (z : Int) by omega]; exact IntWalk.i64_in _ (by omega)
              have v5' : I - ((q : Int) + 1) = (z : Int) := by omega
              have v5'' : IntKind.i64.wrap (z : Int) = (z : Int) := IntWalk.i64_in _ (by omega)
              have v6 : (q : Int) + 1 < (n : Int) := by omega
              have v7 : ((q : Int) + 1).toNat = q + 1 := by omega
              have v8 : (z : Int) < (n : Int) := by omega
              have v9 : (0 : Int) ≤ (z : Int) := by omega
              have v10 : (0 : Int) ≤ (q : Int) + 1 := by omega
              have v11 : ¬ m = 0 := by omega
              go_wp2
              go_quiet (fail)
              clear v1 v2 v3 v4 v5 v5' v5''
              go_wp2
              go_roundw
              case rel => exact ⟨q + 1, by omega, by rw [HST.out], by go_num, _, rfl⟩
              case measure => simp [intOf]; omega
            · have hqk : Hid (q = k) := by unfold Hid; omega
              have hd6 : decide ((q : Int) + 1 < I) = false := by simp; omega
              have hwb := wtF_bd (show 0 < m by omega) st L k q
              have HNX2 : Hid ((lst n (co L)).set (k + 1) (wtF m st L k q * u % m) = lst n (co (rootTo m u a0 e0 (k + 1)))) := by unfold Hid; rw [hqk.out]; exact HNX.out
              obtain ⟨W, hW⟩ : ∃ W, W = wtF m st L k q := ⟨_, rfl⟩
              rw [← hW] at hwb HNX2 ⊢
              have hd0 := HR.out.cell (k := k + 1) (by rw [length_lst]; exact hlt)
              have hf0 := HR.out.free (k + 1)
              obtain ⟨y1, hy1⟩ : ∃ y1, y1 = (lst n (co L)).getD (k + 1) 0 := ⟨_, rfl⟩
              rw [← hy1] at hd0
              clear hW hy1
              have hp := mul_bd' hwb.1 (show W ≤ 10000 by omega) hub.1 (show u ≤ 10000 by omega)
              have v1 : IntKind.i64.wrap (W * u) = W * u := IntWalk.i64_in _ (by omega)
              have v2 : (W * u).tmod m = W * u % m := Int.tmod_eq_emod_of_nonneg (by omega)
              have v3 : (0 : Int) ≤ I := by omega
              have v4 : I < (n : Int) := by omega
              have v5 := hIn.out
              have v6 : ¬ m = 0 := by omega
              have v7 : IntKind.i64.wrap (I + 1) = I + 1 := IntWalk.i64_in _ (by omega)
              go_wp2
              go_roundw
              case rel =>
                refine ⟨k + 1, by omega, by rw [HI.out]; go_num, ?_, Below.setCell (below_drewN HB.out _) (by first | omega | (simp; done) | (simp; omega)) _⟩
                unfold Hid
                rw [← HNX2.out]
                exact (HR.out.drewN kk).set_ (k + 1) _
              case measure => simp [intOf]; omega
        · by_cases h3 : k = 3
          · have HS : Hid (e0 = st) := by unfold Hid; rw [hst, h3]; rfl
            have hb2 : (I == 2) = false := by simp; omega
            have hb4 : (I == 4) = true := by simp; omega
            clear h1 h3 hst
            go_wp2
            go_loopw [12, 13] (fun s i w2 => ∃ q : Nat, q ≤ k ∧ s = .int .i64 (wtF m st L k q) ∧ i = .int .i64 ((q : Int) + 1) ∧ ∃ kk, w2 = wr.drewN kk) (fun _ i _ => k + 3 - (intOf i).toNat)
            case atStart => exact ⟨0, Nat.zero_le _, by rw [wt_zero hsb, ← HS.out], rfl, 0, rfl⟩
            case round =>
              obtain ⟨q, hq, rfl, rfl, kk, rfl⟩ := hrel
              by_cases hlt2 : q < k
              · have hq1 : (q : Int) + 1 < I := by omega
                obtain ⟨z, hzq⟩ : ∃ z, z + q = k := ⟨k - q, by omega⟩
                have hx0 := HR.out.cell (k := q + 1) (by rw [length_lst]; omega)
                have hy0 := HR.out.cell (k := z) (by rw [length_lst]; omega)
                rw [getD_lst _ _ _ (by omega)] at hx0 hy0
                have hst := wt_step m st L k q
                rw [show k - q = z by omega] at hst
                have hxb : 0 ≤ co L (q + 1) ∧ co L (q + 1) < m := HLB.out (q + 1)
                have hyb : 0 ≤ co L z ∧ co L z < m := HLB.out z
                have hwb := wtF_bd (show 0 < m by omega) st L k q
                obtain ⟨x, hx⟩ : ∃ x, x = co L (q + 1) := ⟨_, rfl⟩
                obtain ⟨y, hy⟩ : ∃ y, y = co L z := ⟨_, rfl⟩
                obtain ⟨W, hW⟩ : ∃ W, W = wtF m st L k q := ⟨_, rfl⟩
                rw [← hx] at hx0 hst hxb
                rw [← hy] at hy0 hst hyb
                rw [← hW] at hst hwb ⊢
                have HST := Lib.hid hst
                clear hst hx hy hW
                have hp := mul_bd' (show 0 ≤ m - x by omega) (show m - x ≤ 10000 by omega) hyb.1 (show y ≤ 10000 by omega)
                have v1 : IntKind.i64.wrap (m - x) = m - x := IntWalk.i64_in _ (by omega)
                have v2 : IntKind.i64.wrap ((m - x) * y) = (m - x) * y := IntWalk.i64_in _ (by omega)
                have v3 : IntKind.i64.wrap (W + (m - x) * y) = W + (m - x) * y := IntWalk.i64_in _ (by omega)
                have v4 : (W + (m - x) * y).tmod m = (W + (m - x) * y) % m := Int.tmod_eq_emod_of_nonneg (by omega)
                have v5 : IntKind.i64.wrap (I - ((q : Int) + 1)) = (z : Int) := by rw [show I - ((q : Int) + 1) = (z : Int) by omega]; exact IntWalk.i64_in _ (by omega)
                have v5' : I - ((q : Int) + 1) = (z : Int) := by omega
                have v5'' : IntKind.i64.wrap (z : Int) = (z : Int) := IntWalk.i64_in _ (by omega)
                have v6 : (q : Int) + 1 < (n : Int) := by omega
                have v7 : ((q : Int) + 1).toNat = q + 1 := by omega
                have v8 : (z : Int) < (n : Int) := by omega
                have v9 : (0 : Int) ≤ (z : Int) := by omega
                have v10 : (0 : Int) ≤ (q : Int) + 1 := by omega
                have v11 : ¬ m = 0 := by omega
                go_wp2
                go_quiet (fail)
                clear v1 v2 v3 v4 v5 v5' v5''
                go_wp2
                go_roundw
                case rel => exact ⟨q + 1, by omega, by rw [HST.out], by go_num, _, rfl⟩
                case measure => simp [intOf]; omega
              · have hqk : Hid (q = k) := by unfold Hid; omega
                have hd6 : decide ((q : Int) + 1 < I) = false := by simp; omega
                have hwb := wtF_bd (show 0 < m by omega) st L k q
                have HNX2 : Hid ((lst n (co L)).set (k + 1) (wtF m st L k q * u % m) = lst n (co (rootTo m u a0 e0 (k + 1)))) := by unfold Hid; rw [hqk.out]; exact HNX.out
                obtain ⟨W, hW⟩ : ∃ W, W = wtF m st L k q := ⟨_, rfl⟩
                rw [← hW] at hwb HNX2 ⊢
                have hd0 := HR.out.cell (k := k + 1) (by rw [length_lst]; exact hlt)
                have hf0 := HR.out.free (k + 1)
                obtain ⟨y1, hy1⟩ : ∃ y1, y1 = (lst n (co L)).getD (k + 1) 0 := ⟨_, rfl⟩
                rw [← hy1] at hd0
                clear hW hy1
                have hp := mul_bd' hwb.1 (show W ≤ 10000 by omega) hub.1 (show u ≤ 10000 by omega)
                have v1 : IntKind.i64.wrap (W * u) = W * u := IntWalk.i64_in _ (by omega)
                have v2 : (W * u).tmod m = W * u % m := Int.tmod_eq_emod_of_nonneg (by omega)
                have v3 : (0 : Int) ≤ I := by omega
                have v4 : I < (n : Int) := by omega
                have v5 := hIn.out
                have v6 : ¬ m = 0 := by omega
                have v7 : IntKind.i64.wrap (I + 1) = I + 1 := IntWalk.i64_in _ (by omega)
                go_wp2
                go_roundw
                case rel =>
                  refine ⟨k + 1, by omega, by rw [HI.out]; go_num, ?_, Below.setCell (below_drewN HB.out _) (by first | omega | (simp; done) | (simp; omega)) _⟩
                  unfold Hid
                  rw [← HNX2.out]
                  exact (HR.out.drewN kk).set_ (k + 1) _
                case measure => simp [intOf]; omega
          · have HS : Hid ((0 : Int) = st) := by unfold Hid; rw [hst, sqF_zero (by omega) (by omega) (by omega)]
            have hb2 : (I == 2) = false := by simp; omega
            have hb4 : (I == 4) = false := by simp; omega
            clear h1 h3 hst
            go_wp2
            go_loopw [12, 13] (fun s i w2 => ∃ q : Nat, q ≤ k ∧ s = .int .i64 (wtF m st L k q) ∧ i = .int .i64 ((q : Int) + 1) ∧ ∃ kk, w2 = wr.drewN kk) (fun _ i _ => k + 3 - (intOf i).toNat)
            case atStart => exact ⟨0, Nat.zero_le _, by rw [wt_zero hsb, ← HS.out], rfl, 0, rfl⟩
            case round =>
              obtain ⟨q, hq, rfl, rfl, kk, rfl⟩ := hrel
              by_cases hlt2 : q < k
              · have hq1 : (q : Int) + 1 < I := by omega
                obtain ⟨z, hzq⟩ : ∃ z, z + q = k := ⟨k - q, by omega⟩
                have hx0 := HR.out.cell (k := q + 1) (by rw [length_lst]; omega)
                have hy0 := HR.out.cell (k := z) (by rw [length_lst]; omega)
                rw [getD_lst _ _ _ (by omega)] at hx0 hy0
                have hst := wt_step m st L k q
                rw [show k - q = z by omega] at hst
                have hxb : 0 ≤ co L (q + 1) ∧ co L (q + 1) < m := HLB.out (q + 1)
                have hyb : 0 ≤ co L z ∧ co L z < m := HLB.out z
                have hwb := wtF_bd (show 0 < m by omega) st L k q
                obtain ⟨x, hx⟩ : ∃ x, x = co L (q + 1) := ⟨_, rfl⟩
                obtain ⟨y, hy⟩ : ∃ y, y = co L z := ⟨_, rfl⟩
                obtain ⟨W, hW⟩ : ∃ W, W = wtF m st L k q := ⟨_, rfl⟩
                rw [← hx] at hx0 hst hxb
                rw [← hy] at hy0 hst hyb
                rw [← hW] at hst hwb ⊢
                have HST := Lib.hid hst
                clear hst hx hy hW
                have hp := mul_bd' (show 0 ≤ m - x by omega) (show m - x ≤ 10000 by omega) hyb.1 (show y ≤ 10000 by omega)
                have v1 : IntKind.i64.wrap (m - x) = m - x := IntWalk.i64_in _ (by omega)
                have v2 : IntKind.i64.wrap ((m - x) * y) = (m - x) * y := IntWalk.i64_in _ (by omega)
                have v3 : IntKind.i64.wrap (W + (m - x) * y) = W + (m - x) * y := IntWalk.i64_in _ (by omega)
                have v4 : (W + (m - x) * y).tmod m = (W + (m - x) * y) % m := Int.tmod_eq_emod_of_nonneg (by omega)
                have v5 : IntKind.i64.wrap (I - ((q : Int) + 1)) = (z : Int) := by rw [show I - ((q : Int) + 1) = (z : Int) by omega]; exact IntWalk.i64_in _ (by omega)
                have v5' : I - ((q : Int) + 1) = (z : Int) := by omega
                have v5'' : IntKind.i64.wrap (z : Int) = (z : Int) := IntWalk.i64_in _ (by omega)
                have v6 : (q : Int) + 1 < (n : Int) := by omega
                have v7 : ((q : Int) + 1).toNat = q + 1 := by omega
                have v8 : (z : Int) < (n : Int) := by omega
                have v9 : (0 : Int) ≤ (z : Int) := by omega
                have v10 : (0 : Int) ≤ (q : Int) + 1 := by omega
                have v11 : ¬ m = 0 := by omega
                go_wp2
                go_quiet (fail)
                clear v1 v2 v3 v4 v5 v5' v5''
                go_wp2
                go_roundw
                case rel => exact ⟨q + 1, by omega, by rw [HST.out], by go_num, _, rfl⟩
                case measure => simp [intOf]; omega
              · have hqk : Hid (q = k) := by unfold Hid; omega
                have hd6 : decide ((q : Int) + 1 < I) = false := by simp; omega
                have hwb := wtF_bd (show 0 < m by omega) st L k q
                have HNX2 : Hid ((lst n (co L)).set (k + 1) (wtF m st L k q * u % m) = lst n (co (rootTo m u a0 e0 (k + 1)))) := by unfold Hid; rw [hqk.out]; exact HNX.out
                obtain ⟨W, hW⟩ : ∃ W, W = wtF m st L k q := ⟨_, rfl⟩
                rw [← hW] at hwb HNX2 ⊢
                have hd0 := HR.out.cell (k := k + 1) (by rw [length_lst]; exact hlt)
                have hf0 := HR.out.free (k + 1)
                obtain ⟨y1, hy1⟩ : ∃ y1, y1 = (lst n (co L)).getD (k + 1) 0 := ⟨_, rfl⟩
                rw [← hy1] at hd0
                clear hW hy1
                have hp := mul_bd' hwb.1 (show W ≤ 10000 by omega) hub.1 (show u ≤ 10000 by omega)
                have v1 : IntKind.i64.wrap (W * u) = W * u := IntWalk.i64_in _ (by omega)
                have v2 : (W * u).tmod m = W * u % m := Int.tmod_eq_emod_of_nonneg (by omega)
                have v3 : (0 : Int) ≤ I := by omega
                have v4 : I < (n : Int) := by omega
                have v5 := hIn.out
                have v6 : ¬ m = 0 := by omega
                have v7 : IntKind.i64.wrap (I + 1) = I + 1 := IntWalk.i64_in _ (by omega)
                go_wp2
                go_roundw
                case rel =>
                  refine ⟨k + 1, by omega, by rw [HI.out]; go_num, ?_, Below.setCell (below_drewN HB.out _) (by first | omega | (simp; done) | (simp; omega)) _⟩
                  unfold Hid
                  rw [← HNX2.out]
                  exact (HR.out.drewN kk).set_ (k + 1) _
                case measure => simp [intOf]; omega
      · have hkn : k = n - 1 := by omega
        have hR := HR.out
        rw [hkn] at hR
        have e : lst n (co (rootTo m u a0 e0 (n - 1))) = rootTo m u a0 e0 (n - 1) := by
          have := root_all m u a0 e0 (n - 1)
          rwa [show n - 1 + 1 = n by omega] at this
        rw [e, HZ.out] at hR
        have hly : Hid (zs.length = n) := by unfold Hid; rw [← HZ.out, length_rootTo]; omega
        have hd5 : decide (I ≤ (n : Int) - 1) = false := by simp; omega
        clear hkn e
        go_wp2
        go_ret
        exact ⟨_, _, by rw [hly.out]; rfl, hR.own hg, HB.out⟩

/-! ### The law of Euler (spec) -/
set_option maxRecDepth 16000 in
set_option maxHeartbeats 8000000 in
theorem l08Euler_any (w : World) (m d a0 e0 : Int) (R : List Int) (zss : List (List Int)) (n : Nat) (hd : d + 1 = (n : Int)) (hm : 2 ≤ m) (hm' : m ≤ 10000) (hn2 : 2 ≤ n) (hn : n ≤ 1000) (ha : 0 ≤ a0 ∧ a0 < m) (he : 0 ≤ e0 ∧ e0 < m) (hR : rootTo m (invN m 2) a0 e0 (n - 1) = R) (hz : tab n (tmF m n (co2 (tab n (topF m R))) (co2 (tab n (geoF m e0 2 (n - 1))))) = zss) :
    Calls Try.prog 82 #[.int .i64 m, .int .i64 d, .int .i64 a0, .int .i64 e0] w (NewP w zss) := by
  have hd2 : d = (n : Int) - 1 := by omega
  subst hd2
  have HRD := Lib.hid hR
  have HRL : Hid (R.length = n) := by unfold Hid; rw [← hR, length_rootTo]; omega
  have HRB : Hid (NumL m R) := by unfold Hid; rw [← hR]; exact rootTo_num hm _ _ _ _
  have HZ := Lib.hid hz
  have HL : Hid (zss.length = n) := by unfold Hid; rw [← hz, length_tab]
  have h1m : (1 : Int) % m = 1 := Int.emod_eq_of_lt (by omega) (by omega)
  have h1t : (1 : Int).tmod m = 1 := by rw [Int.tmod_eq_emod_of_nonneg (by omega)]; exact h1m
  have hm0 : ¬ m = 0 := by omega
  have hm1 : (m == 0) = false := by simpa using hm0
  clear hd hR hz
  go_enter Try.func82, Try.ntmps82
  go_wp2_with (first | (go_at_call 145; refine (l08Root_any _ m _ a0 e0 R n (by omega) hm hm' hn2 hn ha he HRD.out).mono ?_; rintro e w1 ⟨A1, c1, rfl, o1, hb1⟩; rw [HRL.out] at o1 ⊢) | (go_at_call 125; have _h := hb2; refine (l03Zero_any _ _ n (by omega) (by omega)).mono ?_; rintro e w3 ⟨A3, c3, rfl, o3, hb3⟩; rw [length_tab] at o3 ⊢; obtain ⟨g3, _, _, -, e03, hg31, hg32, hg33, -⟩ := o3.row (k := 0) (by rw [length_tab]; omega); rw [length_tab] at e03; simp only [Value.slice.injEq] at e03; obtain ⟨rfl, -, rfl⟩ := e03) | (go_at_call 125; refine (l03Zero_any _ _ n (by omega) (by omega)).mono ?_; rintro e w2 ⟨A2, c2, rfl, o2, hb2⟩; rw [length_tab] at o2 ⊢; obtain ⟨g2, _, _, -, e02, hg21, hg22, hg23, -⟩ := o2.row (k := 0) (by rw [length_tab]; omega); rw [length_tab] at e02; simp only [Value.slice.injEq] at e02; obtain ⟨rfl, -, rfl⟩ := e02))
  rcases o1.row with ⟨e, -⟩ | ⟨gR, cR, e, hgR, rR⟩
  · simp at e
    omega
  rw [HRL.out] at e
  simp only [Value.slice.injEq] at e
  obtain ⟨rfl, -, rfl⟩ := e
  have zR := rR.lt
  have z2 := hb2.size
  have z3 := hb3.size
  have RR : Hid (RowI w3 gR c1 R) := (rR.below hb2 zR).below hb3 (by omega)
  have O2 : Hid (OwnP w3 w1.heap.size w2.heap.size (.slice (some ⟨g2, 0, none⟩) n c2) (tab n (topA R 0))) := by
    unfold Hid
    rw [← topA_zero]
    exact o2.keep hb3
  have O3 : Hid (OwnP w3 w2.heap.size w3.heap.size (.slice (some ⟨g3, 0, none⟩) n c3) (tab n (facTo m e0 0))) := by
    unfold Hid
    rw [← facTo_zero]
    exact o3
  have KB : Hid (Below w.heap.size w w3) := hb1.trans ((hb2.mono hb1.size).trans (hb3.mono (by have := hb1.size; omega)))
  have zw := hb1.size
  obtain ⟨l1, hl1⟩ : ∃ l1, l1 = w1.heap.size := ⟨_, rfl⟩
  obtain ⟨l2, hl2⟩ : ∃ l2, l2 = w2.heap.size := ⟨_, rfl⟩
  obtain ⟨l3, hl3⟩ : ∃ l3, l3 = w3.heap.size := ⟨_, rfl⟩
  have hls : w.heap.size ≤ l1 ∧ gR < l1 ∧ l1 ≤ l2 ∧ l2 ≤ l3 ∧ w.heap.size ≤ gR := by omega
  rw [← hl1, ← hl2] at O2
  rw [← hl2, ← hl3] at O3
  clear o1 o2 o3 rR hb1 hb2 hb3 zR z2 z3 zw hl1 hl2 hl3
  go_loopw [12] (fun s wr => ∃ k : Nat, k ≤ n - 1 ∧ s = .int .i64 k ∧ Hid (OwnP wr l1 l2 (.slice (some ⟨g2, 0, none⟩) n c2) (tab n (topA R k))) ∧ Hid (OwnP wr l2 l3 (.slice (some ⟨g3, 0, none⟩) n c3) (tab n (facTo m e0 0))) ∧ Hid (RowI wr gR c1 R) ∧ Hid (Below w.heap.size w wr)) (fun s _ => n - (intOf s).toNat)
  case atStart => exact ⟨0, Nat.zero_le _, rfl, O2, O3, RR, KB⟩
  case round =>
    clear O2 O3 RR KB
    obtain ⟨k, hk, rfl, O2, O3, RR, KB⟩ := hrel
    by_cases hlt : k < n - 1
    · have hlt1 : (k : Int) < (n : Int) - 1 := by omega
      have hx0 := RR.out.cell (k := k) (by rw [HRL.out]; omega)
      change _ = some (Value.int .i64 (co R k)) at hx0
      obtain ⟨gr, cr, hcr, hne, hgl, hgh, hgz, hd0, hf0, hset⟩ := O2.out.put (i := 1) (j := k) (by omega)
      have HST := Lib.hid (topA_step R n k)
      obtain ⟨x, hx⟩ : ∃ x, x = co R k := ⟨_, rfl⟩
      rw [← hx] at hx0 HST
      have O2' := Lib.hid (hset x)
      obtain ⟨q, hq⟩ : ∃ q, q = n - 1 := ⟨_, rfl⟩
      rw [← hq] at hcr hlt
      clear hset hx
      have hA1 : (k : Int) < (q : Int) := by omega
      have hA2 : (1 : Int) < (n : Int) := by omega
      have hA3 : 1 < n := by omega
      have hA4 : ¬ n ≤ 1 := by omega
      have hA5 : (k : Int) < (n : Int) := by omega
      have hA6 : k < n := by omega
      have hA7 : (0 : Int) ≤ (k : Int) := by omega
      clear hq
      go_wp2
      go_still_tail 9, (by kernel_rfl)
      change wpList _ _ _ _ _ wr.drew
      go_wp2
      go_roundw
      case rel =>
        refine ⟨k + 1, by omega, by go_num, ?_, (O3.out.far (p := ⟨gr, k, none⟩) (.inl (by show gr < l2; omega)) _), RR.out.far (by show gR ≠ gr; omega) _, Below.setCell (below_drew KB.out) (by show w.heap.size ≤ gr; omega) _⟩
        unfold Hid
        rw [← HST.out]
        exact O2'.out
      case measure => simp [intOf]; omega
    · have hkn : k = n - 1 := by omega
      have h2 := O2.out
      rw [hkn, topA_all m R n] at h2
      have HT := Lib.hid h2
      have hd5 : decide ((k : Int) < (n : Int) - 1) = false := by simp; omega
      clear h2 hkn O2
      go_wp2
      clear hd5
      go_loopw [13] (fun s wr => ∃ k : Nat, k ≤ n - 1 ∧ s = .int .i64 k ∧ Hid (OwnP wr l1 l2 (.slice (some ⟨g2, 0, none⟩) n c2) (tab n (topB m R k))) ∧ Hid (OwnP wr l2 l3 (.slice (some ⟨g3, 0, none⟩) n c3) (tab n (facTo m e0 0))) ∧ Hid (RowI wr gR c1 R) ∧ Hid (Below w.heap.size w wr)) (fun s _ => n - (intOf s).toNat)
      case atStart => exact ⟨0, Nat.zero_le _, rfl, HT, O3, RR, KB⟩
      case round =>
        clear HT O3 RR KB hk hlt
        obtain ⟨k, hk, rfl, O2, O3, RR, KB⟩ := hrel
        by_cases hlt : k < n - 1
        · have hlt1 : (k : Int) < (n : Int) - 1 := by omega
          have hx0 := RR.out.cell (k := k) (by rw [HRL.out]; omega)
          change _ = some (Value.int .i64 (co R k)) at hx0
          obtain ⟨gr, cr, hcr, hne, hgl, hgh, hgz, hd0, hf0, hset⟩ := O2.out.put (i := k) (j := 1) (by omega)
          have HST := Lib.hid (topB_step m R n k)
          have hxb : 0 ≤ co R k ∧ co R k < m := HRB.out k
          have hyb : 0 ≤ topB m R k k 1 ∧ topB m R k k 1 < m := by
            rw [topB_at]
            split
            · exact HRB.out 1
            · omega
          obtain ⟨x, hx⟩ : ∃ x, x = co R k := ⟨_, rfl⟩
          obtain ⟨y, hy⟩ : ∃ y, y = topB m R k k 1 := ⟨_, rfl⟩
          rw [← hx] at hx0 HST hxb
          rw [← hy] at hd0 HST hyb
          have O2' := Lib.hid (hset ((y + x) % m))
          obtain ⟨q, hq⟩ : ∃ q, q = n - k := ⟨_, rfl⟩
          rw [← hq] at hcr
          have hq1 : 1 < q := by omega
          clear hset hx hy hq
          have hA1 : (1 : Int) < (q : Int) := by omega
          have hA2 : ¬ q ≤ 1 := by omega
          have hA5 : (k : Int) < (n : Int) := by omega
          have hA6 : k < n := by omega
          have hA7 : (0 : Int) ≤ (k : Int) := by omega
          have v1 : IntKind.i64.wrap (y + x) = y + x := IntWalk.i64_in _ (by omega)
          have v2 : (y + x).tmod m = (y + x) % m := Int.tmod_eq_emod_of_nonneg (by omega)
          go_wp2
          go_still_tail 12, (by kernel_rfl)
          change wpList _ _ _ _ _ wr.drew
          clear v1 v2
          go_wp2
          go_roundw
          case rel =>
            refine ⟨k + 1, by omega, by go_num, ?_, (O3.out.far (p := ⟨gr, 1, none⟩) (.inl (by show gr < l2; omega)) _), RR.out.far (by show gR ≠ gr; omega) _, Below.setCell (below_drew KB.out) (by show w.heap.size ≤ gr; omega) _⟩
            unfold Hid
            rw [← HST.out]
            exact O2'.out
          case measure => simp [intOf]; omega
        · have hkn : k = n - 1 := by omega
          have h2 := O2.out
          rw [hkn, topB_all m R n HRB.out] at h2
          have HT := Lib.hid h2
          have hd5 : decide ((k : Int) < (n : Int) - 1) = false := by simp; omega
          clear h2 hkn O2
          go_wp2
          clear hd5
          go_loopw [15, 16] (fun p s wr => ∃ k : Nat, 4 * k ≤ n + 4 ∧ p = .int .i64 (gp m e0 k) ∧ s = .int .i64 k ∧ Hid (OwnP wr l1 l2 (.slice (some ⟨g2, 0, none⟩) n c2) (tab n (topF m R))) ∧ Hid (OwnP wr l2 l3 (.slice (some ⟨g3, 0, none⟩) n c3) (tab n (facTo m e0 k))) ∧ Hid (Below w.heap.size w wr)) (fun _ s _ => n + 2 - (intOf s).toNat)
          case atStart => exact ⟨0, by omega, by simp only [gp]; first | rfl | rw [h1m], rfl, HT, O3, KB⟩
          case round =>
            clear HT O3 RR KB hk hlt
            obtain ⟨k, hk, rfl, rfl, O2, O3, KB⟩ := hrel
            have hgb := gp_bd (show 0 < m by omega) e0 k
            by_cases hlt : 4 * k + 1 ≤ n
            · have hnx : gp m e0 k * e0 % m = gp m e0 (k + 1) := rfl
              have HNX := Lib.hid hnx
              have HST := Lib.hid (facTo_step m e0 n k)
              obtain ⟨p, hp⟩ : ∃ p, p = gp m e0 k := ⟨_, rfl⟩
              rw [← hp] at hgb HNX HST ⊢
              obtain ⟨gr, cr, hcr, hne, hgl, hgh, hgz, hd0, hf0, hset⟩ := O3.out.put (i := 2 * k) (j := 2 * k) (by omega)
              have O3' := Lib.hid (hset p)
              obtain ⟨q, hq⟩ : ∃ q, q = n - 2 * k := ⟨_, rfl⟩
              rw [← hq] at hcr
              obtain ⟨j, hj⟩ : ∃ j, j = 2 * k := ⟨_, rfl⟩
              rw [← hj] at hcr hd0 hf0 O3' HST
              have hq1 : j < q := by omega
              have hj1 : 2 * (k : Int) = (j : Int) := by omega
              clear hset hq hnx hp
              have hA1 : (j : Int) < (q : Int) := by omega
              have hA2 : (j : Int) < (n : Int) := by omega
              have hA3 : j < n := by omega
              have hA4 : 4 * (k : Int) ≤ (n : Int) - 1 := by omega
              have hA7 : (0 : Int) ≤ (j : Int) := by omega
              have hpm := mul_bd' hgb.1 (show p ≤ 10000 by omega) he.1 (show e0 ≤ 10000 by omega)
              have v1 : IntKind.i64.wrap (p * e0) = p * e0 := IntWalk.i64_in _ (by omega)
              have v2 : (p * e0).tmod m = p * e0 % m := Int.tmod_eq_emod_of_nonneg (by omega)
              have v3 : IntKind.i64.wrap (2 * (k : Int)) = (j : Int) := by rw [hj1]; exact IntWalk.i64_in _ (by omega)
              have v4 : IntKind.i64.wrap (4 * (k : Int)) = 4 * (k : Int) := IntWalk.i64_in _ (by omega)
              clear hj
              go_wp2
              go_roundw
              case rel =>
                refine ⟨k + 1, by omega, by rw [HNX.out], by go_num, (O2.out.far (p := ⟨gr, j, none⟩) (.inr (by show l2 ≤ gr; omega)) _), ?_, Below.setCell KB.out (by show w.heap.size ≤ gr; omega) _⟩
                unfold Hid
                rw [← HST.out]
                exact O3'.out
              case measure => simp [intOf]; omega
            · have h3 := O3.out
              rw [facTo_all m e0 n k (by omega)] at h3
              have hd5 : decide (4 * (k : Int) ≤ (n : Int) - 1) = false := by simp; omega
              have zK := KB.out.size
              go_wp2_with fail
              refine (l03Times_any _ m _ _ (tab n (topF m R)) (tab n (geoF m e0 2 (n - 1))) zss n _ _ _ _ O2.out (Tri.tab _ _) (Num2.tab (by omega) n _ fun i j => ⟨Int.emod_nonneg _ (by omega), Int.emod_lt_of_pos _ (by omega)⟩) h3 (Tri.tab _ _) (Num2.tab (by omega) n _ fun i j => geoF_bd (by omega) _ _ _ i j) hm (by omega) (by omega) hn HZ.out).mono ?_
              rintro e w5 ⟨A5, c5, rfl, o5, hb5⟩
              go_wp2
              go_ret
              exact ⟨A5, c5, rfl, o5.mono zK (Nat.le_refl _), KB.out.trans (hb5.mono zK)⟩

/-! ### EulerLaw -/
def eulT (m : Int) (n : Nat) (a e : Int) : List (List Int) := tab n (tmF m n (co2 (tab n (topF m (rootTo m (invN m 2) a e (n - 1))))) (co2 (tab n (geoF m e 2 (n - 1)))))
def EulerLawR (m d a e : Int) : (Int × List (List Int)) × Int := if stdB m d [a, e] = false then ((0, []), 2) else if (m % 2 == 0) = true then ((0, []), 5) else ((m, eulT m (d + 1).toNat a e), 0)
theorem EulerLawR_len (m d a e : Int) : cntP (EulerLawR m d a e).1.2 ≤ 200 := by
  unfold EulerLawR
  cases h : stdB m d [a, e]
  · simp [cntP]
  · have := stdB_true h
    cases h2 : (m % 2 == 0)
    · exact cntP_tab_100 _ (by omega)
    · simp [cntP]
set_option maxHeartbeats 4000000 in
theorem sEulerLawR_any (w : World) (m d a0 e0 : Int) : Calls Try.prog 20 #[.int .i64 m, .int .i64 d, .int .i64 a0, .int .i64 e0] w (RetPI w (EulerLawR m d a0 e0)) := by
  have HL1 : Hid (OwnI ((w.alloc (.cells #[.int .i64 0, .slice none 0 0] 24)).alloc (.cells #[.int .i64 a0, .int .i64 e0] 2)) (w.heap.size + 1) (.slice (some ⟨w.heap.size + 1, 0, none⟩) 2 2) [a0, e0]) := by
    have h := (RowI.lit (w.alloc (.cells #[.int .i64 0, .slice none 0 0] 24)) [a0, e0] #[.int .i64 a0, .int .i64 e0] rfl (by simp [maxLen])).own (B := w.heap.size + 1) (by simp)
    unfold Hid
    simpa using h
  cases hs : stdB m d [a0, e0]
  · have HF : EulerLawR m d a0 e0 = ((0, []), 2) := by simp [EulerLawR, hs]
    rw [HF]
    have HS := Lib.hid hs
    clear HF hs
    go_enter Try.func20, Try.ntmps20
    go_wp2_with (go_at_call 60; refine (l08Kind_any m d _ _ [a0, e0] (w.heap.size + 1) HL1.out).mono ?_; rintro e w1 ⟨rfl, hb1⟩; rw [HS.out]; have P1 : Bf w1 w.heap.size (.int .i64 0) (.slice none 0 0) := ((Bf.alloc1 w _ _ _).alloc _).keep hb1; have K1 : Below w.heap.size w w1 := Below.trans (by (repeat (first | assumption | exact Below.refl _ _ | refine Below.alloc ?_ (by first | omega | (simp; done) | (simp; omega)) _ | refine Below.setCell ?_ (by first | omega | (simp; done) | (simp; omega)) _ | refine below_drewN ?_ _))) (hb1.mono (by simp; omega)); have p1a := P1.1.2.1; have p1b := P1.1.2.2; have p1c := P1.2.1; have p1d := P1.2.2)
    exact bodyPost_ret (v := .tuple #[.agg #[.int .i64 0, .slice none 0 0], .int .i64 2]) (by simp [results, Try.results20, go_sem, p1a, p1b]) rfl (RetPI.zero ((K1.setCell (by simp) _).setCell (by simp) _))
  · obtain ⟨hm, hdb, hcb⟩ := stdB_true hs
    have hab : (0 ≤ a0 ∧ a0 < m) ∧ (0 ≤ e0 ∧ e0 < m) := by
      have h : isNumB a0 m = true ∧ isNumB e0 m = true := by simpa [numsB] using hcb
      exact ⟨isNumB_true h.1, isNumB_true h.2⟩
    have HS := Lib.hid hs
    have ht2 : m.tmod 2 = m % 2 := Int.tmod_eq_emod_of_nonneg (by omega)
    clear hcb
    cases hm2 : (m % 2 == 0)
    · obtain ⟨n, hn⟩ : ∃ n : Nat, d + 1 = (n : Int) := ⟨(d + 1).toNat, by omega⟩
      obtain ⟨ys, hy⟩ : ∃ ys, eulT m n a0 e0 = ys := ⟨_, rfl⟩
      have HF : EulerLawR m d a0 e0 = ((m, ys), 0) := by simp only [EulerLawR, hs, hm2, hn, Int.toNat_natCast, hy]; simp
      rw [HF]
      have HYL : Hid (ys.length = n) := by unfold Hid; rw [← hy]; exact length_tab _ _
      have HY := Lib.hid hy
      have hd1 : d = (n : Int) - 1 := by omega
      subst hd1
      clear HF hs hy hn
      go_enter Try.func20, Try.ntmps20
      go_wp2_with (first | (go_at_call 60; refine (l08Kind_any m _ _ _ [a0, e0] (w.heap.size + 1) HL1.out).mono ?_; rintro e w1 ⟨rfl, hb1⟩; rw [HS.out]; have P1 : Bf w1 w.heap.size (.int .i64 0) (.slice none 0 0) := ((Bf.alloc1 w _ _ _).alloc _).keep hb1; have K1 : Below w.heap.size w w1 := Below.trans (by (repeat (first | assumption | exact Below.refl _ _ | refine Below.alloc ?_ (by first | omega | (simp; done) | (simp; omega)) _ | refine Below.setCell ?_ (by first | omega | (simp; done) | (simp; omega)) _ | refine below_drewN ?_ _))) (hb1.mono (by simp; omega)); have p1a := P1.1.2.1; have p1b := P1.1.2.2; have y1 := P1.1.1) | (go_at_call 82; refine (l08Euler_any _ m _ a0 e0 (rootTo m (invN m 2) a0 e0 (n - 1)) ys n (by omega) hm.1 hm.2 (by omega) (by omega) hab.1 hab.2 rfl HY.out).mono ?_; rintro e w2 ⟨A2, c2, rfl, o2, hb2⟩; rw [HYL.out] at o2 ⊢; have O2 := Lib.hid o2; clear o2; have R2 : Below w1.heap.size w1 w2 := (Below.trans (by (repeat (first | assumption | exact Below.refl _ _ | refine Below.alloc ?_ (by first | omega | (simp; done) | (simp; omega)) _ | refine Below.setCell ?_ (by first | omega | (simp; done) | (simp; omega)) _ | refine below_drewN ?_ _))) (hb2.mono (by first | exact Nat.le_refl _ | (simp; done) | (simp; omega)))); have s2 := R2.size; have K2 : Below w.heap.size w w2 := K1.trans (R2.mono K1.size); have P2 := P1.keep R2; have p2a := P2.1.2.1; have p2b := P2.1.2.2; have z2 := P2.1.1) | (go_at_call 61; refine (l03Make_any _ m A2 n c2).mono ?_; rintro e w3 ⟨rfl, hb3⟩; have O3 := Lib.hid (O2.out.keep hb3); have R3 : Below w2.heap.size w2 w3 := (Below.trans (by (repeat (first | assumption | exact Below.refl _ _ | refine Below.alloc ?_ (by first | omega | (simp; done) | (simp; omega)) _ | refine Below.setCell ?_ (by first | omega | (simp; done) | (simp; omega)) _ | refine below_drewN ?_ _))) (hb3.mono (by first | exact Nat.le_refl _ | (simp; done) | (simp; omega)))); have s3 := R3.size; have K3 : Below w.heap.size w w3 := K2.trans (R3.mono K2.size); have P3 := P2.keep R3; have p3a := P3.1.2.1; have p3b := P3.1.2.2; have z3 := P3.1.1; have p3c := P3.2.1; have p3d := P3.2.2))
      exact bodyPost_ret (v := .tuple #[.agg #[.int .i64 m, .slice A2 n c2], .int .i64 0]) (by simp [results, Try.results20, go_sem, p3a, p3b]) rfl (RetPI.mk (O3.out.far2 (.inl (by omega))) HYL.out (by omega) ((K3.setCell (by simp) _).setCell (by simp) _))
    · have HF : EulerLawR m d a0 e0 = ((0, []), 5) := by simp [EulerLawR, hs, hm2]
      rw [HF]
      clear HF hs
      go_enter Try.func20, Try.ntmps20
      go_wp2_with (go_at_call 60; refine (l08Kind_any m d _ _ [a0, e0] (w.heap.size + 1) HL1.out).mono ?_; rintro e w1 ⟨rfl, hb1⟩; rw [HS.out]; have P1 : Bf w1 w.heap.size (.int .i64 0) (.slice none 0 0) := ((Bf.alloc1 w _ _ _).alloc _).keep hb1; have K1 : Below w.heap.size w w1 := Below.trans (by (repeat (first | assumption | exact Below.refl _ _ | refine Below.alloc ?_ (by first | omega | (simp; done) | (simp; omega)) _ | refine Below.setCell ?_ (by first | omega | (simp; done) | (simp; omega)) _ | refine below_drewN ?_ _))) (hb1.mono (by simp; omega)); have p1a := P1.1.2.1; have p1b := P1.1.2.2; have p1c := P1.2.1; have p1d := P1.2.2)
      exact bodyPost_ret (v := .tuple #[.agg #[.int .i64 0, .slice none 0 0], .int .i64 5]) (by simp [results, Try.results20, go_sem, p1a, p1b]) rfl (RetPI.zero ((K1.setCell (by simp) _).setCell (by simp) _))

/-! ### The root of a series (impl) -/
theorem Bf.drew1 {w : World} {b : Nat} {x y : Value} (h : Bf w b x y) : Bf w.drew b x y := h
theorem con_root (m h a e : Int) (n : Nat) (hm : 2 ≤ m) : conL m n 1 = lst n (co (rootTo m h a e 0)) := by
  unfold conL
  apply lst_congr
  intro k _
  have e1 : (1 : Int) % m = 1 := Int.emod_eq_of_lt (by omega) (by omega)
  cases k with
  | zero => simp [co, rootTo, e1]
  | succ k => simp [co, rootTo]
theorem inverse_c (m a : Int) (w : World) (hm : 2 ≤ m) (hm' : m ≤ 1000000000000000) : Calls Try.prog 109 #[.int .i64 m, .int .i64 a] w fun e w' => e = .returned (.int .i64 (invN m a)) ∧ Below w.heap.size w w' :=
  (inverse_any m a w hm hm').mono fun e w' h => by obtain ⟨h1, k, rfl⟩ := h; exact ⟨h1, below_drewN (Below.refl _ _) k⟩
set_option maxRecDepth 16000 in
set_option maxHeartbeats 8000000 in
theorem rooted_any (w : World) (m a0 e0 : Int) (v : Value) (xs zs : List Int) (n : Nat) (B : Nat) (hv : OwnI w B v xs) (hx : xs.length = n) (hco : ∀ k, k < n → co xs k = sqF m a0 e0 k) (hm : 2 ≤ m) (hm' : m ≤ 10000) (hn2 : 2 ≤ n) (hn : n ≤ 1000) (he : 0 ≤ e0 ∧ e0 < m) (hz : rootTo m (invN m 2) a0 e0 (n - 1) = zs) :
    Calls Try.prog 86 #[.agg #[.int .i64 m, v]] w (NewS w m zs) := by
  obtain ⟨A, cp, e9, hc1, hc2, hA⟩ := hv.open_
  rw [hx] at e9 hc1 hA
  subst e9
  unfold maxLen at hc2
  obtain ⟨b, rfl, -, hb2', -, -⟩ := hA 0 (by omega)
  have hcl : Hid (∀ k, k < n → w.cell? ⟨b, k, none⟩ = some (.int .i64 (sqF m a0 e0 k))) := by
    intro k hk
    obtain ⟨b', e, _, _, h, _⟩ := hA k hk
    simp at e
    subst e
    rw [← hco k hk]
    exact h
  obtain ⟨u, hu⟩ : ∃ u, u = invN m 2 := ⟨_, rfl⟩
  have hub := invN_bd (show 0 < m by omega) 2
  rw [← hu] at hub hz
  have HU : Hid (invN m 2 = u) := hu.symm
  have HZ := Lib.hid hz
  have HX := Lib.hid hx
  have HV := Lib.hid hv
  have HNB := Lib.hid (rootTo_num (m := m) hm u a0 e0)
  have HCR := Lib.hid (con_root m u a0 e0 n hm)
  clear hA hv hco hz hu hx
  go_enter Try.func86, Try.ntmps86
  go_upto_region 1 with fail
  go_cut [3, 4] from 7 to 11 (fun s q wx => ∃ bo g c' : Nat, s = .pointer (some ⟨bo, 0, none⟩) ∧ q = .int .i64 u ∧ w.heap.size + 2 ≤ bo ∧ bo < wx.heap.size ∧ w.heap.size + 2 ≤ g ∧ g < wx.heap.size ∧ bo ≠ g ∧ Hid (Bf wx bo (.int .i64 m) (.slice (some ⟨g, 0, none⟩) n c')) ∧ Hid (RowI wx g c' (lst n (co (rootTo m u a0 e0 0)))) ∧ Hid (Bf wx w.heap.size (.int .i64 m) (.slice (some ⟨b, 0, none⟩) n cp)) ∧ Hid (Bf wx (w.heap.size + 1) (.int .i64 0) (.slice none 0 0)) ∧ Hid (Below w.heap.size w wx))
  case first =>
    go_region_held3 (fun w' => w'.cell? ⟨w.heap.size, 0, none⟩ = some (.int .i64 m) ∧ w'.cell? ⟨w.heap.size, 1, none⟩ = some (.slice (some ⟨b, 0, none⟩) n cp))
      (first | with_reducible exact ⟨p2a, p2b⟩ | with_reducible exact ⟨p1a, p1b⟩ | go_keep | (refine (fun (h : Bf _ w.heap.size (.int .i64 m) (.slice (some ⟨b, 0, none⟩) n cp)) => ⟨h.1.2.1, h.1.2.2⟩) ((Bf.alloc1 w _ _ 78).keep ?_); (repeat (first | with_reducible assumption | with_reducible exact Below.refl _ _ | (refine Below.alloc ?_ ?_ _; rotate_left; (focus (first | exact Nat.le_refl _ | omega | (simp; done) | (simp; omega)))) | (refine Below.setCell ?_ ?_ _; rotate_left; (focus (first | exact Nat.le_refl _ | omega | (simp; done) | (simp; omega)))) | refine below_drew ?_ | refine below_drewN ?_ _ | (refine Below.trans ?_ (Below.mono hb2 ?_); rotate_left; (focus (first | exact Nat.le_refl _ | omega | (simp; done) | (simp; omega)))) | (refine Below.trans ?_ (Below.mono hb1 ?_); rotate_left; (focus (first | exact Nat.le_refl _ | omega | (simp; done) | (simp; omega))))))))
      (first | (go_at_call 84; refine (constant_any _ m (.slice (some ⟨b, 0, none⟩) n cp) xs (lst n (co (rootTo m u a0 e0 0))) 1 B (OwnI.keep HV.out (by (repeat (first | with_reducible assumption | with_reducible exact Below.refl _ _ | (refine Below.alloc ?_ ?_ _; rotate_left; (focus (first | exact Nat.le_refl _ | omega | (simp; done) | (simp; omega)))) | (refine Below.setCell ?_ ?_ _; rotate_left; (focus (first | exact Nat.le_refl _ | omega | (simp; done) | (simp; omega)))) | refine below_drew ?_ | refine below_drewN ?_ _ | (refine Below.trans ?_ (Below.mono hb2 ?_); rotate_left; (focus (first | exact Nat.le_refl _ | omega | (simp; done) | (simp; omega)))) | (refine Below.trans ?_ (Below.mono hb1 ?_); rotate_left; (focus (first | exact Nat.le_refl _ | omega | (simp; done) | (simp; omega))))))) (Nat.le_refl _)) hm (by omega) (by rw [HX.out]; omega) (by rw [HX.out]; exact hn) (by rw [HX.out]; exact HCR.out)).mono ?_; rintro e w1 ⟨A1, c1, rfl, o1, hb1⟩; rw [length_lst] at o1 ⊢; have o1 := Lib.hid o1; have k1 : Below w.heap.size w w1 := (by (repeat (first | with_reducible assumption | with_reducible exact Below.refl _ _ | (refine Below.alloc ?_ ?_ _; rotate_left; (focus (first | exact Nat.le_refl _ | omega | (simp; done) | (simp; omega)))) | (refine Below.setCell ?_ ?_ _; rotate_left; (focus (first | exact Nat.le_refl _ | omega | (simp; done) | (simp; omega)))) | refine below_drew ?_ | refine below_drewN ?_ _ | (refine Below.trans ?_ (Below.mono hb2 ?_); rotate_left; (focus (first | exact Nat.le_refl _ | omega | (simp; done) | (simp; omega)))) | (refine Below.trans ?_ (Below.mono hb1 ?_); rotate_left; (focus (first | exact Nat.le_refl _ | omega | (simp; done) | (simp; omega))))))); have P1 : Bf w1 w.heap.size (.int .i64 m) (.slice (some ⟨b, 0, none⟩) n cp) := ((Bf.alloc1 w _ _ 78).keep (by (repeat (first | with_reducible assumption | with_reducible exact Below.refl _ _ | (refine Below.alloc ?_ ?_ _; rotate_left; (focus (first | exact Nat.le_refl _ | omega | (simp; done) | (simp; omega)))) | (refine Below.setCell ?_ ?_ _; rotate_left; (focus (first | exact Nat.le_refl _ | omega | (simp; done) | (simp; omega)))) | refine below_drew ?_ | refine below_drewN ?_ _ | (refine Below.trans ?_ (Below.mono hb2 ?_); rotate_left; (focus (first | exact Nat.le_refl _ | omega | (simp; done) | (simp; omega)))) | (refine Below.trans ?_ (Below.mono hb1 ?_); rotate_left; (focus (first | exact Nat.le_refl _ | omega | (simp; done) | (simp; omega)))))))); have p1a := P1.1.2.1; have p1b := P1.1.2.2; obtain ⟨hc1', hf1'⟩ := bcell hb1; have z1 := hb1.size; (try simp at z1); have z1p : w.heap.size + 1 < w1.heap.size := (by omega); (first | (have y1 : w.heap.size + 2 < w1.heap.size := (by omega)) | skip)) | (go_at_call 109; refine (inverse_c m 2 _ (by omega) (by omega)).mono ?_; rintro e w2 ⟨rfl, hb2⟩; rw [HU.out]; have k2 : Below w.heap.size w w2 := (by (repeat (first | with_reducible assumption | with_reducible exact Below.refl _ _ | (refine Below.alloc ?_ ?_ _; rotate_left; (focus (first | exact Nat.le_refl _ | omega | (simp; done) | (simp; omega)))) | (refine Below.setCell ?_ ?_ _; rotate_left; (focus (first | exact Nat.le_refl _ | omega | (simp; done) | (simp; omega)))) | refine below_drew ?_ | refine below_drewN ?_ _ | (refine Below.trans ?_ (Below.mono hb2 ?_); rotate_left; (focus (first | exact Nat.le_refl _ | omega | (simp; done) | (simp; omega)))) | (refine Below.trans ?_ (Below.mono hb1 ?_); rotate_left; (focus (first | exact Nat.le_refl _ | omega | (simp; done) | (simp; omega))))))); have P2 : Bf w2 w.heap.size (.int .i64 m) (.slice (some ⟨b, 0, none⟩) n cp) := ((Bf.alloc1 w _ _ 78).keep (by (repeat (first | with_reducible assumption | with_reducible exact Below.refl _ _ | (refine Below.alloc ?_ ?_ _; rotate_left; (focus (first | exact Nat.le_refl _ | omega | (simp; done) | (simp; omega)))) | (refine Below.setCell ?_ ?_ _; rotate_left; (focus (first | exact Nat.le_refl _ | omega | (simp; done) | (simp; omega)))) | refine below_drew ?_ | refine below_drewN ?_ _ | (refine Below.trans ?_ (Below.mono hb2 ?_); rotate_left; (focus (first | exact Nat.le_refl _ | omega | (simp; done) | (simp; omega)))) | (refine Below.trans ?_ (Below.mono hb1 ?_); rotate_left; (focus (first | exact Nat.le_refl _ | omega | (simp; done) | (simp; omega)))))))); have p2a := P2.1.2.1; have p2b := P2.1.2.2; obtain ⟨hc2', hf2'⟩ := bcell hb2; have z2 := hb2.size; (try simp at z2); have z2p : w1.heap.size ≤ w2.heap.size := (by omega); (first | (have y2 : w1.heap.size < w2.heap.size := (by omega)) | skip); (first | (have y3 : w.heap.size + 2 < w2.heap.size := (by omega)) | skip)))
    all_goals
      go_wp2_with fail
      go_meet
      rcases o1.out.row with ⟨e, -⟩ | ⟨g, cg, e, hg0, R1⟩
      · simp at e
        omega
      rw [length_lst] at e
      simp only [Value.slice.injEq] at e
      obtain ⟨rfl, -, rfl⟩ := e
      have zg := R1.lt
      (try simp at hg0)
      refine ⟨_, g, c1, rfl, rfl, ?_, ?_, ?_, ?_, ?_, ?_, ?_, ?_, ?_, ?_⟩
      · (first | omega | (simp; done) | (simp; omega) | (right; omega) | (right; simp; done) | (right; simp; omega) | (left; omega) | (left; simp; done) | (left; simp; omega) | (simp [World.setCell]; done) | (simp [World.setCell]; omega))
      · (first | omega | (simp; done) | (simp; omega) | (right; omega) | (right; simp; done) | (right; simp; omega) | (left; omega) | (left; simp; done) | (left; simp; omega) | (simp [World.setCell]; done) | (simp [World.setCell]; omega))
      · (first | omega | (simp; done) | (simp; omega) | (right; omega) | (right; simp; done) | (right; simp; omega) | (left; omega) | (left; simp; done) | (left; simp; omega) | (simp [World.setCell]; done) | (simp [World.setCell]; omega))
      · (first | omega | (simp; done) | (simp; omega) | (right; omega) | (right; simp; done) | (right; simp; omega) | (left; omega) | (left; simp; done) | (left; simp; omega) | (simp [World.setCell]; done) | (simp [World.setCell]; omega))
      · (first | omega | (simp; done) | (simp; omega) | (right; omega) | (right; simp; done) | (right; simp; omega) | (left; omega) | (left; simp; done) | (left; simp; omega) | (simp [World.setCell]; done) | (simp [World.setCell]; omega))
      · unfold Hid
        (repeat (first | with_reducible assumption | with_reducible exact P2 | with_reducible exact P1 | with_reducible exact Bf.alloc1 _ _ _ _ | with_reducible exact Bf.q1 | with_reducible exact Bf.q2 | with_reducible exact Bf.q3 | (with_reducible refine Bf.setCell ?_ ?_ _; rotate_left; (focus (first | (simp; done) | (simp; omega)))) | with_reducible refine Bf.store2 (x := .int .i64 0) (y := .slice none 0 0) ?_ | with_reducible refine Bf.alloc ?_ _ | with_reducible refine Bf.drew1 ?_ | with_reducible refine Bf.keep ?_ hb2 | with_reducible refine Bf.keep ?_ hb1))
      · unfold Hid
        (repeat (first | with_reducible exact R1 | with_reducible refine RowI.far ?_ ?_ _ | with_reducible refine RowI.alloc ?_ _ | with_reducible refine RowI.below ?_ hb2 ?_))
        all_goals (first | omega | (simp; done) | (simp; omega) | (right; omega) | (right; simp; done) | (right; simp; omega) | (left; omega) | (left; simp; done) | (left; simp; omega) | (simp [World.setCell]; done) | (simp [World.setCell]; omega))
      · unfold Hid
        (repeat (first | with_reducible assumption | with_reducible exact P2 | with_reducible exact P1 | with_reducible exact Bf.alloc1 _ _ _ _ | with_reducible exact Bf.q1 | with_reducible exact Bf.q2 | with_reducible exact Bf.q3 | (with_reducible refine Bf.setCell ?_ ?_ _; rotate_left; (focus (first | (simp; done) | (simp; omega)))) | with_reducible refine Bf.store2 (x := .int .i64 0) (y := .slice none 0 0) ?_ | with_reducible refine Bf.alloc ?_ _ | with_reducible refine Bf.drew1 ?_ | with_reducible refine Bf.keep ?_ hb2 | with_reducible refine Bf.keep ?_ hb1))
      · unfold Hid
        (repeat (first | with_reducible assumption | with_reducible exact P2 | with_reducible exact P1 | with_reducible exact Bf.alloc1 _ _ _ _ | with_reducible exact Bf.q1 | with_reducible exact Bf.q2 | with_reducible exact Bf.q3 | (with_reducible refine Bf.setCell ?_ ?_ _; rotate_left; (focus (first | (simp; done) | (simp; omega)))) | with_reducible refine Bf.store2 (x := .int .i64 0) (y := .slice none 0 0) ?_ | with_reducible refine Bf.alloc ?_ _ | with_reducible refine Bf.drew1 ?_ | with_reducible refine Bf.keep ?_ hb2 | with_reducible refine Bf.keep ?_ hb1))
      · unfold Hid
        (repeat (first | with_reducible assumption | with_reducible exact Below.refl _ _ | (refine Below.alloc ?_ ?_ _; rotate_left; (focus (first | exact Nat.le_refl _ | omega | (simp; done) | (simp; omega)))) | (refine Below.setCell ?_ ?_ _; rotate_left; (focus (first | exact Nat.le_refl _ | omega | (simp; done) | (simp; omega)))) | refine below_drew ?_ | refine below_drewN ?_ _ | (refine Below.trans ?_ (Below.mono hb2 ?_); rotate_left; (focus (first | exact Nat.le_refl _ | omega | (simp; done) | (simp; omega)))) | (refine Below.trans ?_ (Below.mono hb1 ?_); rotate_left; (focus (first | exact Nat.le_refl _ | omega | (simp; done) | (simp; omega))))))
  case rest =>
    obtain ⟨bo, g, c', rfl, rfl, hbo1, hbo2, hg1, hg2, hne, HO, HR, HP, HQ, HB⟩ := hcut
    have p1 := HP.out.1.2.1
    have p2 := HP.out.1.2.2
    go_wp2
    clear p1 p2
    go_loopw [5] (fun i wr => ∃ k : Nat, k + 1 ≤ n ∧ i = .int .i64 ((k : Int) + 1) ∧ Hid (Bf wr bo (.int .i64 m) (.slice (some ⟨g, 0, none⟩) n c')) ∧ Hid (RowI wr g c' (lst n (co (rootTo m u a0 e0 k)))) ∧ Hid (Bf wr w.heap.size (.int .i64 m) (.slice (some ⟨b, 0, none⟩) n cp)) ∧ Hid (Bf wr (w.heap.size + 1) (.int .i64 0) (.slice none 0 0)) ∧ Hid (Below w.heap.size w wr)) (fun i _ => n + 1 - (intOf i).toNat)
    case atStart => exact ⟨0, by omega, rfl, HO, HR, HP, HQ, HB⟩
    case round =>
      clear HO HR HP HQ HB
      obtain ⟨k, hk, rfl, HO, HR, HP, HQ, HB⟩ := hrel
      have p1 := HP.out.1.2.1
      have p2 := HP.out.1.2.2
      have zB := HB.out.size
      have zP := HP.out.1.1
      have zQ := HQ.out.1.1
      have zO := HO.out.1.1
      have zR := HR.out.lt
      obtain ⟨I, hI⟩ : ∃ I : Int, I = (k : Int) + 1 := ⟨_, rfl⟩
      rw [← hI]
      have HI := Lib.hid hI
      have hIa : I ≤ (k : Int) + 1 := by omega
      have hIb : (k : Int) + 1 ≤ I := by omega
      have hIn : Hid (I.toNat = k + 1) := by unfold Hid; omega
      clear hI
      by_cases hlt : k + 1 < n
      · have hlt1 : I ≤ (n : Int) - 1 := by omega
        obtain ⟨L, hL⟩ : ∃ L, L = rootTo m u a0 e0 k := ⟨_, rfl⟩
        have hLL : L.length = k + 1 := by rw [hL, length_rootTo]
        have hnx := root_next m u a0 e0 k n
        have hwi := wt_impl m (sqF m a0 e0 (k + 1)) L k n hLL hlt
        have hLB : NumL m L := by rw [hL]; exact HNB.out k
        rw [← hL] at hnx HR
        obtain ⟨M, hM⟩ : ∃ M, M = lst n (co L) := ⟨_, rfl⟩
        have HML : Hid (M.length = n) := by unfold Hid; rw [hM, length_lst]
        have HMB : Hid (NumL m M) := by unfold Hid; rw [hM]; exact NumL.lst (by omega) fun k _ => hLB k
        obtain ⟨T, hT⟩ : ∃ T, timesL m n M M = T := ⟨_, rfl⟩
        have HT := Lib.hid hT
        have HTL : Hid (T.length = n) := by unfold Hid; rw [← hT, length_timesL]
        have hTc : T.getD (k + 1) 0 = cv m (co M) (co M) (k + 1) := by rw [← hT]; exact getD_lst _ _ _ hlt
        rw [← hM] at hwi hnx HR
        rw [← hTc] at hwi
        rw [← hwi] at hnx
        have hrb : 0 ≤ T.getD (k + 1) 0 ∧ T.getD (k + 1) 0 < m := by rw [hTc]; exact cvTo_bd (by omega) _ _ _ _
        have hsb := sqF_bd hm he (a := a0) (k + 1)
        have hs0 : wr.cell? ⟨b, k + 1, none⟩ = some (.int .i64 (sqF m a0 e0 (k + 1))) := (HB.out.cell (p := ⟨b, k + 1, none⟩) hb2').trans (hcl.out (k + 1) hlt)
        obtain ⟨st, hst⟩ : ∃ st, st = sqF m a0 e0 (k + 1) := ⟨_, rfl⟩
        obtain ⟨r, hr⟩ : ∃ r, r = T.getD (k + 1) 0 := ⟨_, rfl⟩
        rw [← hst] at hsb hs0 hnx
        rw [← hr] at hrb hnx
        have HNX := Lib.hid hnx
        have HRD := Lib.hid hr
        clear hwi hnx hL hM hT hTc hst hr hLL hLB
        have v4 : (0 : Int) ≤ I := by omega
        have v5 : I < (n : Int) := by omega
        have v7 := hIn.out
        have v9 : IntKind.i64.wrap (I + 1) = I + 1 := IntWalk.i64_in _ (by omega)
        have v10 : IntKind.i64.wrap (st - r) = st - r := IntWalk.i64_in _ (by omega)
        go_wp2_with (go_at_call 147; refine (iDegree_any m (some ⟨b, 0, none⟩) n cp _ (by omega)).mono ?_; rintro e w1 ⟨rfl, hb3⟩; have P1 := HP.out.keep hb3; have O1 := HO.out.keep hb3; have p1a := P1.1.2.1; have p1b := P1.1.2.2; have o1a := O1.1.2.1; have o1b := O1.1.2.2)
        have Q1 := HQ.out.keep hb3
        have R1 := HR.out.below hb3 zR
        have K1 := HB.out.trans (hb3.mono zB)
        have z1 := hb3.size
        have hs1 := (hb3.cell (p := ⟨b, k + 1, none⟩) (by show b < wr.heap.size; omega)).trans hs0
        have hbw : b < w1.heap.size := by omega
        clear HO HR HP HQ HB hb3 p1 p2 hs0 zP zQ zO zR zB
        go_cut [6] from 12 to 42 (fun s wx => s = .int .i64 (st - r) ∧ Hid (Below w1.heap.size w1 wx))
        case first =>
          go_region_law ((go_simp; go_at_call 148; refine (times_any _ m m (.slice (some ⟨g, 0, none⟩) n c') (.slice (some ⟨g, 0, none⟩) n c') M M T n 0 0 ((R1.drewN 1).own' (Nat.zero_le _) HML.out) ((R1.drewN 1).own' (Nat.zero_le _) HML.out) hm (by omega) HMB.out HMB.out HML.out HML.out (by omega) hn HT.out).mono ?_; rintro e w5 ⟨A5, c5, rfl, o5, hb5⟩; rw [HTL.out] at o5 ⊢; have R5 := Lib.hid (below_undrew hb5); clear hb5; have p5b := (P1.keep R5.out).1.2.2; have hs5 := (R5.out.cell (p := ⟨b, k + 1, none⟩) hbw).trans hs1; obtain ⟨A6, c6, e6, -, -, h6⟩ := o5.open_; rw [HTL.out] at e6 h6; obtain ⟨g5, rfl, -, -, hcell5, -⟩ := h6 (k + 1) hlt; injection e6 with e6a e6b e6c; subst e6a e6c; rw [← HRD.out] at hcell5; have hfl : ∀ w' : World, (Instr.field 78 (.agg #[.int .i64 m, .slice (some ⟨g5, 0, none⟩) n c5]) 1).run Try.prog w' = .ok (.slice (some ⟨g5, 0, none⟩) n c5) w' := fun _ => field1 _ _ _ _ _; clear h6 o5))
          all_goals
            go_wp2_with fail
            go_meet
            exact ⟨rfl, R5⟩
        case rest =>
          obtain ⟨rfl, R5⟩ := hcut
          have z5 := R5.out.size
          have P5 := P1.keep R5.out
          have O5 := O1.keep R5.out
          have Q5 := Q1.keep R5.out
          have RR := R1.below R5.out R1.lt
          have K5 := K1.trans (R5.out.mono K1.size)
          have p5a := P5.1.2.1
          have o5b := O5.1.2.2
          have hd0 := RR.cell (k := k + 1) (by rw [HML.out]; exact hlt)
          have hf0 := RR.free (k + 1)
          obtain ⟨y1, hy1⟩ : ∃ y1, y1 = M.getD (k + 1) 0 := ⟨_, rfl⟩
          rw [← hy1] at hd0
          have hW0 := Int.emod_nonneg (st - r) (show m ≠ 0 by omega)
          have hW1 := Int.emod_lt_of_pos (st - r) (show 0 < m by omega)
          clear hy1 p1a p1b o1a o1b hs1 R5 P1 O1 Q1 R1 K1
          have ne1 : (⟨g, k + 1, none⟩ : Addr) ≠ ⟨w.heap.size, 0, none⟩ := by first | (simp; done) | (simp; omega)
          have ne2 : (⟨g, k + 1, none⟩ : Addr) ≠ ⟨bo, 1, none⟩ := by first | (simp; done) | (simp; omega)
          go_wp2
          go_region_held3 (fun w' => w'.cell? ⟨w.heap.size, 0, none⟩ = some (.int .i64 m) ∧ w'.cell? ⟨bo, 1, none⟩ = some (.slice (some ⟨g, 0, none⟩) n c'))
            ((first | exact ⟨p5a, o5b⟩ | exact ⟨(World.cell?_setCell_other _ _ _ _ ne1).trans p5a, (World.cell?_setCell_other _ _ _ _ ne2).trans o5b⟩ | go_keep))
            (first | (go_at_call 85; refine (mod_any (st - r) m _ (by omega) (by omega)).mono ?_; rintro e w7 ⟨rfl, k7, rfl⟩) | (go_at_call 133; refine (mul_any m ((st - r) % m) u _ (by omega) (by omega) hW0 hW1 hub.1 hub.2).mono ?_; rintro e w6 ⟨rfl, rfl⟩))
          go_wp2
          go_roundw
          case rel =>
            refine ⟨k + 1, by omega, by rw [HI.out]; go_num, O5.setCell (by simp; omega) _, ?_, P5.setCell (by simp; omega) _, Q5.setCell (by simp; omega) _, ?_⟩
            · unfold Hid
              rw [← HNX.out]
              exact RR.set_ (k + 1) _
            · exact Below.setCell (below_drewN K5 _) (by simp; omega) _
          case measure => simp [intOf]; omega
      · have hkn : k = n - 1 := by omega
        have hR : RowI wr g c' zs := by
          have h := HR.out
          rw [hkn] at h
          have e : lst n (co (rootTo m u a0 e0 (n - 1))) = rootTo m u a0 e0 (n - 1) := by
            have := root_all m u a0 e0 (n - 1)
            rwa [show n - 1 + 1 = n by omega] at this
          rw [e, HZ.out] at h
          exact h
        have hly : Hid (zs.length = n) := by unfold Hid; rw [← HZ.out, length_rootTo]; omega
        have hd5 : decide (I ≤ (n : Int) - 1) = false := by simp; omega
        clear hkn
        go_wp2_with (go_at_call 147; refine (iDegree_any m (some ⟨b, 0, none⟩) n cp _ (by omega)).mono ?_; rintro e w1 ⟨rfl, hb3⟩; have O1 := HO.out.keep hb3; have o1a := O1.1.2.1; have o1b := O1.1.2.2; have Q1 := HQ.out.keep hb3; have q1 := Q1.1.2.1; have q2 := Q1.1.2.2; have q3 := Q1.2.1; have q4 := Q1.2.2; have R1 := hR.below hb3 zR; have K1 := HB.out.trans (hb3.mono zB))
        refine bodyPost_ret (v := .agg #[.int .i64 m, .slice (some ⟨g, 0, none⟩) n c']) (by simp [results, Try.results86, go_sem, q1, q2]) rfl ⟨some ⟨g, 0, none⟩, c', by rw [hly.out], ?_, ?_⟩
        · rw [hly.out]
          exact ((R1.far (p := ⟨w.heap.size + 1, 0, none⟩) (by simp; omega) (.int .i64 m)).far (p := ⟨w.heap.size + 1, 1, none⟩) (by simp; omega) (.slice (some ⟨g, 0, none⟩) n c')).own' (by omega) hly.out
        · exact (K1.setCell (by simp) _).setCell (by simp) _

/-! ### EulerLaw (impl) -/
theorem sq_set (m a e : Int) (n : Nat) (hm : 2 ≤ m) : ((conL m n 1).set 2 ((-2 * a) % m)).set 4 e = lst n (sqF m a e) := by
  unfold conL
  rw [set_lst, set_lst]
  apply lst_congr
  intro k _
  have e1 : (1 : Int) % m = 1 := Int.emod_eq_of_lt (by omega) (by omega)
  unfold upd sqF
  by_cases h4 : k = 4
  · subst h4; simp
  · by_cases h2 : k = 2
    · subst h2; simp
    · rw [if_neg h4, if_neg h2, if_neg h2, if_neg h4, e1]
set_option maxRecDepth 16000 in
set_option maxHeartbeats 8000000 in
theorem iEulerLawR_any (w : World) (m d a0 e0 : Int) : Calls Try.prog 21 #[.int .i64 m, .int .i64 d, .int .i64 a0, .int .i64 e0] w (RetPI w (EulerLawR m d a0 e0)) := by
  have HL1 : Hid (OwnI ((w.alloc (.cells #[.int .i64 0, .slice none 0 0] 24)).alloc (.cells #[.int .i64 a0, .int .i64 e0] 2)) (w.heap.size + 1) (.slice (some ⟨w.heap.size + 1, 0, none⟩) 2 2) [a0, e0]) := by
    have h := (RowI.lit (w.alloc (.cells #[.int .i64 0, .slice none 0 0] 24)) [a0, e0] #[.int .i64 a0, .int .i64 e0] rfl (by simp [maxLen])).own (B := w.heap.size + 1) (by simp)
    unfold Hid
    simpa using h
  cases hs : stdB m d [a0, e0]
  · have HF : EulerLawR m d a0 e0 = ((0, []), 2) := by simp [EulerLawR, hs]
    rw [HF]
    have HS : Hid (stdN m d [a0, e0] = 2) := by simp [Hid, stdN, hs]
    clear HF hs
    go_enter Try.func21, Try.ntmps21
    go_wp2_with (go_at_call 63; refine (standard_any m _ _ _ [a0, e0] (w.heap.size + 1) HL1.out).mono ?_; rintro e w1 ⟨rfl, hb1⟩; rw [HS.out]; have P1 : Bf w1 w.heap.size (.int .i64 0) (.slice none 0 0) := ((Bf.alloc1 w _ _ _).alloc _).keep hb1; have K1 : Below w.heap.size w w1 := Below.trans (by (repeat (first | assumption | exact Below.refl _ _ | refine Below.alloc ?_ (by first | omega | (simp; done) | (simp; omega)) _ | refine Below.setCell ?_ (by first | omega | (simp; done) | (simp; omega)) _ | refine below_drewN ?_ _))) (hb1.mono (by simp; omega)); have p1a := P1.1.2.1; have p1b := P1.1.2.2; have p1c := P1.2.1; have p1d := P1.2.2; have z1 := P1.1.1)
    exact bodyPost_ret (v := .tuple #[.agg #[.int .i64 0, .slice none 0 0], .int .i64 2]) (by simp [results, Try.results21, go_sem, p1a, p1b]) rfl (RetPI.zero ((K1.setCell (by simp) _).setCell (by simp) _))
  · obtain ⟨hm, hdb, hcb⟩ := stdB_true hs
    have hab : (0 ≤ a0 ∧ a0 < m) ∧ (0 ≤ e0 ∧ e0 < m) := by
      have h : isNumB a0 m = true ∧ isNumB e0 m = true := by simpa [numsB] using hcb
      exact ⟨isNumB_true h.1, isNumB_true h.2⟩
    have HS : Hid (stdN m d [a0, e0] = 0) := by simp [Hid, stdN, hs]
    have ht2 : m.tmod 2 = m % 2 := Int.tmod_eq_emod_of_nonneg (by omega)
    clear hcb
    cases hm2 : (m % 2 == 0)
    · obtain ⟨n, hn⟩ : ∃ n : Nat, d + 1 = (n : Int) := ⟨(d + 1).toNat, by omega⟩
      obtain ⟨ys, hy⟩ : ∃ ys, eulT m n a0 e0 = ys := ⟨_, rfl⟩
      have HF : EulerLawR m d a0 e0 = ((m, ys), 0) := by simp only [EulerLawR, hs, hm2, hn, Int.toNat_natCast, hy]; simp
      rw [HF]
      have HYL : Hid (ys.length = n) := by unfold Hid; rw [← hy]; exact length_tab _ _
      have HY := Lib.hid hy
      have hd1 : d = (n : Int) - 1 := by omega
      subst hd1
      have hn2 : 2 ≤ n ∧ n ≤ 11 := by omega
      clear HF hs hy hn
      go_enter Try.func21, Try.ntmps21
      go_upto_region 7 with (first | (go_at_call 63; refine (standard_any m _ _ _ [a0, e0] (w.heap.size + 1) HL1.out).mono ?_; rintro e w1 ⟨rfl, hb1⟩; rw [HS.out]; have P1 : Bf w1 w.heap.size (.int .i64 0) (.slice none 0 0) := ((Bf.alloc1 w _ _ _).alloc _).keep hb1; have K1 : Below w.heap.size w w1 := Below.trans (by (repeat (first | assumption | exact Below.refl _ _ | refine Below.alloc ?_ (by first | omega | (simp; done) | (simp; omega)) _ | refine Below.setCell ?_ (by first | omega | (simp; done) | (simp; omega)) _ | refine below_drewN ?_ _))) (hb1.mono (by simp; omega)); have p1a := P1.1.2.1; have p1b := P1.1.2.2; have p1c := P1.2.1; have p1d := P1.2.2; have z1 := P1.1.1) | (go_at_call 83; refine (zero_any _ m _ n (by omega) (by omega)).mono ?_; rintro e w2 ⟨g0, rfl, hg0, hr0, hb2⟩; have P2 := P1.keep hb2; have K2 := K1.trans (hb2.mono K1.size); have hz2 := hb2.size; have hr0 := Lib.hid hr0) | (go_at_call 84; refine (constant_any _ m (.slice (some ⟨g0, 0, none⟩) n n) (List.replicate n 0) (conL m n 1) 1 0 (hr0.out.own' (Nat.zero_le _) (by simp)) (by omega) (by omega) (by simp; omega) (by simp; omega) (by simp)).mono ?_; rintro e w3 ⟨A3, c3, rfl, o3, hb3⟩; rw [length_conL] at o3 ⊢; have P3 := P2.keep hb3; have K3 := K2.trans (hb3.mono K2.size); have hz3 := hb3.size; have o3 := Lib.hid o3))
      rcases o3.out.row with ⟨e, -⟩ | ⟨g, cg, e, hg0', R3⟩
      · simp at e
        omega
      rw [length_conL] at e
      simp only [Value.slice.injEq] at e
      obtain ⟨rfl, -, rfl⟩ := e
      have zg := R3.lt
      obtain ⟨bx, hbx⟩ : ∃ bx, bx = w3.heap.size := ⟨_, rfl⟩
      obtain ⟨W, hW⟩ : ∃ W, W = w3.alloc (.cells #[.int .i64 m, .slice (some ⟨g, 0, none⟩) n c3] 78) := ⟨_, rfl⟩
      have PW : Bf W w.heap.size (.int .i64 0) (.slice none 0 0) := by rw [hW]; exact P3.alloc _
      have BX : Bf W bx (.int .i64 m) (.slice (some ⟨g, 0, none⟩) n c3) := by rw [hW, hbx]; exact Bf.alloc1 _ _ _ _
      have RW : RowI W g c3 (conL m n 1) := by rw [hW]; exact R3.alloc _
      have KW : Below w.heap.size w W := by rw [hW]; exact K3.alloc K3.size _
      have hgw : w.heap.size < g := by have := hg0'; omega
      have hbg : bx ≠ g := by omega
      have hbw : w.heap.size < bx := by have := P3.1.1; omega
      rw [← hbx, ← hW]
      clear P1 K1 p1a p1b p1c p1d z1 P2 K2 hz2 hr0 P3 K3 hz3 o3 hb1 hb2 hb3 R3 zg hg0 hg0' hbx hW
      have b1 := BX.1.2.1
      have b2 := BX.1.2.2
      have zW := KW.size
      go_upto_if 38 with fail
      go_cut [11] from 38 to 45 (fun s wx => s = .pointer (some ⟨bx, 0, none⟩) ∧ Hid (Bf wx bx (.int .i64 m) (.slice (some ⟨g, 0, none⟩) n c3)) ∧ Hid (RowI wx g c3 ((conL m n 1).set 2 ((-2 * a0) % m))) ∧ Hid (Bf wx w.heap.size (.int .i64 0) (.slice none 0 0)) ∧ Hid (Below w.heap.size w wx))
      case first =>
        have v1 : IntKind.i64.wrap (-2 * a0) = -2 * a0 := IntWalk.i64_in _ (by omega)
        by_cases h3 : 3 ≤ n
        · have hd2 : decide ((2 : Int) ≤ (n : Int) - 1) = true := by simp; omega
          have hd2' : (2 : Int) ≤ (n : Int) - 1 := by omega
          have hc0 := RW.cell (k := 2) (by rw [length_conL]; omega)
          have hf0 := RW.free 2
          obtain ⟨y0, hy0⟩ : ∃ y0, y0 = (conL m n 1).getD 2 0 := ⟨_, rfl⟩
          rw [← hy0] at hc0
          have hA1 : 2 < n := by omega
          have hA2 : (2 : Int) < (n : Int) := by omega
          have hA3 : ¬ n ≤ 2 := by omega
          have ne1 : (⟨g, 2, none⟩ : Addr) ≠ ⟨bx, 1, none⟩ := by first | (simp; done) | (simp; omega)
          clear hy0
          go_wp2
          go_region_held3 (fun w' => w'.cell? ⟨bx, 1, none⟩ = some (.slice (some ⟨g, 0, none⟩) n c3))
            (first | exact b2 | exact (World.cell?_setCell_other _ _ _ _ ne1).trans b2 | go_keep)
            (first | (go_at_call 85; refine (mod_any (-2 * a0) m _ (by omega) (by omega)).mono ?_; rintro e w7 ⟨rfl, k7, rfl⟩) | (go_at_call 85; refine (mod_any (-(2 * a0)) m _ (by omega) (by omega)).mono ?_; rintro e w7 ⟨rfl, k7, rfl⟩; rw [show -(2 * a0) = -2 * a0 by omega]))
          go_wp2_with fail
          go_meet
          exact ⟨rfl, BX.setCell (by show g ≠ bx; omega) _, RW.set_ 2 _, PW.setCell (by show g ≠ w.heap.size; omega) _, Below.setCell (below_drewN KW _) (by show w.heap.size ≤ g; omega) _⟩
        · have hd2 : decide ((2 : Int) ≤ (n : Int) - 1) = false := by simp; omega
          have hd2' : ¬ (2 : Int) ≤ (n : Int) - 1 := by omega
          go_wp2_with fail
          go_meet
          refine ⟨rfl, BX, ?_, PW, KW⟩
          unfold Hid
          rw [List.set_eq_of_length_le (by rw [length_conL]; omega)]
          exact RW
      case rest =>
        clear BX RW PW KW b1 b2 zW
        obtain ⟨rfl, HX, HW, HP, HK⟩ := hcut
        have b1 := HX.out.1.2.1
        have b2 := HX.out.1.2.2
        go_upto_if 47 with fail
        go_cut [11] from 47 to 51 (fun s wx => s = .pointer (some ⟨bx, 0, none⟩) ∧ Hid (Bf wx bx (.int .i64 m) (.slice (some ⟨g, 0, none⟩) n c3)) ∧ Hid (RowI wx g c3 (lst n (sqF m a0 e0))) ∧ Hid (Bf wx w.heap.size (.int .i64 0) (.slice none 0 0)) ∧ Hid (Below w.heap.size w wx))
        case first =>
          have HSQ := Lib.hid (sq_set m a0 e0 n hm.1)
          by_cases h5 : 5 ≤ n
          · have hd4 : decide ((4 : Int) ≤ (n : Int) - 1) = true := by simp; omega
            have hd4' : (4 : Int) ≤ (n : Int) - 1 := by omega
            have hc4 := HW.out.cell (k := 4) (by rw [List.length_set, length_conL]; omega)
            have hf4 := HW.out.free 4
            obtain ⟨y4, hy4⟩ : ∃ y4, y4 = ((conL m n 1).set 2 ((-2 * a0) % m)).getD 4 0 := ⟨_, rfl⟩
            rw [← hy4] at hc4
            have hA4 : 4 < n := by omega
            have hA5 : (4 : Int) < (n : Int) := by omega
            have hA6 : ¬ n ≤ 4 := by omega
            clear hy4
            go_wp2_with fail
            go_meet
            refine ⟨rfl, HX.out.setCell (by show g ≠ bx; omega) _, ?_, HP.out.setCell (by show g ≠ w.heap.size; omega) _, Below.setCell HK.out (by show w.heap.size ≤ g; omega) _⟩
            unfold Hid
            rw [← HSQ.out]
            exact HW.out.set_ 4 e0
          · have hd4 : decide ((4 : Int) ≤ (n : Int) - 1) = false := by simp; omega
            have hd4' : ¬ (4 : Int) ≤ (n : Int) - 1 := by omega
            go_wp2_with fail
            go_meet
            refine ⟨rfl, HX, ?_, HP, HK⟩
            unfold Hid
            rw [← HSQ.out, List.set_eq_of_length_le (by rw [List.length_set, length_conL]; omega)]
            exact HW.out
        case rest =>
          clear HX HW HP HK b1 b2
          obtain ⟨rfl, HX, HW, HP, HK⟩ := hcut
          have b1 := HX.out.1.2.1
          have b2 := HX.out.1.2.2
          obtain ⟨R, hR⟩ : ∃ R, rootTo m (invN m 2) a0 e0 (n - 1) = R := ⟨_, rfl⟩
          have HRL : Hid (R.length = n) := by unfold Hid; rw [← hR, length_rootTo]; omega
          have hRB : NumL m R := by rw [← hR]; exact rootTo_num hm.1 _ _ _ _
          have hY2 := HY.out
          unfold eulT at hY2
          rw [hR] at hY2
          have HRD := Lib.hid hR
          obtain ⟨X, hX⟩ : ∃ X, tab n (axF (varL n) 0) = X := ⟨_, rfl⟩
          obtain ⟨Y, hYY⟩ : ∃ Y, tab n (axF (varL n) 1) = Y := ⟨_, rfl⟩
          obtain ⟨RA, hRA⟩ : ∃ RA, tab n (axF R 1) = RA := ⟨_, rfl⟩
          obtain ⟨RB, hRBB⟩ : ∃ RB, tab n (axF R 0) = RB := ⟨_, rfl⟩
          obtain ⟨T1, hT1⟩ : ∃ T1, tab n (tmF m n (co2 X) (co2 RA)) = T1 := ⟨_, rfl⟩
          obtain ⟨T2, hT2⟩ : ∃ T2, tab n (tmF m n (co2 Y) (co2 RB)) = T2 := ⟨_, rfl⟩
          obtain ⟨TOP, hTOP⟩ : ∃ TOP, (tab n fun i j => (co2 T1 i j + co2 T2 i j) % m) = TOP := ⟨_, rfl⟩
          obtain ⟨XY, hXY⟩ : ∃ XY, tab n (tmF m n (co2 X) (co2 Y)) = XY := ⟨_, rfl⟩
          obtain ⟨ON, hON⟩ : ∃ ON, tab n (numF m 1) = ON := ⟨_, rfl⟩
          obtain ⟨X2, hX2⟩ : ∃ X2, tab n (tmF m n (co2 XY) (co2 XY)) = X2 := ⟨_, rfl⟩
          obtain ⟨SC, hSC⟩ : ∃ SC, (tab n fun i j => e0 % m * co2 X2 i j % m) = SC := ⟨_, rfl⟩
          obtain ⟨UN, hUN⟩ : ∃ UN, (tab n fun i j => (co2 ON i j - co2 SC i j) % m) = UN := ⟨_, rfl⟩
          obtain ⟨IV, hIV⟩ : ∃ IV, tab n (geoF m (e0 % m) 2 (n - 1)) = IV := ⟨_, rfl⟩
          have hTOPe : TOP = tab n (topF m R) := by rw [← hTOP, ← hT1, ← hT2, ← hX, ← hYY, ← hRA, ← hRBB, x_root, y_root, top_join]
          have hIVe : IV = tab n (geoF m e0 2 (n - 1)) := by rw [← hIV, Int.emod_eq_of_lt hab.2.1 hab.2.2]
          have hX2e : X2 = tab n fun i j => if i = 2 ∧ j = 2 then 1 else 0 := by rw [← hX2, ← hXY, ← hX, ← hYY, xy_prod m n hm.1 (by omega), xy_sq m n hm.1]
          have HRE : Hid ((tab n fun i j => (co2 (tab n (numF m 1)) i j - co2 UN i j) % m) = tab n (sing 2 (e0 % m))) := by
            unfold Hid
            rw [← hUN, ← hON, ← hSC, hX2e]
            exact eul_rest m e0 n hm.1
          rw [← hTOPe, ← hIVe] at hY2
          have HFIN := Lib.hid hY2
          have HX' := Lib.hid hX
          have HY' := Lib.hid hYY
          have HRA := Lib.hid hRA
          have HRB := Lib.hid hRBB
          have HT1 := Lib.hid hT1
          have HT2 := Lib.hid hT2
          have HTOP := Lib.hid hTOP
          have HXY := Lib.hid hXY
          have HON := Lib.hid hON
          have HX2 := Lib.hid hX2
          have HSC := Lib.hid hSC
          have HUN := Lib.hid hUN
          have HIV := Lib.hid hIV
          have tX : Hid (Tri n X) := by unfold Hid; rw [← hX]; exact Tri.tab _ _
          have nX : Hid (Num2 m X) := by unfold Hid; rw [← hX]; exact var_num2 m hm.1 n 0
          have lX : Hid (X.length = n) := tX.out.1
          have tY : Hid (Tri n Y) := by unfold Hid; rw [← hYY]; exact Tri.tab _ _
          have nY : Hid (Num2 m Y) := by unfold Hid; rw [← hYY]; exact var_num2 m hm.1 n 1
          have lY : Hid (Y.length = n) := tY.out.1
          have tRA : Hid (Tri n RA) := by unfold Hid; rw [← hRA]; exact Tri.tab _ _
          have nRA : Hid (Num2 m RA) := by unfold Hid; rw [← hRA]; exact Num2.tab (by omega) n _ fun i j => by unfold axF; split <;> split <;> first | exact hRB _ | omega
          have lRA : Hid (RA.length = n) := tRA.out.1
          have tRB : Hid (Tri n RB) := by unfold Hid; rw [← hRBB]; exact Tri.tab _ _
          have nRB : Hid (Num2 m RB) := by unfold Hid; rw [← hRBB]; exact Num2.tab (by omega) n _ fun i j => by unfold axF; split <;> split <;> first | exact hRB _ | omega
          have lRB : Hid (RB.length = n) := tRB.out.1
          have tT1 : Hid (Tri n T1) := by unfold Hid; rw [← hT1]; exact Tri.tab _ _
          have nT1 : Hid (Num2 m T1) := by unfold Hid; rw [← hT1]; exact tmF_num2 (by omega) _ _ _
          have lT1 : Hid (T1.length = n) := tT1.out.1
          have tT2 : Hid (Tri n T2) := by unfold Hid; rw [← hT2]; exact Tri.tab _ _
          have nT2 : Hid (Num2 m T2) := by unfold Hid; rw [← hT2]; exact tmF_num2 (by omega) _ _ _
          have lT2 : Hid (T2.length = n) := tT2.out.1
          have tTOP : Hid (Tri n TOP) := by unfold Hid; rw [← hTOP]; exact Tri.tab _ _
          have nTOP : Hid (Num2 m TOP) := by unfold Hid; rw [← hTOP]; exact mod_num2 (by omega) _ _
          have lTOP : Hid (TOP.length = n) := tTOP.out.1
          have tXY : Hid (Tri n XY) := by unfold Hid; rw [← hXY]; exact Tri.tab _ _
          have nXY : Hid (Num2 m XY) := by unfold Hid; rw [← hXY]; exact tmF_num2 (by omega) _ _ _
          have lXY : Hid (XY.length = n) := tXY.out.1
          have tON : Hid (Tri n ON) := by unfold Hid; rw [← hON]; exact Tri.tab _ _
          have nON : Hid (Num2 m ON) := by unfold Hid; rw [← hON]; exact Num2.tab (by omega) n _ fun i j => by unfold numF; split <;> first | exact ⟨Int.emod_nonneg _ (by omega), Int.emod_lt_of_pos _ (by omega)⟩ | omega
          have lON : Hid (ON.length = n) := tON.out.1
          have tX2 : Hid (Tri n X2) := by unfold Hid; rw [← hX2]; exact Tri.tab _ _
          have nX2 : Hid (Num2 m X2) := by unfold Hid; rw [← hX2]; exact tmF_num2 (by omega) _ _ _
          have lX2 : Hid (X2.length = n) := tX2.out.1
          have tSC : Hid (Tri n SC) := by unfold Hid; rw [← hSC]; exact Tri.tab _ _
          have nSC : Hid (Num2 m SC) := by unfold Hid; rw [← hSC]; exact mod_num2 (by omega) _ _
          have lSC : Hid (SC.length = n) := tSC.out.1
          have tUN : Hid (Tri n UN) := by unfold Hid; rw [← hUN]; exact Tri.tab _ _
          have nUN : Hid (Num2 m UN) := by unfold Hid; rw [← hUN]; exact mod_num2 (by omega) _ _
          have lUN : Hid (UN.length = n) := tUN.out.1
          have tIV : Hid (Tri n IV) := by unfold Hid; rw [← hIV]; exact Tri.tab _ _
          have nIV : Hid (Num2 m IV) := by unfold Hid; rw [← hIV]; exact Num2.tab (by omega) n _ fun i j => geoF_bd (by omega) _ _ _ i j
          have lIV : Hid (IV.length = n) := tIV.out.1
          clear hY2 hR hX hYY hRA hRBB hT1 hT2 hTOP hXY hON hX2 hSC hUN hIV hTOPe hIVe hX2e hRB
          go_upto_region 13 with (first | (go_at_call 86; refine (rooted_any _ m a0 e0 (.slice (some ⟨g, 0, none⟩) n c3) (lst n (sqF m a0 e0)) R n 0 (HW.out.own' (Nat.zero_le _) (length_lst _ _)) (length_lst _ _) (fun k hk => getD_lst _ _ _ hk) hm.1 hm.2 (by omega) (by omega) hab.2 HRD.out).mono ?_; rintro e w4 ⟨A4, c4, rfl, o4, hb4⟩; rw [HRL.out] at o4 ⊢; have P4 := HP.out.keep hb4; have K4 := HK.out.trans (hb4.mono HK.out.size); have o4 := Lib.hid o4) | (go_at_call 64; refine (variables_any _ m _ n (by omega) (by omega) (by omega) X Y HX'.out HY'.out).mono ?_; rintro e w5 ⟨A5, c5, A6, c6, rfl, o5, o6, hb5⟩; have o5 := Lib.hid o5; have o6 := Lib.hid o6))
          obtain ⟨bR, hbR⟩ : ∃ bR, bR = w4.heap.size := ⟨_, rfl⟩
          obtain ⟨bX, hbX⟩ : ∃ bX, bX = w5.heap.size := ⟨_, rfl⟩
          have hz5 := hb5.size
          simp at hz5
          have zP4 := P4.1.1
          obtain ⟨V, hV⟩ : ∃ V, V = (w5.alloc (.cells #[.int .i64 m, .slice A5 n c5] 24)).alloc (.cells #[.int .i64 m, .slice A6 n c6] 24) := ⟨_, rfl⟩
          have PV : Bf V w.heap.size (.int .i64 0) (.slice none 0 0) := by rw [hV]; exact (((P4.alloc _).keep hb5).alloc _).alloc _
          have SR : Bf V bR (.int .i64 m) (.slice A4 n c4) := by rw [hV, hbR]; exact (((Bf.alloc1 w4 _ _ 78).keep hb5).alloc _).alloc _
          have SX : Bf V bX (.int .i64 m) (.slice A5 n c5) := by rw [hV, hbX]; exact (Bf.alloc1 w5 _ _ _).alloc _
          have SY : Bf V (bX + 1) (.int .i64 m) (.slice A6 n c6) := by rw [hV, hbX]; exact Bf.q2
          have OR : Hid (OwnI V 0 (.slice A4 n c4) R) := by unfold Hid; rw [hV]; exact (((((o4.out.mono (Nat.zero_le _)).alloc _).keep hb5 (Nat.le_refl _)).alloc _).alloc _)
          have OX : Hid (OwnP V (bR + 1) bX (.slice A5 n c5) X) := by unfold Hid; rw [hV, hbX, hbR]; have h := (o5.out.alloc (.cells #[.int .i64 m, .slice A5 n c5] 24)).alloc (.cells #[.int .i64 m, .slice A6 n c6] 24); simpa using h
          have OY : Hid (OwnP V (bR + 1) bX (.slice A6 n c6) Y) := by unfold Hid; rw [hV, hbX, hbR]; have h := (o6.out.alloc (.cells #[.int .i64 m, .slice A5 n c5] 24)).alloc (.cells #[.int .i64 m, .slice A6 n c6] 24); simpa using h
          have KV : Below w.heap.size w V := by
            rw [hV]
            exact (((K4.alloc (by omega) _).trans (hb5.mono (by simp; omega))).alloc (by omega) _).alloc (by simp; omega) _
          rw [← hbR, ← hbX, ← hV]
          have zSX := SX.1.1
          have zSY := SY.1.1
          have zSR := SR.1.1
          have zV := KV.size
          have sXa := SX.1.2.1
          have sXb := SX.1.2.2
          have sYa := SY.1.2.1
          have sYb := SY.1.2.2
          have sRa := SR.1.2.1
          have sRb := SR.1.2.2
          have hbX2 : w.heap.size < bX := by omega
          clear P4 K4 o4 o5 o6 hb4 hb5 HX HW HP HK b1 b2 hz5 zP4 hbR hbX hV
          go_cut [15] from 60 to 68 (fun s wx => ∃ (bT : Nat) (A : Option Addr) (c : Nat), s = .pointer (some ⟨bT, 0, none⟩) ∧ V.heap.size ≤ bT ∧ Hid (Bf wx bT (.int .i64 m) (.slice A n c)) ∧ Hid (OwnPx wx 0 bT (.slice A n c) TOP) ∧ Hid (Below V.heap.size V wx))
          case first =>
            go_region_held3 (fun w' => w'.cell? ⟨bX, 0, none⟩ = some (.int .i64 m) ∧ w'.cell? ⟨bX, 1, none⟩ = some (.slice A5 n c5) ∧ w'.cell? ⟨bX + 1, 0, none⟩ = some (.int .i64 m) ∧ w'.cell? ⟨bX + 1, 1, none⟩ = some (.slice A6 n c6) ∧ w'.cell? ⟨bR, 0, none⟩ = some (.int .i64 m) ∧ w'.cell? ⟨bR, 1, none⟩ = some (.slice A4 n c4))
              (first | with_reducible exact ⟨sXa, sXb, sYa, sYb, sRa, sRb⟩ | (refine (fun (h : Below V.heap.size V _) => ⟨(SX.keep h).1.2.1, (SX.keep h).1.2.2, (SY.keep h).1.2.1, (SY.keep h).1.2.2, (SR.keep h).1.2.1, (SR.keep h).1.2.2⟩) ?_; (repeat (first | with_reducible assumption | with_reducible exact Below.refl _ _ | (with_reducible refine Below.alloc ?_ ?_ _; rotate_left; (focus (first | exact Nat.le_refl _ | omega | (simp; done) | (simp; omega)))) | (with_reducible refine Below.setCell ?_ ?_ _; rotate_left; (focus (first | exact Nat.le_refl _ | omega | (simp; done) | (simp; omega)))) | with_reducible refine below_drew ?_ | with_reducible refine below_drewN ?_ _ | (with_reducible refine Below.trans ?_ (Below.mono hbE ?_); rotate_left; (focus (first | exact Nat.le_refl _ | omega | (simp; done) | (simp; omega)))) | (with_reducible refine Below.trans ?_ (Below.mono hbD ?_); rotate_left; (focus (first | exact Nat.le_refl _ | omega | (simp; done) | (simp; omega)))) | (with_reducible refine Below.trans ?_ (Below.mono hbC ?_); rotate_left; (focus (first | exact Nat.le_refl _ | omega | (simp; done) | (simp; omega)))) | (with_reducible refine Below.trans ?_ (Below.mono hbB ?_); rotate_left; (focus (first | exact Nat.le_refl _ | omega | (simp; done) | (simp; omega)))) | (with_reducible refine Below.trans ?_ (Below.mono hbA ?_); rotate_left; (focus (first | exact Nat.le_refl _ | omega | (simp; done) | (simp; omega)))))); done) | go_keep)
              (first | (go_at_call 65; refine (pPlus_any _ m _ _ T1 T2 TOP n _ _ _ _ (OB.out.keep (by (repeat (first | with_reducible assumption | with_reducible exact Below.refl _ _ | (with_reducible refine Below.alloc ?_ ?_ _; rotate_left; (focus (first | exact Nat.le_refl _ | omega | (simp; done) | (simp; omega)))) | (with_reducible refine Below.setCell ?_ ?_ _; rotate_left; (focus (first | exact Nat.le_refl _ | omega | (simp; done) | (simp; omega)))) | with_reducible refine below_drew ?_ | with_reducible refine below_drewN ?_ _ | (with_reducible refine Below.trans ?_ (Below.mono hbE ?_); rotate_left; (focus (first | exact Nat.le_refl _ | omega | (simp; done) | (simp; omega)))) | (with_reducible refine Below.trans ?_ (Below.mono hbD ?_); rotate_left; (focus (first | exact Nat.le_refl _ | omega | (simp; done) | (simp; omega)))) | (with_reducible refine Below.trans ?_ (Below.mono hbC ?_); rotate_left; (focus (first | exact Nat.le_refl _ | omega | (simp; done) | (simp; omega)))) | (with_reducible refine Below.trans ?_ (Below.mono hbB ?_); rotate_left; (focus (first | exact Nat.le_refl _ | omega | (simp; done) | (simp; omega)))) | (with_reducible refine Below.trans ?_ (Below.mono hbA ?_); rotate_left; (focus (first | exact Nat.le_refl _ | omega | (simp; done) | (simp; omega)))))))) tT1.out nT1.out (OD.out.keep (by (repeat (first | with_reducible assumption | with_reducible exact Below.refl _ _ | (with_reducible refine Below.alloc ?_ ?_ _; rotate_left; (focus (first | exact Nat.le_refl _ | omega | (simp; done) | (simp; omega)))) | (with_reducible refine Below.setCell ?_ ?_ _; rotate_left; (focus (first | exact Nat.le_refl _ | omega | (simp; done) | (simp; omega)))) | with_reducible refine below_drew ?_ | with_reducible refine below_drewN ?_ _ | (with_reducible refine Below.trans ?_ (Below.mono hbE ?_); rotate_left; (focus (first | exact Nat.le_refl _ | omega | (simp; done) | (simp; omega)))) | (with_reducible refine Below.trans ?_ (Below.mono hbD ?_); rotate_left; (focus (first | exact Nat.le_refl _ | omega | (simp; done) | (simp; omega)))) | (with_reducible refine Below.trans ?_ (Below.mono hbC ?_); rotate_left; (focus (first | exact Nat.le_refl _ | omega | (simp; done) | (simp; omega)))) | (with_reducible refine Below.trans ?_ (Below.mono hbB ?_); rotate_left; (focus (first | exact Nat.le_refl _ | omega | (simp; done) | (simp; omega)))) | (with_reducible refine Below.trans ?_ (Below.mono hbA ?_); rotate_left; (focus (first | exact Nat.le_refl _ | omega | (simp; done) | (simp; omega)))))))) tT2.out nT2.out (by omega) (by omega) (by omega) (by omega) HTOP.out).mono ?_; (rintro e wE ⟨AE, cE, rfl, oE, hbE⟩; rw [lTOP.out] at oE ⊢; have OE := Lib.hid oE; clear oE; have KE : Below V.heap.size V wE := (by (repeat (first | with_reducible assumption | with_reducible exact Below.refl _ _ | (with_reducible refine Below.alloc ?_ ?_ _; rotate_left; (focus (first | exact Nat.le_refl _ | omega | (simp; done) | (simp; omega)))) | (with_reducible refine Below.setCell ?_ ?_ _; rotate_left; (focus (first | exact Nat.le_refl _ | omega | (simp; done) | (simp; omega)))) | with_reducible refine below_drew ?_ | with_reducible refine below_drewN ?_ _ | (with_reducible refine Below.trans ?_ (Below.mono hbE ?_); rotate_left; (focus (first | exact Nat.le_refl _ | omega | (simp; done) | (simp; omega)))) | (with_reducible refine Below.trans ?_ (Below.mono hbD ?_); rotate_left; (focus (first | exact Nat.le_refl _ | omega | (simp; done) | (simp; omega)))) | (with_reducible refine Below.trans ?_ (Below.mono hbC ?_); rotate_left; (focus (first | exact Nat.le_refl _ | omega | (simp; done) | (simp; omega)))) | (with_reducible refine Below.trans ?_ (Below.mono hbB ?_); rotate_left; (focus (first | exact Nat.le_refl _ | omega | (simp; done) | (simp; omega)))) | (with_reducible refine Below.trans ?_ (Below.mono hbA ?_); rotate_left; (focus (first | exact Nat.le_refl _ | omega | (simp; done) | (simp; omega))))))); have zE := KE.size; obtain ⟨hcE, hfE⟩ := bcell hbE; have qE := hbE.size; (try simp at qE); (first | (have yE0 : V.heap.size < wE.heap.size := (by omega)) | skip); (first | (have yE1 : wA.heap.size < wE.heap.size := (by omega)) | skip); (first | (have yE2 : wB.heap.size < wE.heap.size := (by omega)) | skip); (first | (have yE3 : wC.heap.size < wE.heap.size := (by omega)) | skip); (first | (have yE4 : wD.heap.size < wE.heap.size := (by omega)) | skip))) | (go_at_call 87; have _h := hbB; refine (onAxis_any _ m (.slice A4 n c4) R RB n 0 0 (OR.out.keep (by (repeat (first | with_reducible assumption | with_reducible exact Below.refl _ _ | (with_reducible refine Below.alloc ?_ ?_ _; rotate_left; (focus (first | exact Nat.le_refl _ | omega | (simp; done) | (simp; omega)))) | (with_reducible refine Below.setCell ?_ ?_ _; rotate_left; (focus (first | exact Nat.le_refl _ | omega | (simp; done) | (simp; omega)))) | with_reducible refine below_drew ?_ | with_reducible refine below_drewN ?_ _ | (with_reducible refine Below.trans ?_ (Below.mono hbE ?_); rotate_left; (focus (first | exact Nat.le_refl _ | omega | (simp; done) | (simp; omega)))) | (with_reducible refine Below.trans ?_ (Below.mono hbD ?_); rotate_left; (focus (first | exact Nat.le_refl _ | omega | (simp; done) | (simp; omega)))) | (with_reducible refine Below.trans ?_ (Below.mono hbC ?_); rotate_left; (focus (first | exact Nat.le_refl _ | omega | (simp; done) | (simp; omega)))) | (with_reducible refine Below.trans ?_ (Below.mono hbB ?_); rotate_left; (focus (first | exact Nat.le_refl _ | omega | (simp; done) | (simp; omega)))) | (with_reducible refine Below.trans ?_ (Below.mono hbA ?_); rotate_left; (focus (first | exact Nat.le_refl _ | omega | (simp; done) | (simp; omega))))))) (Nat.le_refl _)) HRL.out (by omega) (by omega) HRB.out).mono ?_; (rintro e wC ⟨AC, cC, rfl, oC, hbC⟩; rw [lRB.out] at oC ⊢; have OC := Lib.hid oC; clear oC; have KC : Below V.heap.size V wC := (by (repeat (first | with_reducible assumption | with_reducible exact Below.refl _ _ | (with_reducible refine Below.alloc ?_ ?_ _; rotate_left; (focus (first | exact Nat.le_refl _ | omega | (simp; done) | (simp; omega)))) | (with_reducible refine Below.setCell ?_ ?_ _; rotate_left; (focus (first | exact Nat.le_refl _ | omega | (simp; done) | (simp; omega)))) | with_reducible refine below_drew ?_ | with_reducible refine below_drewN ?_ _ | (with_reducible refine Below.trans ?_ (Below.mono hbE ?_); rotate_left; (focus (first | exact Nat.le_refl _ | omega | (simp; done) | (simp; omega)))) | (with_reducible refine Below.trans ?_ (Below.mono hbD ?_); rotate_left; (focus (first | exact Nat.le_refl _ | omega | (simp; done) | (simp; omega)))) | (with_reducible refine Below.trans ?_ (Below.mono hbC ?_); rotate_left; (focus (first | exact Nat.le_refl _ | omega | (simp; done) | (simp; omega)))) | (with_reducible refine Below.trans ?_ (Below.mono hbB ?_); rotate_left; (focus (first | exact Nat.le_refl _ | omega | (simp; done) | (simp; omega)))) | (with_reducible refine Below.trans ?_ (Below.mono hbA ?_); rotate_left; (focus (first | exact Nat.le_refl _ | omega | (simp; done) | (simp; omega))))))); have zC := KC.size; obtain ⟨hcC, hfC⟩ := bcell hbC; have qC := hbC.size; (try simp at qC); (first | (have yC0 : V.heap.size < wC.heap.size := (by omega)) | skip); (first | (have yC1 : wA.heap.size < wC.heap.size := (by omega)) | skip); (first | (have yC2 : wB.heap.size < wC.heap.size := (by omega)) | skip))) | (go_at_call 87; refine (onAxis_any _ m (.slice A4 n c4) R RA n 1 0 (OR.out.keep (by (repeat (first | with_reducible assumption | with_reducible exact Below.refl _ _ | (with_reducible refine Below.alloc ?_ ?_ _; rotate_left; (focus (first | exact Nat.le_refl _ | omega | (simp; done) | (simp; omega)))) | (with_reducible refine Below.setCell ?_ ?_ _; rotate_left; (focus (first | exact Nat.le_refl _ | omega | (simp; done) | (simp; omega)))) | with_reducible refine below_drew ?_ | with_reducible refine below_drewN ?_ _ | (with_reducible refine Below.trans ?_ (Below.mono hbE ?_); rotate_left; (focus (first | exact Nat.le_refl _ | omega | (simp; done) | (simp; omega)))) | (with_reducible refine Below.trans ?_ (Below.mono hbD ?_); rotate_left; (focus (first | exact Nat.le_refl _ | omega | (simp; done) | (simp; omega)))) | (with_reducible refine Below.trans ?_ (Below.mono hbC ?_); rotate_left; (focus (first | exact Nat.le_refl _ | omega | (simp; done) | (simp; omega)))) | (with_reducible refine Below.trans ?_ (Below.mono hbB ?_); rotate_left; (focus (first | exact Nat.le_refl _ | omega | (simp; done) | (simp; omega)))) | (with_reducible refine Below.trans ?_ (Below.mono hbA ?_); rotate_left; (focus (first | exact Nat.le_refl _ | omega | (simp; done) | (simp; omega))))))) (Nat.le_refl _)) HRL.out (by omega) (by omega) HRA.out).mono ?_; (rintro e wA ⟨AA, cA, rfl, oA, hbA⟩; rw [lRA.out] at oA ⊢; have OA := Lib.hid oA; clear oA; have KA : Below V.heap.size V wA := (by (repeat (first | with_reducible assumption | with_reducible exact Below.refl _ _ | (with_reducible refine Below.alloc ?_ ?_ _; rotate_left; (focus (first | exact Nat.le_refl _ | omega | (simp; done) | (simp; omega)))) | (with_reducible refine Below.setCell ?_ ?_ _; rotate_left; (focus (first | exact Nat.le_refl _ | omega | (simp; done) | (simp; omega)))) | with_reducible refine below_drew ?_ | with_reducible refine below_drewN ?_ _ | (with_reducible refine Below.trans ?_ (Below.mono hbE ?_); rotate_left; (focus (first | exact Nat.le_refl _ | omega | (simp; done) | (simp; omega)))) | (with_reducible refine Below.trans ?_ (Below.mono hbD ?_); rotate_left; (focus (first | exact Nat.le_refl _ | omega | (simp; done) | (simp; omega)))) | (with_reducible refine Below.trans ?_ (Below.mono hbC ?_); rotate_left; (focus (first | exact Nat.le_refl _ | omega | (simp; done) | (simp; omega)))) | (with_reducible refine Below.trans ?_ (Below.mono hbB ?_); rotate_left; (focus (first | exact Nat.le_refl _ | omega | (simp; done) | (simp; omega)))) | (with_reducible refine Below.trans ?_ (Below.mono hbA ?_); rotate_left; (focus (first | exact Nat.le_refl _ | omega | (simp; done) | (simp; omega))))))); have zA := KA.size; obtain ⟨hcA, hfA⟩ := bcell hbA; have qA := hbA.size; (try simp at qA); (first | (have yA0 : V.heap.size < wA.heap.size := (by omega)) | skip))) | (go_at_call 66; have _h := hbC; refine (pTimes_any _ m _ _ Y RB T2 n _ _ _ _ (OY.out.keep (by (repeat (first | with_reducible assumption | with_reducible exact Below.refl _ _ | (with_reducible refine Below.alloc ?_ ?_ _; rotate_left; (focus (first | exact Nat.le_refl _ | omega | (simp; done) | (simp; omega)))) | (with_reducible refine Below.setCell ?_ ?_ _; rotate_left; (focus (first | exact Nat.le_refl _ | omega | (simp; done) | (simp; omega)))) | with_reducible refine below_drew ?_ | with_reducible refine below_drewN ?_ _ | (with_reducible refine Below.trans ?_ (Below.mono hbE ?_); rotate_left; (focus (first | exact Nat.le_refl _ | omega | (simp; done) | (simp; omega)))) | (with_reducible refine Below.trans ?_ (Below.mono hbD ?_); rotate_left; (focus (first | exact Nat.le_refl _ | omega | (simp; done) | (simp; omega)))) | (with_reducible refine Below.trans ?_ (Below.mono hbC ?_); rotate_left; (focus (first | exact Nat.le_refl _ | omega | (simp; done) | (simp; omega)))) | (with_reducible refine Below.trans ?_ (Below.mono hbB ?_); rotate_left; (focus (first | exact Nat.le_refl _ | omega | (simp; done) | (simp; omega)))) | (with_reducible refine Below.trans ?_ (Below.mono hbA ?_); rotate_left; (focus (first | exact Nat.le_refl _ | omega | (simp; done) | (simp; omega)))))))) tY.out nY.out (OC.out.keep (by (repeat (first | with_reducible assumption | with_reducible exact Below.refl _ _ | (with_reducible refine Below.alloc ?_ ?_ _; rotate_left; (focus (first | exact Nat.le_refl _ | omega | (simp; done) | (simp; omega)))) | (with_reducible refine Below.setCell ?_ ?_ _; rotate_left; (focus (first | exact Nat.le_refl _ | omega | (simp; done) | (simp; omega)))) | with_reducible refine below_drew ?_ | with_reducible refine below_drewN ?_ _ | (with_reducible refine Below.trans ?_ (Below.mono hbE ?_); rotate_left; (focus (first | exact Nat.le_refl _ | omega | (simp; done) | (simp; omega)))) | (with_reducible refine Below.trans ?_ (Below.mono hbD ?_); rotate_left; (focus (first | exact Nat.le_refl _ | omega | (simp; done) | (simp; omega)))) | (with_reducible refine Below.trans ?_ (Below.mono hbC ?_); rotate_left; (focus (first | exact Nat.le_refl _ | omega | (simp; done) | (simp; omega)))) | (with_reducible refine Below.trans ?_ (Below.mono hbB ?_); rotate_left; (focus (first | exact Nat.le_refl _ | omega | (simp; done) | (simp; omega)))) | (with_reducible refine Below.trans ?_ (Below.mono hbA ?_); rotate_left; (focus (first | exact Nat.le_refl _ | omega | (simp; done) | (simp; omega)))))))) tRB.out nRB.out (by omega) (by omega) (by omega) (by omega) HT2.out).mono ?_; (rintro e wD ⟨AD, cD, rfl, oD, hbD⟩; rw [lT2.out] at oD ⊢; have OD := Lib.hid oD; clear oD; have KD : Below V.heap.size V wD := (by (repeat (first | with_reducible assumption | with_reducible exact Below.refl _ _ | (with_reducible refine Below.alloc ?_ ?_ _; rotate_left; (focus (first | exact Nat.le_refl _ | omega | (simp; done) | (simp; omega)))) | (with_reducible refine Below.setCell ?_ ?_ _; rotate_left; (focus (first | exact Nat.le_refl _ | omega | (simp; done) | (simp; omega)))) | with_reducible refine below_drew ?_ | with_reducible refine below_drewN ?_ _ | (with_reducible refine Below.trans ?_ (Below.mono hbE ?_); rotate_left; (focus (first | exact Nat.le_refl _ | omega | (simp; done) | (simp; omega)))) | (with_reducible refine Below.trans ?_ (Below.mono hbD ?_); rotate_left; (focus (first | exact Nat.le_refl _ | omega | (simp; done) | (simp; omega)))) | (with_reducible refine Below.trans ?_ (Below.mono hbC ?_); rotate_left; (focus (first | exact Nat.le_refl _ | omega | (simp; done) | (simp; omega)))) | (with_reducible refine Below.trans ?_ (Below.mono hbB ?_); rotate_left; (focus (first | exact Nat.le_refl _ | omega | (simp; done) | (simp; omega)))) | (with_reducible refine Below.trans ?_ (Below.mono hbA ?_); rotate_left; (focus (first | exact Nat.le_refl _ | omega | (simp; done) | (simp; omega))))))); have zD := KD.size; obtain ⟨hcD, hfD⟩ := bcell hbD; have qD := hbD.size; (try simp at qD); (first | (have yD0 : V.heap.size < wD.heap.size := (by omega)) | skip); (first | (have yD1 : wA.heap.size < wD.heap.size := (by omega)) | skip); (first | (have yD2 : wB.heap.size < wD.heap.size := (by omega)) | skip); (first | (have yD3 : wC.heap.size < wD.heap.size := (by omega)) | skip))) | (go_at_call 66; refine (pTimes_any _ m _ _ X RA T1 n _ _ _ _ (OX.out.keep (by (repeat (first | with_reducible assumption | with_reducible exact Below.refl _ _ | (with_reducible refine Below.alloc ?_ ?_ _; rotate_left; (focus (first | exact Nat.le_refl _ | omega | (simp; done) | (simp; omega)))) | (with_reducible refine Below.setCell ?_ ?_ _; rotate_left; (focus (first | exact Nat.le_refl _ | omega | (simp; done) | (simp; omega)))) | with_reducible refine below_drew ?_ | with_reducible refine below_drewN ?_ _ | (with_reducible refine Below.trans ?_ (Below.mono hbE ?_); rotate_left; (focus (first | exact Nat.le_refl _ | omega | (simp; done) | (simp; omega)))) | (with_reducible refine Below.trans ?_ (Below.mono hbD ?_); rotate_left; (focus (first | exact Nat.le_refl _ | omega | (simp; done) | (simp; omega)))) | (with_reducible refine Below.trans ?_ (Below.mono hbC ?_); rotate_left; (focus (first | exact Nat.le_refl _ | omega | (simp; done) | (simp; omega)))) | (with_reducible refine Below.trans ?_ (Below.mono hbB ?_); rotate_left; (focus (first | exact Nat.le_refl _ | omega | (simp; done) | (simp; omega)))) | (with_reducible refine Below.trans ?_ (Below.mono hbA ?_); rotate_left; (focus (first | exact Nat.le_refl _ | omega | (simp; done) | (simp; omega)))))))) tX.out nX.out (OA.out.keep (by (repeat (first | with_reducible assumption | with_reducible exact Below.refl _ _ | (with_reducible refine Below.alloc ?_ ?_ _; rotate_left; (focus (first | exact Nat.le_refl _ | omega | (simp; done) | (simp; omega)))) | (with_reducible refine Below.setCell ?_ ?_ _; rotate_left; (focus (first | exact Nat.le_refl _ | omega | (simp; done) | (simp; omega)))) | with_reducible refine below_drew ?_ | with_reducible refine below_drewN ?_ _ | (with_reducible refine Below.trans ?_ (Below.mono hbE ?_); rotate_left; (focus (first | exact Nat.le_refl _ | omega | (simp; done) | (simp; omega)))) | (with_reducible refine Below.trans ?_ (Below.mono hbD ?_); rotate_left; (focus (first | exact Nat.le_refl _ | omega | (simp; done) | (simp; omega)))) | (with_reducible refine Below.trans ?_ (Below.mono hbC ?_); rotate_left; (focus (first | exact Nat.le_refl _ | omega | (simp; done) | (simp; omega)))) | (with_reducible refine Below.trans ?_ (Below.mono hbB ?_); rotate_left; (focus (first | exact Nat.le_refl _ | omega | (simp; done) | (simp; omega)))) | (with_reducible refine Below.trans ?_ (Below.mono hbA ?_); rotate_left; (focus (first | exact Nat.le_refl _ | omega | (simp; done) | (simp; omega)))))))) tRA.out nRA.out (by omega) (by omega) (by omega) (by omega) HT1.out).mono ?_; (rintro e wB ⟨AB, cB, rfl, oB, hbB⟩; rw [lT1.out] at oB ⊢; have OB := Lib.hid oB; clear oB; have KB : Below V.heap.size V wB := (by (repeat (first | with_reducible assumption | with_reducible exact Below.refl _ _ | (with_reducible refine Below.alloc ?_ ?_ _; rotate_left; (focus (first | exact Nat.le_refl _ | omega | (simp; done) | (simp; omega)))) | (with_reducible refine Below.setCell ?_ ?_ _; rotate_left; (focus (first | exact Nat.le_refl _ | omega | (simp; done) | (simp; omega)))) | with_reducible refine below_drew ?_ | with_reducible refine below_drewN ?_ _ | (with_reducible refine Below.trans ?_ (Below.mono hbE ?_); rotate_left; (focus (first | exact Nat.le_refl _ | omega | (simp; done) | (simp; omega)))) | (with_reducible refine Below.trans ?_ (Below.mono hbD ?_); rotate_left; (focus (first | exact Nat.le_refl _ | omega | (simp; done) | (simp; omega)))) | (with_reducible refine Below.trans ?_ (Below.mono hbC ?_); rotate_left; (focus (first | exact Nat.le_refl _ | omega | (simp; done) | (simp; omega)))) | (with_reducible refine Below.trans ?_ (Below.mono hbB ?_); rotate_left; (focus (first | exact Nat.le_refl _ | omega | (simp; done) | (simp; omega)))) | (with_reducible refine Below.trans ?_ (Below.mono hbA ?_); rotate_left; (focus (first | exact Nat.le_refl _ | omega | (simp; done) | (simp; omega))))))); have zB := KB.size; obtain ⟨hcB, hfB⟩ := bcell hbB; have qB := hbB.size; (try simp at qB); (first | (have yB0 : V.heap.size < wB.heap.size := (by omega)) | skip); (first | (have yB1 : wA.heap.size < wB.heap.size := (by omega)) | skip))))
            all_goals
              go_wp2_with fail
              go_meet
              refine ⟨_, AE, cE, rfl, ?_, ?_, ?_, ?_⟩
              · (first | omega | (simp; done) | (simp; omega) | (right; omega) | (right; simp; done) | (right; simp; omega) | (left; omega) | (left; simp; done) | (left; simp; omega) | (simp [World.setCell]; done) | (simp [World.setCell]; omega))
              · unfold Hid
                (repeat (first | with_reducible assumption | with_reducible exact Bf.alloc1 _ _ _ _ | (with_reducible refine Bf.allocAt ?_; simp; done) | (with_reducible refine Bf.setCell ?_ ?_ _; rotate_left; (focus (first | (simp; done) | (simp; omega)))) | with_reducible refine Bf.store2 (x := .int .i64 0) (y := .slice none 0 0) ?_ | with_reducible refine Bf.alloc ?_ _ | with_reducible refine Bf.drew2 ?_ | with_reducible refine Bf.keep ?_ hbE | with_reducible refine Bf.keep ?_ hbD | with_reducible refine Bf.keep ?_ hbC | with_reducible refine Bf.keep ?_ hbB | with_reducible refine Bf.keep ?_ hbA))
              · unfold Hid
                apply OwnPx.ex
                apply Exists.intro
                apply Exists.intro
                apply And.intro
                · (repeat (first | with_reducible exact OE.out | with_reducible apply OwnP.far | with_reducible apply OwnP.alloc))
                  all_goals (first | omega | (simp; done) | (simp; omega) | (right; omega) | (right; simp; done) | (right; simp; omega) | (left; omega) | (left; simp; done) | (left; simp; omega) | (simp [World.setCell]; done) | (simp [World.setCell]; omega))
                · refine ⟨?_, ?_, ?_⟩ <;> (first | omega | (simp; done) | (simp; omega) | (right; omega) | (right; simp; done) | (right; simp; omega) | (left; omega) | (left; simp; done) | (left; simp; omega) | (simp [World.setCell]; done) | (simp [World.setCell]; omega))
              · unfold Hid
                (repeat (first | with_reducible assumption | with_reducible exact Below.refl _ _ | (with_reducible refine Below.alloc ?_ ?_ _; rotate_left; (focus (first | exact Nat.le_refl _ | omega | (simp; done) | (simp; omega)))) | (with_reducible refine Below.setCell ?_ ?_ _; rotate_left; (focus (first | exact Nat.le_refl _ | omega | (simp; done) | (simp; omega)))) | with_reducible refine below_drew ?_ | with_reducible refine below_drewN ?_ _ | (with_reducible refine Below.trans ?_ (Below.mono hbE ?_); rotate_left; (focus (first | exact Nat.le_refl _ | omega | (simp; done) | (simp; omega)))) | (with_reducible refine Below.trans ?_ (Below.mono hbD ?_); rotate_left; (focus (first | exact Nat.le_refl _ | omega | (simp; done) | (simp; omega)))) | (with_reducible refine Below.trans ?_ (Below.mono hbC ?_); rotate_left; (focus (first | exact Nat.le_refl _ | omega | (simp; done) | (simp; omega)))) | (with_reducible refine Below.trans ?_ (Below.mono hbB ?_); rotate_left; (focus (first | exact Nat.le_refl _ | omega | (simp; done) | (simp; omega)))) | (with_reducible refine Below.trans ?_ (Below.mono hbA ?_); rotate_left; (focus (first | exact Nat.le_refl _ | omega | (simp; done) | (simp; omega)))))) 
          case rest =>
            obtain ⟨bT, AT, cT, rfl, hbT, HTB, HTO, HK⟩ := hcut
            obtain ⟨loT, hiT, -, hxT, -, hto⟩ := HTO.out
            have OT := Lib.hid hto
            have SX2 := SX.keep HK.out
            have SY2 := SY.keep HK.out
            have PV2 := PV.keep HK.out
            have OX2 := Lib.hid (OX.out.keep HK.out)
            have OY2 := Lib.hid (OY.out.keep HK.out)
            have KV2 := KV.trans (HK.out.mono KV.size)
            have x1 := SX2.1.2.1
            have x2 := SX2.1.2.2
            have y1 := SY2.1.2.1
            have y2 := SY2.1.2.2
            have zVV : w.heap.size < V.heap.size := PV.1.1
            clear hto HTO SX SY SR PV OX OY OR sXa sXb sYa sYb sRa sRb zSX zSY zSR KV
            go_upto_region 15 with (go_at_call 66; refine (pTimes_any _ m _ _ X Y XY n _ _ _ _ OX2.out tX.out nX.out OY2.out tY.out nY.out (by omega) (by omega) (by omega) (by omega) HXY.out).mono ?_; rintro e w6 ⟨A7, c7, rfl, o7, hb7⟩; rw [lXY.out] at o7 ⊢; have o7 := Lib.hid o7)
            obtain ⟨bW, hbW⟩ : ∃ bW, bW = w6.heap.size := ⟨_, rfl⟩
            have z7 := hb7.size
            obtain ⟨U, hU⟩ : ∃ U, U = w6.alloc (.cells #[.int .i64 m, .slice A7 n c7] 24) := ⟨_, rfl⟩
            have PU : Bf U w.heap.size (.int .i64 0) (.slice none 0 0) := by rw [hU]; exact (PV2.keep hb7).alloc _
            have TX : Bf U bX (.int .i64 m) (.slice A5 n c5) := by rw [hU]; exact (SX2.keep hb7).alloc _
            have TT : Bf U bT (.int .i64 m) (.slice AT n cT) := by rw [hU]; exact (HTB.out.keep hb7).alloc _
            have TW : Bf U bW (.int .i64 m) (.slice A7 n c7) := by rw [hU, hbW]; exact Bf.alloc1 _ _ _ _
            have OXu : Hid (OwnP U (bR + 1) bX (.slice A5 n c5) X) := by unfold Hid; rw [hU]; exact (OX2.out.keep hb7).alloc _
            have OTu : Hid (OwnP U loT hiT (.slice AT n cT) TOP) := by unfold Hid; rw [hU]; exact (OT.out.keep hb7).alloc _
            have OWu : Hid (OwnP U wc.heap.size bW (.slice A7 n c7) XY) := by unfold Hid; rw [hU, hbW]; exact o7.out.alloc _
            have KU : Below w.heap.size w U := by rw [hU]; exact ((KV2.trans (hb7.mono KV2.size)).alloc (by have := KV2.size; omega) _)
            rw [← hbW, ← hU]
            have zU := KU.size
            have t1 := TT.1.2.1
            have t2 := TT.1.2.2
            have u1 := TX.1.2.1
            have u2 := TX.1.2.2
            have u3 := TW.1.2.1
            have u4 := TW.1.2.2
            have zT := TT.1.1
            have zW := TW.1.1
            have zP := PU.1.1
            have hT0 : w.heap.size < bT := by have := PV2.1.1; have := hbT; have := zVV; omega
            have hW0 : w.heap.size < bW := by have := PV2.1.1; omega
            clear SX2 SY2 PV2 OX2 OY2 KV2 x1 x2 y1 y2 hb7 o7 z7 HTB OT HK hbW hU
            go_region_held3 (fun w' => w'.cell? ⟨bT, 0, none⟩ = some (.int .i64 m) ∧ w'.cell? ⟨bT, 1, none⟩ = some (.slice AT n cT) ∧ w'.cell? ⟨bX, 0, none⟩ = some (.int .i64 m) ∧ w'.cell? ⟨bX, 1, none⟩ = some (.slice A5 n c5) ∧ w'.cell? ⟨bW, 0, none⟩ = some (.int .i64 m) ∧ w'.cell? ⟨bW, 1, none⟩ = some (.slice A7 n c7))
              (first | with_reducible exact ⟨t1, t2, u1, u2, u3, u4⟩ | exact ⟨cell_store2 d1 (by omega), cell_store2 d2 (by omega), cell_store2 d3 (by omega), cell_store2 d4 (by omega), cell_store2 d5 (by omega), cell_store2 d6 (by omega)⟩ | (refine (fun (h : Below U.heap.size U _) => ⟨(TT.keep h).1.2.1, (TT.keep h).1.2.2, (TX.keep h).1.2.1, (TX.keep h).1.2.2, (TW.keep h).1.2.1, (TW.keep h).1.2.2⟩) ?_; (repeat (first | with_reducible assumption | with_reducible exact Below.refl _ _ | (with_reducible refine Below.alloc ?_ ?_ _; rotate_left; (focus (first | exact Nat.le_refl _ | omega | (simp; done) | (simp; omega)))) | (with_reducible refine Below.setCell ?_ ?_ _; rotate_left; (focus (first | exact Nat.le_refl _ | omega | (simp; done) | (simp; omega)))) | with_reducible refine below_drew ?_ | with_reducible refine below_drewN ?_ _ | (with_reducible refine Below.trans ?_ (Below.mono hbM ?_); rotate_left; (focus (first | exact Nat.le_refl _ | omega | (simp; done) | (simp; omega)))) | (with_reducible refine Below.trans ?_ (Below.mono hbL ?_); rotate_left; (focus (first | exact Nat.le_refl _ | omega | (simp; done) | (simp; omega)))) | (with_reducible refine Below.trans ?_ (Below.mono hbK ?_); rotate_left; (focus (first | exact Nat.le_refl _ | omega | (simp; done) | (simp; omega)))) | (with_reducible refine Below.trans ?_ (Below.mono hbJ ?_); rotate_left; (focus (first | exact Nat.le_refl _ | omega | (simp; done) | (simp; omega)))) | (with_reducible refine Below.trans ?_ (Below.mono hbI ?_); rotate_left; (focus (first | exact Nat.le_refl _ | omega | (simp; done) | (simp; omega)))) | (with_reducible refine Below.trans ?_ (Below.mono hbH ?_); rotate_left; (focus (first | exact Nat.le_refl _ | omega | (simp; done) | (simp; omega)))))); done) | go_keep)
              (first | (go_at_call 66; have _h := hbL; refine (pTimes_any _ m _ _ TOP IV ys n _ _ _ _ (OTu.out.keep (by (repeat (first | with_reducible assumption | with_reducible exact Below.refl _ _ | (with_reducible refine Below.alloc ?_ ?_ _; rotate_left; (focus (first | exact Nat.le_refl _ | omega | (simp; done) | (simp; omega)))) | (with_reducible refine Below.setCell ?_ ?_ _; rotate_left; (focus (first | exact Nat.le_refl _ | omega | (simp; done) | (simp; omega)))) | with_reducible refine below_drew ?_ | with_reducible refine below_drewN ?_ _ | (with_reducible refine Below.trans ?_ (Below.mono hbM ?_); rotate_left; (focus (first | exact Nat.le_refl _ | omega | (simp; done) | (simp; omega)))) | (with_reducible refine Below.trans ?_ (Below.mono hbL ?_); rotate_left; (focus (first | exact Nat.le_refl _ | omega | (simp; done) | (simp; omega)))) | (with_reducible refine Below.trans ?_ (Below.mono hbK ?_); rotate_left; (focus (first | exact Nat.le_refl _ | omega | (simp; done) | (simp; omega)))) | (with_reducible refine Below.trans ?_ (Below.mono hbJ ?_); rotate_left; (focus (first | exact Nat.le_refl _ | omega | (simp; done) | (simp; omega)))) | (with_reducible refine Below.trans ?_ (Below.mono hbI ?_); rotate_left; (focus (first | exact Nat.le_refl _ | omega | (simp; done) | (simp; omega)))) | (with_reducible refine Below.trans ?_ (Below.mono hbH ?_); rotate_left; (focus (first | exact Nat.le_refl _ | omega | (simp; done) | (simp; omega)))))))) tTOP.out nTOP.out OL.out tIV.out nIV.out (by omega) (by omega) (by omega) (by omega) HFIN.out).mono ?_; (rintro e wM ⟨AM, cM, rfl, oM, hbM⟩; rw [HYL.out] at oM ⊢; have KM : Below U.heap.size U wM := (by (repeat (first | with_reducible assumption | with_reducible exact Below.refl _ _ | (with_reducible refine Below.alloc ?_ ?_ _; rotate_left; (focus (first | exact Nat.le_refl _ | omega | (simp; done) | (simp; omega)))) | (with_reducible refine Below.setCell ?_ ?_ _; rotate_left; (focus (first | exact Nat.le_refl _ | omega | (simp; done) | (simp; omega)))) | with_reducible refine below_drew ?_ | with_reducible refine below_drewN ?_ _ | (with_reducible refine Below.trans ?_ (Below.mono hbM ?_); rotate_left; (focus (first | exact Nat.le_refl _ | omega | (simp; done) | (simp; omega)))) | (with_reducible refine Below.trans ?_ (Below.mono hbL ?_); rotate_left; (focus (first | exact Nat.le_refl _ | omega | (simp; done) | (simp; omega)))) | (with_reducible refine Below.trans ?_ (Below.mono hbK ?_); rotate_left; (focus (first | exact Nat.le_refl _ | omega | (simp; done) | (simp; omega)))) | (with_reducible refine Below.trans ?_ (Below.mono hbJ ?_); rotate_left; (focus (first | exact Nat.le_refl _ | omega | (simp; done) | (simp; omega)))) | (with_reducible refine Below.trans ?_ (Below.mono hbI ?_); rotate_left; (focus (first | exact Nat.le_refl _ | omega | (simp; done) | (simp; omega)))) | (with_reducible refine Below.trans ?_ (Below.mono hbH ?_); rotate_left; (focus (first | exact Nat.le_refl _ | omega | (simp; done) | (simp; omega))))))); have zM := KM.size; have d1 := (TT.keep KM).1.2.1; have d2 := (TT.keep KM).1.2.2; have d3 := (TX.keep KM).1.2.1; have d4 := (TX.keep KM).1.2.2; have d5 := (TW.keep KM).1.2.1; have d6 := (TW.keep KM).1.2.2; have PD := PU.keep KM; have pDa := PD.1.2.1; have pDb := PD.1.2.2; have pDc := PD.2.1; have pDd := PD.2.2)) | (go_at_call 69; refine (inverted_any _ m (e0 % m) _ UN IV 2 n _ _ OK.out tUN.out nUN.out (by omega) (by omega) (by omega) (by omega) (by omega) HRE.out HIV.out).mono ?_; (rintro e wL ⟨AL, cL, rfl, oL, hbL⟩; rw [lIV.out] at oL ⊢; have OL := Lib.hid oL; clear oL; have KL : Below U.heap.size U wL := (by (repeat (first | with_reducible assumption | with_reducible exact Below.refl _ _ | (with_reducible refine Below.alloc ?_ ?_ _; rotate_left; (focus (first | exact Nat.le_refl _ | omega | (simp; done) | (simp; omega)))) | (with_reducible refine Below.setCell ?_ ?_ _; rotate_left; (focus (first | exact Nat.le_refl _ | omega | (simp; done) | (simp; omega)))) | with_reducible refine below_drew ?_ | with_reducible refine below_drewN ?_ _ | (with_reducible refine Below.trans ?_ (Below.mono hbM ?_); rotate_left; (focus (first | exact Nat.le_refl _ | omega | (simp; done) | (simp; omega)))) | (with_reducible refine Below.trans ?_ (Below.mono hbL ?_); rotate_left; (focus (first | exact Nat.le_refl _ | omega | (simp; done) | (simp; omega)))) | (with_reducible refine Below.trans ?_ (Below.mono hbK ?_); rotate_left; (focus (first | exact Nat.le_refl _ | omega | (simp; done) | (simp; omega)))) | (with_reducible refine Below.trans ?_ (Below.mono hbJ ?_); rotate_left; (focus (first | exact Nat.le_refl _ | omega | (simp; done) | (simp; omega)))) | (with_reducible refine Below.trans ?_ (Below.mono hbI ?_); rotate_left; (focus (first | exact Nat.le_refl _ | omega | (simp; done) | (simp; omega)))) | (with_reducible refine Below.trans ?_ (Below.mono hbH ?_); rotate_left; (focus (first | exact Nat.le_refl _ | omega | (simp; done) | (simp; omega))))))); have zL := KL.size)) | (go_at_call 88; refine (pMinus_any _ m _ _ ON SC UN n _ _ _ _ ONJ.out tON.out nON.out OJ.out tSC.out nSC.out (by omega) (by omega) (by omega) (by omega) HUN.out).mono ?_; (rintro e wK ⟨AK, cK, rfl, oK, hbK⟩; rw [lUN.out] at oK ⊢; have OK := Lib.hid oK; clear oK; have KK : Below U.heap.size U wK := (by (repeat (first | with_reducible assumption | with_reducible exact Below.refl _ _ | (with_reducible refine Below.alloc ?_ ?_ _; rotate_left; (focus (first | exact Nat.le_refl _ | omega | (simp; done) | (simp; omega)))) | (with_reducible refine Below.setCell ?_ ?_ _; rotate_left; (focus (first | exact Nat.le_refl _ | omega | (simp; done) | (simp; omega)))) | with_reducible refine below_drew ?_ | with_reducible refine below_drewN ?_ _ | (with_reducible refine Below.trans ?_ (Below.mono hbM ?_); rotate_left; (focus (first | exact Nat.le_refl _ | omega | (simp; done) | (simp; omega)))) | (with_reducible refine Below.trans ?_ (Below.mono hbL ?_); rotate_left; (focus (first | exact Nat.le_refl _ | omega | (simp; done) | (simp; omega)))) | (with_reducible refine Below.trans ?_ (Below.mono hbK ?_); rotate_left; (focus (first | exact Nat.le_refl _ | omega | (simp; done) | (simp; omega)))) | (with_reducible refine Below.trans ?_ (Below.mono hbJ ?_); rotate_left; (focus (first | exact Nat.le_refl _ | omega | (simp; done) | (simp; omega)))) | (with_reducible refine Below.trans ?_ (Below.mono hbI ?_); rotate_left; (focus (first | exact Nat.le_refl _ | omega | (simp; done) | (simp; omega)))) | (with_reducible refine Below.trans ?_ (Below.mono hbH ?_); rotate_left; (focus (first | exact Nat.le_refl _ | omega | (simp; done) | (simp; omega))))))); have zK := KK.size)) | (go_at_call 68; refine (pScaled_any _ m e0 _ X2 SC n _ _ OI.out tX2.out nX2.out (by omega) (by omega) (by omega) (by omega) HSC.out).mono ?_; (rintro e wJ ⟨AJ, cJ, rfl, oJ, hbJ⟩; rw [lSC.out] at oJ ⊢; have OJ := Lib.hid oJ; clear oJ; have KJ : Below U.heap.size U wJ := (by (repeat (first | with_reducible assumption | with_reducible exact Below.refl _ _ | (with_reducible refine Below.alloc ?_ ?_ _; rotate_left; (focus (first | exact Nat.le_refl _ | omega | (simp; done) | (simp; omega)))) | (with_reducible refine Below.setCell ?_ ?_ _; rotate_left; (focus (first | exact Nat.le_refl _ | omega | (simp; done) | (simp; omega)))) | with_reducible refine below_drew ?_ | with_reducible refine below_drewN ?_ _ | (with_reducible refine Below.trans ?_ (Below.mono hbM ?_); rotate_left; (focus (first | exact Nat.le_refl _ | omega | (simp; done) | (simp; omega)))) | (with_reducible refine Below.trans ?_ (Below.mono hbL ?_); rotate_left; (focus (first | exact Nat.le_refl _ | omega | (simp; done) | (simp; omega)))) | (with_reducible refine Below.trans ?_ (Below.mono hbK ?_); rotate_left; (focus (first | exact Nat.le_refl _ | omega | (simp; done) | (simp; omega)))) | (with_reducible refine Below.trans ?_ (Below.mono hbJ ?_); rotate_left; (focus (first | exact Nat.le_refl _ | omega | (simp; done) | (simp; omega)))) | (with_reducible refine Below.trans ?_ (Below.mono hbI ?_); rotate_left; (focus (first | exact Nat.le_refl _ | omega | (simp; done) | (simp; omega)))) | (with_reducible refine Below.trans ?_ (Below.mono hbH ?_); rotate_left; (focus (first | exact Nat.le_refl _ | omega | (simp; done) | (simp; omega))))))); have zJ := KJ.size; have ONJ := Lib.hid (ONI.out.keep hbJ))) | (go_at_call 66; refine (pTimes_any _ m _ _ XY XY X2 n _ _ _ _ (OWu.out.keep (by (repeat (first | with_reducible assumption | with_reducible exact Below.refl _ _ | (with_reducible refine Below.alloc ?_ ?_ _; rotate_left; (focus (first | exact Nat.le_refl _ | omega | (simp; done) | (simp; omega)))) | (with_reducible refine Below.setCell ?_ ?_ _; rotate_left; (focus (first | exact Nat.le_refl _ | omega | (simp; done) | (simp; omega)))) | with_reducible refine below_drew ?_ | with_reducible refine below_drewN ?_ _ | (with_reducible refine Below.trans ?_ (Below.mono hbM ?_); rotate_left; (focus (first | exact Nat.le_refl _ | omega | (simp; done) | (simp; omega)))) | (with_reducible refine Below.trans ?_ (Below.mono hbL ?_); rotate_left; (focus (first | exact Nat.le_refl _ | omega | (simp; done) | (simp; omega)))) | (with_reducible refine Below.trans ?_ (Below.mono hbK ?_); rotate_left; (focus (first | exact Nat.le_refl _ | omega | (simp; done) | (simp; omega)))) | (with_reducible refine Below.trans ?_ (Below.mono hbJ ?_); rotate_left; (focus (first | exact Nat.le_refl _ | omega | (simp; done) | (simp; omega)))) | (with_reducible refine Below.trans ?_ (Below.mono hbI ?_); rotate_left; (focus (first | exact Nat.le_refl _ | omega | (simp; done) | (simp; omega)))) | (with_reducible refine Below.trans ?_ (Below.mono hbH ?_); rotate_left; (focus (first | exact Nat.le_refl _ | omega | (simp; done) | (simp; omega)))))))) tXY.out nXY.out (OWu.out.keep (by (repeat (first | with_reducible assumption | with_reducible exact Below.refl _ _ | (with_reducible refine Below.alloc ?_ ?_ _; rotate_left; (focus (first | exact Nat.le_refl _ | omega | (simp; done) | (simp; omega)))) | (with_reducible refine Below.setCell ?_ ?_ _; rotate_left; (focus (first | exact Nat.le_refl _ | omega | (simp; done) | (simp; omega)))) | with_reducible refine below_drew ?_ | with_reducible refine below_drewN ?_ _ | (with_reducible refine Below.trans ?_ (Below.mono hbM ?_); rotate_left; (focus (first | exact Nat.le_refl _ | omega | (simp; done) | (simp; omega)))) | (with_reducible refine Below.trans ?_ (Below.mono hbL ?_); rotate_left; (focus (first | exact Nat.le_refl _ | omega | (simp; done) | (simp; omega)))) | (with_reducible refine Below.trans ?_ (Below.mono hbK ?_); rotate_left; (focus (first | exact Nat.le_refl _ | omega | (simp; done) | (simp; omega)))) | (with_reducible refine Below.trans ?_ (Below.mono hbJ ?_); rotate_left; (focus (first | exact Nat.le_refl _ | omega | (simp; done) | (simp; omega)))) | (with_reducible refine Below.trans ?_ (Below.mono hbI ?_); rotate_left; (focus (first | exact Nat.le_refl _ | omega | (simp; done) | (simp; omega)))) | (with_reducible refine Below.trans ?_ (Below.mono hbH ?_); rotate_left; (focus (first | exact Nat.le_refl _ | omega | (simp; done) | (simp; omega)))))))) tXY.out nXY.out (by omega) (by omega) (by omega) (by omega) HX2.out).mono ?_; (rintro e wI ⟨AI, cI, rfl, oI, hbI⟩; rw [lX2.out] at oI ⊢; have OI := Lib.hid oI; clear oI; have KI : Below U.heap.size U wI := (by (repeat (first | with_reducible assumption | with_reducible exact Below.refl _ _ | (with_reducible refine Below.alloc ?_ ?_ _; rotate_left; (focus (first | exact Nat.le_refl _ | omega | (simp; done) | (simp; omega)))) | (with_reducible refine Below.setCell ?_ ?_ _; rotate_left; (focus (first | exact Nat.le_refl _ | omega | (simp; done) | (simp; omega)))) | with_reducible refine below_drew ?_ | with_reducible refine below_drewN ?_ _ | (with_reducible refine Below.trans ?_ (Below.mono hbM ?_); rotate_left; (focus (first | exact Nat.le_refl _ | omega | (simp; done) | (simp; omega)))) | (with_reducible refine Below.trans ?_ (Below.mono hbL ?_); rotate_left; (focus (first | exact Nat.le_refl _ | omega | (simp; done) | (simp; omega)))) | (with_reducible refine Below.trans ?_ (Below.mono hbK ?_); rotate_left; (focus (first | exact Nat.le_refl _ | omega | (simp; done) | (simp; omega)))) | (with_reducible refine Below.trans ?_ (Below.mono hbJ ?_); rotate_left; (focus (first | exact Nat.le_refl _ | omega | (simp; done) | (simp; omega)))) | (with_reducible refine Below.trans ?_ (Below.mono hbI ?_); rotate_left; (focus (first | exact Nat.le_refl _ | omega | (simp; done) | (simp; omega)))) | (with_reducible refine Below.trans ?_ (Below.mono hbH ?_); rotate_left; (focus (first | exact Nat.le_refl _ | omega | (simp; done) | (simp; omega))))))); have zI := KI.size; have ONI := Lib.hid (OH.out.keep hbI))) | (go_at_call 67; refine (number_any _ m _ X ON 1 n _ _ (OXu.out.keep (by (repeat (first | with_reducible assumption | with_reducible exact Below.refl _ _ | (with_reducible refine Below.alloc ?_ ?_ _; rotate_left; (focus (first | exact Nat.le_refl _ | omega | (simp; done) | (simp; omega)))) | (with_reducible refine Below.setCell ?_ ?_ _; rotate_left; (focus (first | exact Nat.le_refl _ | omega | (simp; done) | (simp; omega)))) | with_reducible refine below_drew ?_ | with_reducible refine below_drewN ?_ _ | (with_reducible refine Below.trans ?_ (Below.mono hbM ?_); rotate_left; (focus (first | exact Nat.le_refl _ | omega | (simp; done) | (simp; omega)))) | (with_reducible refine Below.trans ?_ (Below.mono hbL ?_); rotate_left; (focus (first | exact Nat.le_refl _ | omega | (simp; done) | (simp; omega)))) | (with_reducible refine Below.trans ?_ (Below.mono hbK ?_); rotate_left; (focus (first | exact Nat.le_refl _ | omega | (simp; done) | (simp; omega)))) | (with_reducible refine Below.trans ?_ (Below.mono hbJ ?_); rotate_left; (focus (first | exact Nat.le_refl _ | omega | (simp; done) | (simp; omega)))) | (with_reducible refine Below.trans ?_ (Below.mono hbI ?_); rotate_left; (focus (first | exact Nat.le_refl _ | omega | (simp; done) | (simp; omega)))) | (with_reducible refine Below.trans ?_ (Below.mono hbH ?_); rotate_left; (focus (first | exact Nat.le_refl _ | omega | (simp; done) | (simp; omega)))))))) lX.out (by omega) (by omega) (by omega) (by omega) HON.out).mono ?_; (rintro e wH ⟨AH, cH, rfl, oH, hbH⟩; rw [lON.out] at oH ⊢; have OH := Lib.hid oH; clear oH; have KH : Below U.heap.size U wH := (by (repeat (first | with_reducible assumption | with_reducible exact Below.refl _ _ | (with_reducible refine Below.alloc ?_ ?_ _; rotate_left; (focus (first | exact Nat.le_refl _ | omega | (simp; done) | (simp; omega)))) | (with_reducible refine Below.setCell ?_ ?_ _; rotate_left; (focus (first | exact Nat.le_refl _ | omega | (simp; done) | (simp; omega)))) | with_reducible refine below_drew ?_ | with_reducible refine below_drewN ?_ _ | (with_reducible refine Below.trans ?_ (Below.mono hbM ?_); rotate_left; (focus (first | exact Nat.le_refl _ | omega | (simp; done) | (simp; omega)))) | (with_reducible refine Below.trans ?_ (Below.mono hbL ?_); rotate_left; (focus (first | exact Nat.le_refl _ | omega | (simp; done) | (simp; omega)))) | (with_reducible refine Below.trans ?_ (Below.mono hbK ?_); rotate_left; (focus (first | exact Nat.le_refl _ | omega | (simp; done) | (simp; omega)))) | (with_reducible refine Below.trans ?_ (Below.mono hbJ ?_); rotate_left; (focus (first | exact Nat.le_refl _ | omega | (simp; done) | (simp; omega)))) | (with_reducible refine Below.trans ?_ (Below.mono hbI ?_); rotate_left; (focus (first | exact Nat.le_refl _ | omega | (simp; done) | (simp; omega)))) | (with_reducible refine Below.trans ?_ (Below.mono hbH ?_); rotate_left; (focus (first | exact Nat.le_refl _ | omega | (simp; done) | (simp; omega))))))); have zH := KH.size)))
            all_goals
              go_wp2
              exact bodyPost_ret (v := .tuple #[.agg #[.int .i64 m, .slice AM n cM], .int .i64 0]) (by simp [results, Try.results21, go_sem, pDa, pDb]) rfl (RetPI.mk (oM.far2 (.inl (by omega))) HYL.out (by omega) (((KU.trans (KM.mono (by omega))).setCell (by simp) _).setCell (by simp) _))
    · have HF : EulerLawR m d a0 e0 = ((0, []), 5) := by simp [EulerLawR, hs, hm2]
      rw [HF]
      clear HF hs
      go_enter Try.func21, Try.ntmps21
      go_wp2_with (go_at_call 63; refine (standard_any m _ _ _ [a0, e0] (w.heap.size + 1) HL1.out).mono ?_; rintro e w1 ⟨rfl, hb1⟩; rw [HS.out]; have P1 : Bf w1 w.heap.size (.int .i64 0) (.slice none 0 0) := ((Bf.alloc1 w _ _ _).alloc _).keep hb1; have K1 : Below w.heap.size w w1 := Below.trans (by (repeat (first | assumption | exact Below.refl _ _ | refine Below.alloc ?_ (by first | omega | (simp; done) | (simp; omega)) _ | refine Below.setCell ?_ (by first | omega | (simp; done) | (simp; omega)) _ | refine below_drewN ?_ _))) (hb1.mono (by simp; omega)); have p1a := P1.1.2.1; have p1b := P1.1.2.2; have p1c := P1.2.1; have p1d := P1.2.2; have z1 := P1.1.1)
      exact bodyPost_ret (v := .tuple #[.agg #[.int .i64 0, .slice none 0 0], .int .i64 5]) (by simp [results, Try.results21, go_sem, p1a, p1b]) rfl (RetPI.zero ((K1.setCell (by simp) _).setCell (by simp) _))

/-! ### The laws' walks, printed by genlaw2.py -/
set_option maxHeartbeats 4000000 in
theorem FnExactEulerLaw_walk (w : World) (a0 : Int) (a1 : Int) (a2 : Int) (a3 : Int) : Calls Try.prog 6 #[.int .i64 a0, .int .i64 a1, .int .i64 a2, .int .i64 a3] w fun e w' => e = .returned (.bool true) ∧ Below w.heap.size w w' := by
  obtain ⟨r0, HR⟩ : ∃ r0, Hid (EulerLawR a0 a1 a2 a3 = r0) := ⟨_, rfl⟩
  obtain ⟨⟨rm, rl⟩, rc⟩ := r0
  have hlen := EulerLawR_len a0 a1 a2 a3
  rw [HR.out] at hlen
  simp only at hlen
  go_enter Try.func6, Try.ntmps6
  go_wp2_with fail
  refine (sEulerLawR_any _ a0 a1 a2 a3).mono ?_
  rintro e w1 h_r
  replace h_r := h_r.of HR
  obtain ⟨A_ow, c_ow, rfl, o_ow, hb1⟩ := h_r
  have o_ow' := (o_ow).mono (show w.heap.size ≤ _ from by first | exact Nat.le_refl _ | (simp; done) | (simp; omega)) (Nat.le_refl _)
  clear o_ow
  have R : Below w.heap.size w w1 := Below.trans (by (repeat (first | assumption | exact Below.refl _ _ | refine Below.alloc ?_ (by first | omega | (simp; done) | (simp; omega)) _ | refine Below.setCell ?_ (by first | omega | (simp; done) | (simp; omega)) _ | refine below_drewN ?_ _))) (hb1.mono (by first | exact Nat.le_refl _ | (simp; done) | (simp; omega)))
  have s1 : w.heap.size ≤ w1.heap.size := R.size
  have K1 : Hid (Below w.heap.size w w1) := R
  clear R hb1
  have ow : Hid (OwnP w1 w.heap.size w1.heap.size (.slice A_ow rl.length c_ow) rl) := o_ow'
  clear o_ow'
  go_wp2_with fail
  refine (iEulerLawR_any _ a0 a1 a2 a3).mono ?_
  rintro e w2 h_r
  replace h_r := h_r.of HR
  obtain ⟨A_og, c_og, rfl, o_og, hb2⟩ := h_r
  have o_og' := (o_og).mono (show (w1.heap.size + 1) ≤ _ from by first | exact Nat.le_refl _ | (simp; done) | (simp; omega)) (Nat.le_refl _)
  clear o_og
  have R : Below w1.heap.size w1 w2 := Below.trans (by (repeat (first | assumption | exact Below.refl _ _ | refine Below.alloc ?_ (by first | omega | (simp; done) | (simp; omega)) _ | refine Below.setCell ?_ (by first | omega | (simp; done) | (simp; omega)) _ | refine below_drewN ?_ _))) (hb2.mono (by first | exact Nat.le_refl _ | (simp; done) | (simp; omega)))
  have s2 : w1.heap.size ≤ w2.heap.size := R.size
  have K2 : Hid (Below w.heap.size w w2) := K1.out.trans (R.mono (by omega))
  replace ow : Hid (OwnP w2 w.heap.size w1.heap.size (.slice A_ow rl.length c_ow) rl) := ow.out.keep R
  have bw : Hid (Bx w2 w1.heap.size (.int .i64 rm) (.slice A_ow rl.length c_ow)) := ⟨by have := hb2.size; simp at this; omega, by rw [hb2.cell (by first | (simp; done) | (simp; omega))]; simp, by rw [hb2.cell (by first | (simp; done) | (simp; omega))]; simp⟩
  clear R hb2
  have og : Hid (OwnP w2 (w1.heap.size + 1) w2.heap.size (.slice A_og rl.length c_og) rl) := o_og'
  clear o_og'
  have bw_c := bw.out.2.1
  have bw_d := bw.out.2.2
  have bw_z := bw.out.1
  go_wp2_with fail
  refine (eqP_any _ rm rm _ _ _ _ (og.out.keep (by (repeat (first | assumption | exact Below.refl _ _ | refine Below.alloc ?_ (by first | omega | (simp; done) | (simp; omega)) _ | refine Below.setCell ?_ (by first | omega | (simp; done) | (simp; omega)) _ | refine below_drewN ?_ _)))).rd (ow.out.keep (by (repeat (first | assumption | exact Below.refl _ _ | refine Below.alloc ?_ (by first | omega | (simp; done) | (simp; omega)) _ | refine Below.setCell ?_ (by first | omega | (simp; done) | (simp; omega)) _ | refine below_drewN ?_ _)))).rd).mono ?_
  rintro e w3 ⟨rfl, hb3⟩
  clear bw_c bw_d bw_z
  have R : Below w2.heap.size w2 w3 := Below.trans (by (repeat (first | assumption | exact Below.refl _ _ | refine Below.alloc ?_ (by first | omega | (simp; done) | (simp; omega)) _ | refine Below.setCell ?_ (by first | omega | (simp; done) | (simp; omega)) _ | refine below_drewN ?_ _))) (hb3.mono (by first | exact Nat.le_refl _ | (simp; done) | (simp; omega)))
  have s3 : w2.heap.size ≤ w3.heap.size := R.size
  have K3 : Hid (Below w.heap.size w w3) := K2.out.trans (R.mono (by omega))
  replace bw : Hid (Bx w3 w1.heap.size (.int .i64 rm) (.slice A_ow rl.length c_ow)) := bw.out.keep R
  replace ow : Hid (OwnP w3 w.heap.size w1.heap.size (.slice A_ow rl.length c_ow) rl) := ow.out.keep R
  replace og : Hid (OwnP w3 (w1.heap.size + 1) w2.heap.size (.slice A_og rl.length c_og) rl) := og.out.keep R
  have bg : Hid (Bx w3 w2.heap.size (.int .i64 rm) (.slice A_og rl.length c_og)) := ⟨by have := hb3.size; simp at this; omega, by rw [hb3.cell (by first | (simp; done) | (simp; omega))]; simp, by rw [hb3.cell (by first | (simp; done) | (simp; omega))]; simp⟩
  clear R hb3
  have bw_c := bw.out.2.1
  have bw_d := bw.out.2.2
  have bw_z := bw.out.1
  have bg_c := bg.out.2.1
  have bg_d := bg.out.2.2
  have bg_z := bg.out.1
  go_wp2_with fail
  refine (markPB_any _ (w1.heap.size + 1) w2.heap.size rm _ rl (1) (og.out.keep (by (repeat (first | assumption | exact Below.refl _ _ | refine Below.alloc ?_ (by first | omega | (simp; done) | (simp; omega)) _ | refine Below.setCell ?_ (by first | omega | (simp; done) | (simp; omega)) _ | refine below_drewN ?_ _)))) (by omega) (by omega) (by omega)).mono ?_
  rintro e w4 ⟨rfl, o_m, hg4⟩
  clear bw_c bw_d bw_z
  clear bg_c bg_d bg_z
  have R : Within (w1.heap.size + 1) w2.heap.size w3 w4 := Within.behind (by (repeat (first | assumption | exact Below.refl _ _ | refine Below.alloc ?_ (by first | omega | (simp; done) | (simp; omega)) _ | refine Below.setCell ?_ (by first | omega | (simp; done) | (simp; omega)) _ | refine below_drewN ?_ _))) hg4
  have s4 : w3.heap.size ≤ w4.heap.size := R.2.2.2.1
  have K4 : Hid (Below w.heap.size w w4) := R.below K3.out (by omega) (by omega)
  replace bw : Hid (Bx w4 w1.heap.size (.int .i64 rm) (.slice A_ow rl.length c_ow)) := bw.out.within R (by omega)
  replace bg : Hid (Bx w4 w2.heap.size (.int .i64 rm) (.slice A_og rl.length c_og)) := bg.out.within R (by omega)
  replace ow : Hid (OwnP w4 w.heap.size w1.heap.size (.slice A_ow rl.length c_ow) rl) := ow.out.within R (by omega)
  clear R hg4
  replace og : Hid (OwnP w4 (w1.heap.size + 1) w2.heap.size (.slice A_og rl.length c_og) (mkP (1) rl)) := o_m
  clear o_m
  have bw_c := bw.out.2.1
  have bw_d := bw.out.2.2
  have bw_z := bw.out.1
  have bg_c := bg.out.2.1
  have bg_d := bg.out.2.2
  have bg_z := bg.out.1
  go_wp2_with fail
  refine (heldPB_any _ (w1.heap.size + 1) w2.heap.size rm _ rl (1) (og.out.keep (by (repeat (first | assumption | exact Below.refl _ _ | refine Below.alloc ?_ (by first | omega | (simp; done) | (simp; omega)) _ | refine Below.setCell ?_ (by first | omega | (simp; done) | (simp; omega)) _ | refine below_drewN ?_ _)))) (by omega) (by omega) (by omega)).mono ?_
  rintro e w5 ⟨rfl, hb5⟩
  clear bw_c bw_d bw_z
  clear bg_c bg_d bg_z
  have R : Below w4.heap.size w4 w5 := Below.trans (by (repeat (first | assumption | exact Below.refl _ _ | refine Below.alloc ?_ (by first | omega | (simp; done) | (simp; omega)) _ | refine Below.setCell ?_ (by first | omega | (simp; done) | (simp; omega)) _ | refine below_drewN ?_ _))) (hb5.mono (by first | exact Nat.le_refl _ | (simp; done) | (simp; omega)))
  have s5 : w4.heap.size ≤ w5.heap.size := R.size
  have K5 : Hid (Below w.heap.size w w5) := K4.out.trans (R.mono (by omega))
  replace bw : Hid (Bx w5 w1.heap.size (.int .i64 rm) (.slice A_ow rl.length c_ow)) := bw.out.keep R
  replace bg : Hid (Bx w5 w2.heap.size (.int .i64 rm) (.slice A_og rl.length c_og)) := bg.out.keep R
  replace ow : Hid (OwnP w5 w.heap.size w1.heap.size (.slice A_ow rl.length c_ow) rl) := ow.out.keep R
  replace og : Hid (OwnP w5 (w1.heap.size + 1) w2.heap.size (.slice A_og rl.length c_og) (mkP (1) rl)) := og.out.keep R
  clear R hb5
  have bw_c := bw.out.2.1
  have bw_d := bw.out.2.2
  have bw_z := bw.out.1
  have bg_c := bg.out.2.1
  have bg_d := bg.out.2.2
  have bg_z := bg.out.1
  go_wp2_with fail
  refine (iEulerLawR_any _ a0 a1 a2 a3).mono ?_
  rintro e w6 h_r
  replace h_r := h_r.of HR
  obtain ⟨A_oh, c_oh, rfl, o_oh, hb6⟩ := h_r
  have o_oh' := (o_oh).mono (show w5.heap.size ≤ _ from by first | exact Nat.le_refl _ | (simp; done) | (simp; omega)) (Nat.le_refl _)
  clear o_oh
  clear bw_c bw_d bw_z
  clear bg_c bg_d bg_z
  have R : Below w5.heap.size w5 w6 := Below.trans (by (repeat (first | assumption | exact Below.refl _ _ | refine Below.alloc ?_ (by first | omega | (simp; done) | (simp; omega)) _ | refine Below.setCell ?_ (by first | omega | (simp; done) | (simp; omega)) _ | refine below_drewN ?_ _))) (hb6.mono (by first | exact Nat.le_refl _ | (simp; done) | (simp; omega)))
  have s6 : w5.heap.size ≤ w6.heap.size := R.size
  have K6 : Hid (Below w.heap.size w w6) := K5.out.trans (R.mono (by omega))
  replace bw : Hid (Bx w6 w1.heap.size (.int .i64 rm) (.slice A_ow rl.length c_ow)) := bw.out.keep R
  replace bg : Hid (Bx w6 w2.heap.size (.int .i64 rm) (.slice A_og rl.length c_og)) := bg.out.keep R
  replace ow : Hid (OwnP w6 w.heap.size w1.heap.size (.slice A_ow rl.length c_ow) rl) := ow.out.keep R
  replace og : Hid (OwnP w6 (w1.heap.size + 1) w2.heap.size (.slice A_og rl.length c_og) (mkP (1) rl)) := og.out.keep R
  clear R hb6
  have oh : Hid (OwnP w6 w5.heap.size w6.heap.size (.slice A_oh rl.length c_oh) rl) := o_oh'
  clear o_oh'
  have bw_c := bw.out.2.1
  have bw_d := bw.out.2.2
  have bw_z := bw.out.1
  have bg_c := bg.out.2.1
  have bg_d := bg.out.2.2
  have bg_z := bg.out.1
  go_wp2_with fail
  refine (eqP_any _ rm rm _ _ _ _ (oh.out.keep (by (repeat (first | assumption | exact Below.refl _ _ | refine Below.alloc ?_ (by first | omega | (simp; done) | (simp; omega)) _ | refine Below.setCell ?_ (by first | omega | (simp; done) | (simp; omega)) _ | refine below_drewN ?_ _)))).rd (ow.out.keep (by (repeat (first | assumption | exact Below.refl _ _ | refine Below.alloc ?_ (by first | omega | (simp; done) | (simp; omega)) _ | refine Below.setCell ?_ (by first | omega | (simp; done) | (simp; omega)) _ | refine below_drewN ?_ _)))).rd).mono ?_
  rintro e w7 ⟨rfl, hb7⟩
  clear bw_c bw_d bw_z
  clear bg_c bg_d bg_z
  have R : Below w6.heap.size w6 w7 := Below.trans (by (repeat (first | assumption | exact Below.refl _ _ | refine Below.alloc ?_ (by first | omega | (simp; done) | (simp; omega)) _ | refine Below.setCell ?_ (by first | omega | (simp; done) | (simp; omega)) _ | refine below_drewN ?_ _))) (hb7.mono (by first | exact Nat.le_refl _ | (simp; done) | (simp; omega)))
  have s7 : w6.heap.size ≤ w7.heap.size := R.size
  have K7 : Hid (Below w.heap.size w w7) := K6.out.trans (R.mono (by omega))
  replace bw : Hid (Bx w7 w1.heap.size (.int .i64 rm) (.slice A_ow rl.length c_ow)) := bw.out.keep R
  replace bg : Hid (Bx w7 w2.heap.size (.int .i64 rm) (.slice A_og rl.length c_og)) := bg.out.keep R
  replace ow : Hid (OwnP w7 w.heap.size w1.heap.size (.slice A_ow rl.length c_ow) rl) := ow.out.keep R
  replace og : Hid (OwnP w7 (w1.heap.size + 1) w2.heap.size (.slice A_og rl.length c_og) (mkP (1) rl)) := og.out.keep R
  replace oh : Hid (OwnP w7 w5.heap.size w6.heap.size (.slice A_oh rl.length c_oh) rl) := oh.out.keep R
  have bh : Hid (Bx w7 w6.heap.size (.int .i64 rm) (.slice A_oh rl.length c_oh)) := ⟨by have := hb7.size; simp at this; omega, by rw [hb7.cell (by first | (simp; done) | (simp; omega))]; simp, by rw [hb7.cell (by first | (simp; done) | (simp; omega))]; simp⟩
  clear R hb7
  have bw_c := bw.out.2.1
  have bw_d := bw.out.2.2
  have bw_z := bw.out.1
  have bg_c := bg.out.2.1
  have bg_d := bg.out.2.2
  have bg_z := bg.out.1
  have bh_c := bh.out.2.1
  have bh_d := bh.out.2.2
  have bh_z := bh.out.1
  go_wp2_with fail
  refine (heldPB_any _ (w1.heap.size + 1) w2.heap.size rm _ rl (1) (og.out.keep (by (repeat (first | assumption | exact Below.refl _ _ | refine Below.alloc ?_ (by first | omega | (simp; done) | (simp; omega)) _ | refine Below.setCell ?_ (by first | omega | (simp; done) | (simp; omega)) _ | refine below_drewN ?_ _)))) (by omega) (by omega) (by omega)).mono ?_
  rintro e w8 ⟨rfl, hb8⟩
  clear bw_c bw_d bw_z
  clear bg_c bg_d bg_z
  clear bh_c bh_d bh_z
  have R : Below w7.heap.size w7 w8 := Below.trans (by (repeat (first | assumption | exact Below.refl _ _ | refine Below.alloc ?_ (by first | omega | (simp; done) | (simp; omega)) _ | refine Below.setCell ?_ (by first | omega | (simp; done) | (simp; omega)) _ | refine below_drewN ?_ _))) (hb8.mono (by first | exact Nat.le_refl _ | (simp; done) | (simp; omega)))
  have s8 : w7.heap.size ≤ w8.heap.size := R.size
  have K8 : Hid (Below w.heap.size w w8) := K7.out.trans (R.mono (by omega))
  replace bw : Hid (Bx w8 w1.heap.size (.int .i64 rm) (.slice A_ow rl.length c_ow)) := bw.out.keep R
  replace bg : Hid (Bx w8 w2.heap.size (.int .i64 rm) (.slice A_og rl.length c_og)) := bg.out.keep R
  replace bh : Hid (Bx w8 w6.heap.size (.int .i64 rm) (.slice A_oh rl.length c_oh)) := bh.out.keep R
  replace ow : Hid (OwnP w8 w.heap.size w1.heap.size (.slice A_ow rl.length c_ow) rl) := ow.out.keep R
  replace og : Hid (OwnP w8 (w1.heap.size + 1) w2.heap.size (.slice A_og rl.length c_og) (mkP (1) rl)) := og.out.keep R
  replace oh : Hid (OwnP w8 w5.heap.size w6.heap.size (.slice A_oh rl.length c_oh) rl) := oh.out.keep R
  clear R hb8
  have bw_c := bw.out.2.1
  have bw_d := bw.out.2.2
  have bw_z := bw.out.1
  have bg_c := bg.out.2.1
  have bg_d := bg.out.2.2
  have bg_z := bg.out.1
  have bh_c := bh.out.2.1
  have bh_d := bh.out.2.2
  have bh_z := bh.out.1
  go_wp2
  go_ret
  exact ⟨rfl, K8.out⟩


end Go.Proofs.Ytmppmnmkhfcoaaa
