/- Contracts over this seat's translation. Condition: each contract's own. -/
import Derived.Test.YtfdklbimdkaaiaaD
import Derived.ProofKit
import Derived.OpenShut
import Derived.Below
import Derived.ChangeSame
import Derived.Deep.Modes
import Derived.Lib.SmallJoins
import Derived.ChangeSlices
import Derived.WalkKit
import Derived.WalkSpells
import Derived.WalkLawsBesides
import Derived.Deep.QuietTactic
import Derived.BigQuiet
import Derived.Deep.RegionHeld3
import Derived.Deep.RegionWith
import Derived.Deep.RegionLaw
import Derived.Deep.AppendLies
import Derived.Laws.CopyOwn
import Derived.Deep.DeepCutAuto
import Derived.Deep.OwnRows
import Derived.Deep.LoopGhost
import Derived.Deep.DeepFit
import Derived.Deep.DeepMust
import Derived.Deep.Draws
import Derived.Deep.CutRange
import Derived.Maps.AppendAt
import Derived.Lib.Hide
import Derived.StillTailTactics
import Derived.Laws.MakeOwn
set_option linter.unusedVariables false
open Go Go.RowKit
namespace Go.Proofs.Ytfdklbimdkaaiaa
/-! ### Curves of a power of t -/
def sprF (xs : List Int) (n k j : Nat) : Int := if j % n = 0 ∧ j / n < k then co xs (j / n) else 0
def spreadL (xs : List Int) (n : Nat) : List Int := lst xs.length fun j => if j % n = 0 then co xs (j / n) else 0
theorem length_spreadL (xs : List Int) (n : Nat) : (spreadL xs n).length = xs.length := length_lst _ _
theorem spr_zero (xs : List Int) (n d : Nat) : List.replicate d (0 : Int) = lst d (sprF xs n 0) := by
  rw [replicate_lst]; apply lst_congr; intro j _; simp [sprF]
theorem spr_step (xs : List Int) (n d k p : Nat) (hn : 1 ≤ n) (hp : k * n = p) : (lst d (sprF xs n k)).set p (co xs k) = lst d (sprF xs n (k + 1)) := by
  rw [set_lst]
  apply lst_congr
  intro j _
  unfold upd sprF
  subst hp
  by_cases h : j = k * n
  · subst h
    simp [Nat.mul_div_cancel k (show 0 < n by omega)]
  · rw [if_neg h]
    by_cases h1 : j % n = 0
    · have h2 : j / n ≠ k := by
        intro e
        apply h
        have := Nat.div_add_mod j n
        rw [h1, e, Nat.mul_comm] at this
        omega
      by_cases h3 : j / n < k
      · rw [if_pos ⟨h1, h3⟩, if_pos ⟨h1, by omega⟩]
      · rw [if_neg (by omega), if_neg (by omega)]
    · rw [if_neg (fun e => h1 e.1), if_neg (fun e => h1 e.1)]
theorem spr_far (xs : List Int) (n d k p : Nat) (hn : 1 ≤ n) (hp : k * n = p) (hd : d ≤ p) (j : Nat) (hj : j < d) : j / n < k := by
  subst hp
  exact (Nat.div_lt_iff_lt_mul (show 0 < n by omega)).2 (by omega)
theorem spr_skip (xs : List Int) (n d k p : Nat) (hn : 1 ≤ n) (hp : k * n = p) (hd : d ≤ p) : lst d (sprF xs n k) = lst d (sprF xs n (k + 1)) := by
  apply lst_congr
  intro j hj
  have := spr_far xs n d k p hn hp hd j hj
  unfold sprF
  by_cases h1 : j % n = 0
  · rw [if_pos ⟨h1, this⟩, if_pos ⟨h1, by omega⟩]
  · rw [if_neg (fun e => h1 e.1), if_neg (fun e => h1 e.1)]
theorem spr_end (xs : List Int) (n k : Nat) (h : ∀ j, j < xs.length → j / n < k) : lst xs.length (sprF xs n k) = spreadL xs n := by
  apply lst_congr
  intro j hj
  have := h j hj
  unfold sprF
  by_cases h1 : j % n = 0
  · rw [if_pos ⟨h1, this⟩, if_pos h1]
  · rw [if_neg (fun e => h1 e.1), if_neg h1]
theorem spr_all (xs : List Int) (n : Nat) (j : Nat) (hj : j < xs.length) : j / n < xs.length := Nat.lt_of_le_of_lt (Nat.div_le_self j n) hj
theorem cast_mul_bd {k n p a b : Nat} (hp : k * n = p) (h1 : k ≤ a) (h2 : n ≤ b) : (k : Int) * (n : Int) = (p : Int) ∧ p ≤ a * b := by
  subst hp
  exact ⟨by simp, Nat.mul_le_mul h1 h2⟩
set_option maxRecDepth 8000 in
set_option maxHeartbeats 2000000 in
theorem l12Spread_any (w : World) (v : Value) (xs zs : List Int) (n : Nat) (d : Int) (B : Nat) (hv : OwnI w B v xs) (hn1 : 1 ≤ n) (hn2 : n ≤ 100) (hl0 : 1 ≤ xs.length) (hl : xs.length ≤ 1000) (hd : d + 1 = (xs.length : Int)) (hz : spreadL xs n = zs) :
    Calls Try.prog 61 #[v, .int .i64 n, .int .i64 d] w (NewI w zs) := by
  obtain ⟨A, cp, e0, hc1, hc2, hA⟩ := hv.open_
  subst e0
  unfold maxLen at hc2
  have HZ := Lib.hid hz
  clear hz hv
  have hdn : IntKind.i64.wrap (d + 1) = (xs.length : Int) := by rw [hd]; exact IntWalk.i64_in _ (by omega)
  have hd1 : d + 1 ≤ (xs.length : Int) := by omega
  have hd2 : (xs.length : Int) ≤ d + 1 := by omega
  clear hd
  go_enter Try.func61, Try.ntmps61
  go_wp2_with (at_make; refine makeI _ xs.length (by rfl) (by rfl) (by first | rfl | simp) (by omega) ?_; intro w1 hr1 hb1 hs1; have HS := Lib.hid hs1; clear hs1 hdn)
  have hr2 : RowI w1 w.heap.size xs.length (lst xs.length (sprF xs n 0)) := by rw [← spr_zero]; simpa using hr1
  go_loopw [8] (fun s wr => ∃ k : Nat, k ≤ xs.length ∧ s = .int .i64 k ∧ Hid (RowI wr w.heap.size xs.length (lst xs.length (sprF xs n k))) ∧ Hid (Below w.heap.size w wr)) (fun s _ => xs.length - (intOf s).toNat)
  case atStart => exact ⟨0, Nat.zero_le _, rfl, hr2, hb1⟩
  case round =>
    clear hr1 hb1 hr2 HS
    obtain ⟨k, hk, rfl, HR, HB⟩ := hrel
    obtain ⟨p, hp⟩ : ∃ p, k * n = p := ⟨_, rfl⟩
    obtain ⟨hp1, hp2⟩ := cast_mul_bd hp (show k ≤ 1000 by omega) hn2
    have HP := Lib.hid hp
    clear hp
    have v1 : IntKind.i64.wrap ((k : Int) * (n : Int)) = (p : Int) := by rw [hp1]; exact IntWalk.i64_in _ (by omega)
    clear hp1
    have fin : ∀ zz, (∀ j, j < xs.length → j / n < k) → spreadL xs n = zz → RowI wr w.heap.size xs.length zz := by
      intro zz h1 h2
      rw [← h2, ← spr_end xs n k h1]
      exact HR.out
    by_cases hlt : k < xs.length
    · by_cases hlt2 : p < xs.length
      · clear fin
        obtain ⟨b, rfl, hb1, hb2, hcell, hfr⟩ := hA k hlt
        clear hA
        have hc0 : wr.cell? ⟨b, k, none⟩ = some (.int .i64 (co xs k)) := (HB.out.cell (p := ⟨b, k, none⟩) hb2).trans hcell
        have HS := Lib.hid (spr_step xs n xs.length k p hn1 HP.out)
        have hd0 := HR.out.cell (k := p) (by rw [length_lst]; omega)
        have hf0 := HR.out.free p
        rw [getD_lst _ _ _ (by omega)] at hd0
        generalize sprF xs n k p = y0 at hd0
        obtain ⟨x, hx⟩ : ∃ x, x = co xs k := ⟨_, rfl⟩
        rw [← hx] at hc0 HS
        clear hx hcell hfr
        have hk0 : (0 : Int) ≤ (k : Int) := by omega
        have hk1 : (k : Int) < (xs.length : Int) := by omega
        have hk2 : (p : Int) ≤ d := by omega
        have hk3 : (p : Int) < (xs.length : Int) := by omega
        go_wp2
        go_roundw
        case rel =>
          refine ⟨k + 1, by omega, by go_num, ?_, (by unfold Hid; (repeat (first | exact HB.out | refine below_drewN ?_ _ | refine below_drew ?_ | (refine Below.setCell ?_ ?_ _; rotate_left; focus (first | omega | (simp; done) | (simp; omega))))))⟩
          unfold Hid
          rw [← HS.out]
          exact HR.out.set_ p x
        case measure => simp [intOf]; omega
      · have hR : RowI wr w.heap.size xs.length zs := fin zs (fun j hj => spr_far xs n xs.length k p hn1 HP.out (by omega) j hj) HZ.out
        have hly : Hid (zs.length = xs.length) := by unfold Hid; rw [← HZ.out, length_spreadL]
        have hd5 : decide ((p : Int) ≤ d) = false := by simp; omega
        have hi1 : (k : Int) < (xs.length : Int) := by omega
        clear fin
        go_wp2
        go_ret
        exact ⟨_, _, by rw [hly.out]; rfl, hR.own (Nat.le_refl _), HB.out⟩
    · have hR : RowI wr w.heap.size xs.length zs := fin zs (fun j hj => by have := spr_all xs n j hj; omega) HZ.out
      have hly : Hid (zs.length = xs.length) := by unfold Hid; rw [← HZ.out, length_spreadL]
      have hd5 : decide ((k : Int) < (xs.length : Int)) = false := by simp; omega
      clear fin
      go_wp2
      go_ret
      exact ⟨_, _, by rw [hly.out]; rfl, hR.own (Nat.le_refl _), HB.out⟩
set_option maxHeartbeats 2000000 in
theorem spread_any (w : World) (m : Int) (v : Value) (xs ys : List Int) (n : Nat) (B : Nat) (hv : OwnI w B v xs) (hn1 : 1 ≤ n) (hn2 : n ≤ 100) (hl0 : 1 ≤ xs.length) (hl : xs.length ≤ 1000) (hy : spreadL xs n = ys) :
    Calls Try.prog 63 #[.agg #[.int .i64 m, v], .int .i64 n] w (NewS w m ys) := by
  obtain ⟨A, cp, e0, hc1, hc2, hA⟩ := hv.open_
  subst e0
  unfold maxLen at hc2
  have HY := Lib.hid hy
  clear hy hv
  go_enter Try.func63, Try.ntmps63
  go_upto_region 1 with fail
  go_cut [5] from 8 to 12 (fun s wx => ∃ bo g : Nat, s = .pointer (some ⟨bo, 0, none⟩) ∧ w.heap.size + 2 ≤ bo ∧ bo < wx.heap.size ∧ w.heap.size + 2 ≤ g ∧ g < wx.heap.size ∧ bo ≠ g ∧ Hid (Bf wx bo (.int .i64 m) (.slice (some ⟨g, 0, none⟩) xs.length xs.length)) ∧ Hid (RowI wx g xs.length (List.replicate xs.length 0)) ∧ Hid (Bf wx w.heap.size (.int .i64 m) (.slice A xs.length cp)) ∧ Hid (Bf wx (w.heap.size + 1) (.int .i64 0) (.slice none 0 0)) ∧ Hid (Below w.heap.size w wx))
  case first =>
    go_region_held3 (fun w' => w'.cell? ⟨w.heap.size, 0, none⟩ = some (.int .i64 m) ∧ w'.cell? ⟨w.heap.size, 1, none⟩ = some (.slice A xs.length cp))
      (first | go_keep | (refine (fun (h : Bf _ w.heap.size (.int .i64 m) (.slice A xs.length cp)) => ⟨h.1.2.1, h.1.2.2⟩) ((Bf.alloc1 w _ _ 26).keep ?_); (repeat (first | assumption | exact Below.refl _ _ | (refine Below.alloc ?_ ?_ _; rotate_left; (focus (first | exact Nat.le_refl _ | omega | (simp; done) | (simp; omega)))) | (refine Below.setCell ?_ ?_ _; rotate_left; (focus (first | exact Nat.le_refl _ | omega | (simp; done) | (simp; omega)))) | refine below_drew ?_ | refine below_drewN ?_ _ | (refine Below.trans ?_ (Below.mono hb2 ?_); rotate_left; (focus (first | exact Nat.le_refl _ | omega | (simp; done) | (simp; omega)))) | (refine Below.trans ?_ (Below.mono hb1 ?_); rotate_left; (focus (first | exact Nat.le_refl _ | omega | (simp; done) | (simp; omega))))))))
      (first | (go_at_call 54; refine (iDegree_any m A xs.length cp _ (by omega)).mono ?_; rintro e w1 ⟨rfl, hb1⟩; have P1 : Bf w1 w.heap.size (.int .i64 m) (.slice A xs.length cp) := ((Bf.alloc1 w _ _ 26).keep (by (repeat (first | assumption | exact Below.refl _ _ | (refine Below.alloc ?_ ?_ _; rotate_left; (focus (first | exact Nat.le_refl _ | omega | (simp; done) | (simp; omega)))) | (refine Below.setCell ?_ ?_ _; rotate_left; (focus (first | exact Nat.le_refl _ | omega | (simp; done) | (simp; omega)))) | refine below_drew ?_ | refine below_drewN ?_ _ | (refine Below.trans ?_ (Below.mono hb1 ?_); rotate_left; (focus (first | exact Nat.le_refl _ | omega | (simp; done) | (simp; omega)))))))); have p1a := P1.1.2.1; have p1b := P1.1.2.2; obtain ⟨hc1, hf1⟩ := bcell hb1; have z1 := hb1.size; (try simp at z1); have z1p : w.heap.size < w1.heap.size := (by omega); (first | (have y1 : w.heap.size + 2 < w1.heap.size := (by omega)) | skip)) | (go_at_call 60; refine (zero_any _ m _ xs.length (by omega) (by omega)).mono ?_; rintro e w2 ⟨g, rfl, hg, hr2, hb2⟩; have P2 : Bf w2 w.heap.size (.int .i64 m) (.slice A xs.length cp) := ((Bf.alloc1 w _ _ 26).keep (by (repeat (first | assumption | exact Below.refl _ _ | (refine Below.alloc ?_ ?_ _; rotate_left; (focus (first | exact Nat.le_refl _ | omega | (simp; done) | (simp; omega)))) | (refine Below.setCell ?_ ?_ _; rotate_left; (focus (first | exact Nat.le_refl _ | omega | (simp; done) | (simp; omega)))) | refine below_drew ?_ | refine below_drewN ?_ _ | (refine Below.trans ?_ (Below.mono hb2 ?_); rotate_left; (focus (first | exact Nat.le_refl _ | omega | (simp; done) | (simp; omega)))) | (refine Below.trans ?_ (Below.mono hb1 ?_); rotate_left; (focus (first | exact Nat.le_refl _ | omega | (simp; done) | (simp; omega)))))))); have p2a := P2.1.2.1; have p2b := P2.1.2.2; obtain ⟨hc2, hf2⟩ := bcell hb2; have z2 := hb2.size; (try simp at z2); (try simp at hg); have z2p : w.heap.size < w2.heap.size := (by omega)))
    all_goals
      go_wp2_with fail
      go_meet
      have zg := hr2.lt
      have KK : Hid (Below w.heap.size w w2) := by (repeat (first | assumption | exact Below.refl _ _ | (refine Below.alloc ?_ ?_ _; rotate_left; (focus (first | exact Nat.le_refl _ | omega | (simp; done) | (simp; omega)))) | (refine Below.setCell ?_ ?_ _; rotate_left; (focus (first | exact Nat.le_refl _ | omega | (simp; done) | (simp; omega)))) | refine below_drew ?_ | refine below_drewN ?_ _ | (refine Below.trans ?_ (Below.mono hb2 ?_); rotate_left; (focus (first | exact Nat.le_refl _ | omega | (simp; done) | (simp; omega)))) | (refine Below.trans ?_ (Below.mono hb1 ?_); rotate_left; (focus (first | exact Nat.le_refl _ | omega | (simp; done) | (simp; omega))))))
      refine ⟨_, g, rfl, ?_, ?_, ?_, ?_, ?_, ?_, ?_, ?_, ?_,  ?_⟩
      · first | exact Nat.le_refl _ | omega | (simp; done) | (simp; omega)
      · first | omega | (simp; done) | (simp; omega) | (simp [World.setCell]; omega)
      · first | omega | (simp; omega)
      · first | omega | (simp; done) | (simp; omega) | (simp [World.setCell]; omega)
      · first | omega | (simp; omega)
      · first | exact Bf.alloc1 w2 _ _ _ | exact ((Bf.alloc1 w1 _ _ _).keep hb2).store2 | exact (((Bf.q3 (w := w)).keep (below_undrew hb1)).keep hb2).store2
      · first | exact hr2.alloc _ | exact (hr2.far (by first | omega | (simp; omega)) _).far (by first | omega | (simp; omega)) _
      · exact (Bf.q1 (w := w) (t := 26)).keep (by (repeat (first | assumption | exact Below.refl _ _ | (refine Below.alloc ?_ ?_ _; rotate_left; (focus (first | exact Nat.le_refl _ | omega | (simp; done) | (simp; omega)))) | (refine Below.setCell ?_ ?_ _; rotate_left; (focus (first | exact Nat.le_refl _ | omega | (simp; done) | (simp; omega)))) | refine below_drew ?_ | refine below_drewN ?_ _ | (refine Below.trans ?_ (Below.mono hb2 ?_); rotate_left; (focus (first | exact Nat.le_refl _ | omega | (simp; done) | (simp; omega)))) | (refine Below.trans ?_ (Below.mono hb1 ?_); rotate_left; (focus (first | exact Nat.le_refl _ | omega | (simp; done) | (simp; omega)))))))
      · exact (Bf.q2 (w := w) (t := 26) (t' := 26)).keep (by (repeat (first | assumption | exact Below.refl _ _ | (refine Below.alloc ?_ ?_ _; rotate_left; (focus (first | exact Nat.le_refl _ | omega | (simp; done) | (simp; omega)))) | (refine Below.setCell ?_ ?_ _; rotate_left; (focus (first | exact Nat.le_refl _ | omega | (simp; done) | (simp; omega)))) | refine below_drew ?_ | refine below_drewN ?_ _ | (refine Below.trans ?_ (Below.mono hb2 ?_); rotate_left; (focus (first | exact Nat.le_refl _ | omega | (simp; done) | (simp; omega)))) | (refine Below.trans ?_ (Below.mono hb1 ?_); rotate_left; (focus (first | exact Nat.le_refl _ | omega | (simp; done) | (simp; omega)))))))
      · (repeat (first | assumption | exact Below.refl _ _ | (refine Below.alloc ?_ ?_ _; rotate_left; (focus (first | exact Nat.le_refl _ | omega | (simp; done) | (simp; omega)))) | (refine Below.setCell ?_ ?_ _; rotate_left; (focus (first | exact Nat.le_refl _ | omega | (simp; done) | (simp; omega)))) | refine below_drew ?_ | refine below_drewN ?_ _ | (refine Below.trans ?_ (Below.mono hb2 ?_); rotate_left; (focus (first | exact Nat.le_refl _ | omega | (simp; done) | (simp; omega)))) | (refine Below.trans ?_ (Below.mono hb1 ?_); rotate_left; (focus (first | exact Nat.le_refl _ | omega | (simp; done) | (simp; omega))))))
  case rest =>
    obtain ⟨bo, g, rfl, hbo1, hbo2, hg1, hg2, hne, HO, HR, HP, HQ, HB⟩ := hcut
    have p1 := HP.out.1.2.1
    have p2 := HP.out.1.2.2
    go_wp2
    clear p1 p2
    go_loopw [16] (fun i wr => ∃ k : Nat, k ≤ xs.length ∧ i = .int .i64 k ∧ Hid (Bf wr bo (.int .i64 m) (.slice (some ⟨g, 0, none⟩) xs.length xs.length)) ∧ Hid (RowI wr g xs.length (lst xs.length (sprF xs n k))) ∧ Hid (Bf wr w.heap.size (.int .i64 m) (.slice A xs.length cp)) ∧ Hid (Bf wr (w.heap.size + 1) (.int .i64 0) (.slice none 0 0)) ∧ Hid (Below w.heap.size w wr)) (fun i _ => xs.length - (intOf i).toNat)
    case atStart => exact ⟨0, Nat.zero_le _, rfl, HO, (by unfold Hid; rw [← spr_zero]; exact HR.out), HP, HQ, HB⟩
    case round =>
      clear HO HR HP HQ HB
      obtain ⟨k, hk, rfl, HO, HR, HP, HQ, HB⟩ := hrel
      have p1 := HP.out.1.2.1
      have p2 := HP.out.1.2.2
      have zP := HP.out.1.1
      have zO := HO.out.1.1
      have zR := HR.out.lt
      have zB := HB.out.size
      by_cases hlt : k < xs.length
      · obtain ⟨b, rfl, hb1, hb2, hcell, hfr⟩ := hA k hlt
        clear hA
        have hc0 : wr.cell? ⟨b, k, none⟩ = some (.int .i64 (co xs k)) := (HB.out.cell (p := ⟨b, k, none⟩) hb2).trans hcell
        obtain ⟨p, hp⟩ : ∃ p, k * n = p := ⟨_, rfl⟩
        obtain ⟨hp1, hp2⟩ := cast_mul_bd hp (show k ≤ 1000 by omega) hn2
        have HPP := Lib.hid hp
        clear hp
        have v1 : IntKind.i64.wrap ((k : Int) * (n : Int)) = (p : Int) := by rw [hp1]; exact IntWalk.i64_in _ (by omega)
        clear hp1
        obtain ⟨x, hx⟩ : ∃ x, x = co xs k := ⟨_, rfl⟩
        rw [← hx] at hc0
        have HX := Lib.hid hx
        clear hx hcell hfr
        have hk0 : (0 : Int) ≤ (k : Int) := by omega
        have hk1 : (k : Int) < (xs.length : Int) := by omega
        by_cases hlt2 : p < xs.length
        · have HS := Lib.hid (spr_step xs n xs.length k p hn1 HPP.out)
          rw [← HX.out] at HS
          have hk2 : (p : Int) ≤ (xs.length : Int) - 1 := by omega
          have hk3 : (p : Int) < (xs.length : Int) := by omega
          go_wp2_with (go_at_call 54; refine (iDegree_any m (some ⟨b, 0, none⟩) xs.length cp _ (by omega)).mono ?_; rintro e w1 ⟨rfl, hb3⟩; have O1 := HO.out.keep hb3; have o1 := O1.1.2.1; have o2 := O1.1.2.2; have R1 := HR.out.below hb3 zR; have hd0 := R1.cell (k := p) (by rw [length_lst]; omega); have hf0 := R1.free p; rw [getD_lst _ _ _ (by omega)] at hd0; generalize sprF xs n k p = y0 at hd0)
          go_roundw
          case rel =>
            refine ⟨k + 1, by omega, by go_num, O1.setCell (by simp; omega) _, ?_, (HP.out.keep hb3).setCell (by simp; omega) _, (HQ.out.keep hb3).setCell (by simp; omega) _, ?_⟩
            · unfold Hid
              rw [← HS.out]
              exact R1.set_ p x
            · exact (HB.out.trans (hb3.mono zB)).setCell (by simp; omega) _
          case measure => simp [intOf]; omega
        · have hR : Hid (RowI wr g xs.length (lst xs.length (sprF xs n (k + 1)))) := by unfold Hid; rw [← spr_skip xs n xs.length k p hn1 HPP.out (by omega)]; exact HR.out
          have hd5 : decide ((p : Int) ≤ (xs.length : Int) - 1) = false := by simp; omega
          go_wp2_with (go_at_call 54; refine (iDegree_any m (some ⟨b, 0, none⟩) xs.length cp _ (by omega)).mono ?_; rintro e w1 ⟨rfl, hb3⟩)
          go_roundw
          case rel => exact ⟨k + 1, by omega, by go_num, HO.out.keep hb3, hR.out.below hb3 zR, HP.out.keep hb3, HQ.out.keep hb3, HB.out.trans (hb3.mono zB)⟩
          case measure => simp [intOf]; omega
      · have hR : RowI wr g xs.length ys := by rw [← HY.out, ← spr_end xs n k (fun j hj => by have := spr_all xs n j hj; omega)]; exact HR.out
        have hly : Hid (ys.length = xs.length) := by unfold Hid; rw [← HY.out, length_spreadL]
        have o1 := HO.out.1.2.1
        have o2 := HO.out.1.2.2
        have q1 := HQ.out.1.2.1
        have q2 := HQ.out.1.2.2
        have q3 := HQ.out.2.1
        have q4 := HQ.out.2.2
        have hd5 : decide ((k : Int) < (xs.length : Int)) = false := by simp; omega
        go_wp2
        refine bodyPost_ret (v := .agg #[.int .i64 m, .slice (some ⟨g, 0, none⟩) xs.length xs.length]) (by simp [results, Try.results63, go_sem, q1, q2]) rfl ⟨some ⟨g, 0, none⟩, xs.length, by rw [hly.out], ?_, ?_⟩
        · rw [hly.out]
          have := ((hR.far (p := ⟨w.heap.size + 1, 0, none⟩) (by simp; omega) (.int .i64 m)).far (p := ⟨w.heap.size + 1, 1, none⟩) (by simp; omega) (.slice (some ⟨g, 0, none⟩) xs.length xs.length)).own (B := w.heap.size) (by omega)
          rw [hly.out] at this
          exact this
        · exact (HB.out.setCell (by simp) _).setCell (by simp) _

/-! ### VerschiebungOf, the code of a curve -/
def curveC (m : Int) (xs : List Int) : Int := if isSer m xs = false then 1 else if isCur m xs = false then 2 else 0
theorem curveCode_any (m : Int) (w : World) (v : Value) (xs : List Int) (B : Nat) (hv : OwnI w B v xs) (hl : xs.length ≤ 1000000000) :
    Calls Try.prog 58 #[.agg #[.int .i64 m, v]] w fun e w' => e = .returned (.int .i64 (curveC m xs)) ∧ Below w.heap.size w w' := by
  obtain ⟨A, c, e0, hc1, hc2, hA⟩ := hv.open_
  subst e0
  cases hs : isSer m xs
  · have HF : Hid (curveC m xs = 1) := by simp [Hid, curveC, hs]
    have HS := Lib.hid hs
    clear hs hA
    go_enter Try.func58, Try.ntmps58
    go_wp2_with (go_at_call 53; refine (iIsSeries_any m _ _ xs B (hv.alloc _) hl).mono ?_; rintro e w1 ⟨rfl, hb1⟩; rw [HS.out]; obtain ⟨P1, K1⟩ := Bf.first1 hb1; have p1a := P1.1.2.1; have p1b := P1.1.2.2; have z1 := P1.1.1)
    go_ret
    exact ⟨by rw [HF.out]; rfl, K1⟩
  · obtain ⟨_, ⟨h1, h2⟩, _⟩ := isSer_true hs
    obtain ⟨g, rfl, hg1, hg2, hcell, hfr⟩ := hA 0 (by omega)
    clear hA
    obtain ⟨x, hx⟩ : ∃ x, x = xs.getD 0 0 := ⟨_, rfl⟩
    rw [← hx] at hcell
    have HE : isCur m xs = (x == 0) := by simp [isCur, hs, hx]
    unfold maxLen at hc2
    by_cases h0 : x = 0
    · have HF : Hid (curveC m xs = 0) := by simp [Hid, curveC, hs, HE, h0]
      have HS := Lib.hid hs
      clear hs hx HE
      subst h0
      have hk2 : 0 < xs.length := by omega
      have hk3 : (0 : Int) < (xs.length : Int) := by omega
      go_enter Try.func58, Try.ntmps58
      go_wp2_with (go_at_call 53; refine (iIsSeries_any m _ _ xs B (hv.alloc _) hl).mono ?_; rintro e w1 ⟨rfl, hb1⟩; rw [HS.out]; obtain ⟨P1, K1⟩ := Bf.first1 hb1; have p1a := P1.1.2.1; have p1b := P1.1.2.2; have z1 := P1.1.1; have hc1' : w1.cell? ⟨g, 0, none⟩ = some (.int .i64 0) := (K1.cell (p := ⟨g, 0, none⟩) hg2).trans hcell)
      go_ret
      exact ⟨by rw [HF.out]; rfl, K1⟩
    · have HF : Hid (curveC m xs = 2) := by simp [Hid, curveC, hs, HE, h0]
      have HS := Lib.hid hs
      clear hs hx HE
      have hk2 : 0 < xs.length := by omega
      have hk3 : (0 : Int) < (xs.length : Int) := by omega
      go_enter Try.func58, Try.ntmps58
      go_wp2_with (go_at_call 53; refine (iIsSeries_any m _ _ xs B (hv.alloc _) hl).mono ?_; rintro e w1 ⟨rfl, hb1⟩; rw [HS.out]; obtain ⟨P1, K1⟩ := Bf.first1 hb1; have p1a := P1.1.2.1; have p1b := P1.1.2.2; have z1 := P1.1.1; have hc1' : w1.cell? ⟨g, 0, none⟩ = some (.int .i64 x) := (K1.cell (p := ⟨g, 0, none⟩) hg2).trans hcell)
      go_ret
      exact ⟨by rw [HF.out]; rfl, K1⟩
def VerschiebungOfR (m : Int) (xs : List Int) (t : Int) : (Int × List Int) × Int := if isSer m xs = false then ((0, []), 1) else if isCur m xs = false then ((0, []), 2) else if inB t 1 100 = false then ((0, []), 2) else ((m, spreadL xs t.toNat), 0)
theorem VerschiebungOfR_len (m : Int) (xs : List Int) (t : Int) : (VerschiebungOfR m xs t).1.2.length ≤ 100 := by
  unfold VerschiebungOfR
  cases h : isSer m xs
  · simp
  · have := (isSer_true h).2.1
    split
    · simp
    · split
      · simp
      · split
        · simp
        · simp only [length_spreadL]; omega
set_option maxHeartbeats 1000000 in
theorem iVerschiebungOfR_any (w : World) (m : Int) (v : Value) (xs : List Int) (t : Int) (B : Nat) (hv : OwnI w B v xs) (hl : xs.length ≤ 2000000) : Calls Try.prog 25 #[.agg #[.int .i64 m, v], .int .i64 t] w (RetSI w (VerschiebungOfR m xs t)) := by
  obtain ⟨A, cp, e0, hcap1, hcap2, hAA⟩ := hv.open_
  subst e0
  unfold maxLen at hcap2
  cases hs : isSer m xs
  · have HF : VerschiebungOfR m xs t = ((0, []), 1) := by simp [VerschiebungOfR, hs]
    rw [HF]
    clear HF hAA
    have HS := Lib.hid hs
    have HC0 : Hid (curveC m xs = 1) := by simp [Hid, curveC, hs]
    clear hs
    go_enter Try.func25, Try.ntmps25
    go_wp2_with (go_at_call 58; refine (curveCode_any m _ _ xs B (OwnI.keep hv (by (repeat (first | assumption | exact Below.refl _ _ | refine Below.alloc ?_ (by first | omega | (simp; done) | (simp; omega)) _ | refine Below.setCell ?_ (by first | omega | (simp; done) | (simp; omega)) _ | refine below_drewN ?_ _))) (Nat.le_refl _)) (by omega)).mono ?_; rintro e w1 ⟨rfl, hb1⟩; rw [HC0.out]; obtain ⟨P1, Q1, K1⟩ := Bf.first2 hb1; have p1a := P1.1.2.1; have p1b := P1.1.2.2; have z1 := P1.1.1; have q1a := Q1.1.2.1; have q1b := Q1.1.2.2; have q1c := Q1.2.1; have q1d := Q1.2.2; have y1 := Q1.1.1)
    exact bodyPost_ret (v := .tuple #[.agg #[.int .i64 0, .slice none 0 0], .int .i64 1]) (by simp [results, Try.results25, go_sem, q1a, q1b]) rfl ⟨none, 0, rfl, OwnI.nil_ _ _, by (repeat (first | assumption | exact Below.refl _ _ | refine Below.alloc ?_ (by first | omega | (simp; done) | (simp; omega)) _ | refine Below.setCell ?_ (by first | omega | (simp; done) | (simp; omega)) _ | refine below_drewN ?_ _))⟩
  · obtain ⟨hm, ⟨hl1, hl2⟩, hn⟩ := isSer_true hs
    have hmb := isModB_true hm
    have HM := Lib.hid hm
    have HNL := Lib.hid (isSer_NumL hs)
    cases hd : isCur m xs
    · have HF : VerschiebungOfR m xs t = ((0, []), 2) := by simp [VerschiebungOfR, hs, hd]
      rw [HF]
      clear HF
      have HS := Lib.hid hs
      have HC0 : Hid (curveC m xs = 2) := by simp [Hid, curveC, hs, hd]
      have HD := Lib.hid hd
      clear hs hd hm hn
      go_enter Try.func25, Try.ntmps25
      go_wp2_with (go_at_call 58; refine (curveCode_any m _ _ xs B (OwnI.keep hv (by (repeat (first | assumption | exact Below.refl _ _ | refine Below.alloc ?_ (by first | omega | (simp; done) | (simp; omega)) _ | refine Below.setCell ?_ (by first | omega | (simp; done) | (simp; omega)) _ | refine below_drewN ?_ _))) (Nat.le_refl _)) (by omega)).mono ?_; rintro e w1 ⟨rfl, hb1⟩; rw [HC0.out]; obtain ⟨P1, Q1, K1⟩ := Bf.first2 hb1; have p1a := P1.1.2.1; have p1b := P1.1.2.2; have z1 := P1.1.1; have q1a := Q1.1.2.1; have q1b := Q1.1.2.2; have q1c := Q1.2.1; have q1d := Q1.2.2; have y1 := Q1.1.1)
      exact bodyPost_ret (v := .tuple #[.agg #[.int .i64 0, .slice none 0 0], .int .i64 2]) (by simp [results, Try.results25, go_sem, q1a, q1b]) rfl ⟨none, 0, rfl, OwnI.nil_ _ _, by (repeat (first | assumption | exact Below.refl _ _ | refine Below.alloc ?_ (by first | omega | (simp; done) | (simp; omega)) _ | refine Below.setCell ?_ (by first | omega | (simp; done) | (simp; omega)) _ | refine below_drewN ?_ _))⟩
    · cases hd2 : inB t 1 100
      case false =>
        have HF : VerschiebungOfR m xs t = ((0, []), 2) := by simp [VerschiebungOfR, hs, hd, hd2]
        rw [HF]
        clear HF
        have HS := Lib.hid hs
        have HC0 : Hid (curveC m xs = 0) := by simp [Hid, curveC, hs, hd]
        have HD := Lib.hid hd
        have HD2 := Lib.hid hd2
        clear hd2
        clear hs hd hm hn
        go_enter Try.func25, Try.ntmps25
        go_wp2_with (first | (go_at_call 58; refine (curveCode_any m _ _ xs B (OwnI.keep hv (by (repeat (first | assumption | exact Below.refl _ _ | refine Below.alloc ?_ (by first | omega | (simp; done) | (simp; omega)) _ | refine Below.setCell ?_ (by first | omega | (simp; done) | (simp; omega)) _ | refine below_drewN ?_ _))) (Nat.le_refl _)) (by omega)).mono ?_; rintro e w1 ⟨rfl, hb1⟩; rw [HC0.out]; obtain ⟨P1, Q1, K1⟩ := Bf.first2 hb1; have p1a := P1.1.2.1; have p1b := P1.1.2.2; have z1 := P1.1.1; have q1a := Q1.1.2.1; have q1b := Q1.1.2.2; have q1c := Q1.2.1; have q1d := Q1.2.2; have y1 := Q1.1.1) | (go_at_call 62; refine (in_any _ _ _ _).mono ?_; rintro e w6 ⟨rfl, k6, rfl⟩; rw [HD2.out]))
        exact bodyPost_ret (v := .tuple #[.agg #[.int .i64 0, .slice none 0 0], .int .i64 2]) (by simp [results, Try.results25, go_sem, q1a, q1b]) rfl ⟨none, 0, rfl, OwnI.nil_ _ _, by (repeat (first | assumption | exact Below.refl _ _ | refine Below.alloc ?_ (by first | omega | (simp; done) | (simp; omega)) _ | refine Below.setCell ?_ (by first | omega | (simp; done) | (simp; omega)) _ | refine below_drewN ?_ _))⟩
      obtain ⟨kn, rfl⟩ : ∃ kn : Nat, t = (kn : Int) := ⟨t.toNat, by have := inB_true.1 hd2; omega⟩
      obtain ⟨ys, hy⟩ : ∃ ys, spreadL xs kn = ys := ⟨_, rfl⟩
      have HF : VerschiebungOfR m xs (kn : Int) = ((m, ys), 0) := by simp only [VerschiebungOfR, hs, hd, hd2, Int.toNat_natCast, hy]; simp
      rw [HF]
      clear HF
      have HS := Lib.hid hs
      have HC0 : Hid (curveC m xs = 0) := by simp [Hid, curveC, hs, hd]
      have HY := Lib.hid hy
      have HD := Lib.hid hd
      have HD2 := Lib.hid hd2
      obtain ⟨hk1, hk2⟩ := inB_true.1 hd2
      have hkn1 : 1 ≤ kn := by omega
      have hkn2 : kn ≤ 100 := by omega
      clear hk1 hk2 hd2
      clear hs hd hm hn hy
      go_enter Try.func25, Try.ntmps25
      go_wp2_with (first | (go_at_call 58; refine (curveCode_any m _ _ xs B (OwnI.keep hv (by (repeat (first | assumption | exact Below.refl _ _ | refine Below.alloc ?_ (by first | omega | (simp; done) | (simp; omega)) _ | refine Below.setCell ?_ (by first | omega | (simp; done) | (simp; omega)) _ | refine below_drewN ?_ _))) (Nat.le_refl _)) (by omega)).mono ?_; rintro e w1 ⟨rfl, hb1⟩; rw [HC0.out]; obtain ⟨P1, Q1, K1⟩ := Bf.first2 hb1; have p1a := P1.1.2.1; have p1b := P1.1.2.2; have z1 := P1.1.1; have q1a := Q1.1.2.1; have q1b := Q1.1.2.2; have q1c := Q1.2.1; have q1d := Q1.2.2; have y1 := Q1.1.1) | (go_at_call 62; refine (in_any _ _ _ _).mono ?_; rintro e w6 ⟨rfl, k6, rfl⟩; rw [HD2.out]))
      refine (spread_any _ m _ xs ys kn B (OwnI.drewN (hv.keep K1 (Nat.le_refl _)) _) hkn1 hkn2 (by omega) (by omega) HY.out).mono ?_
      rintro e w3 ⟨A3, c3, rfl, o3, hb3⟩
      have R3 : Below w1.heap.size w1 w3 := (Below.trans (by (repeat (first | assumption | exact Below.refl _ _ | refine Below.alloc ?_ (by first | omega | (simp; done) | (simp; omega)) _ | refine Below.setCell ?_ (by first | omega | (simp; done) | (simp; omega)) _ | refine below_drewN ?_ _))) (hb3.mono (by first | exact Nat.le_refl _ | (simp; done) | (simp; omega)))); have s3 := R3.size; have K3 : Below w.heap.size w w3 := K1.trans (R3.mono K1.size); have P3 := P1.keep R3; have Q3 := Q1.keep R3; have p3a := P3.1.2.1; have p3b := P3.1.2.2; have z3 := P3.1.1; have q3a := Q3.1.2.1; have q3b := Q3.1.2.2; have q3c := Q3.2.1; have q3d := Q3.2.2; have y3 := Q3.1.1
      go_wp2
      exact bodyPost_ret (v := .tuple #[.agg #[.int .i64 m, .slice A3 ys.length c3], .int .i64 0]) (by simp [results, Try.results25, go_sem, q3a, q3b]) rfl ⟨A3, c3, rfl, ((o3.setCell_lt (by show _ < w1.heap.size; exact y1) _).setCell_lt (by show _ < w1.heap.size; exact y1) _).mono (by show w.heap.size ≤ w1.heap.size; omega), by (repeat (first | assumption | exact Below.refl _ _ | refine Below.alloc ?_ (by first | omega | (simp; done) | (simp; omega)) _ | refine Below.setCell ?_ (by first | omega | (simp; done) | (simp; omega)) _ | refine below_drewN ?_ _))⟩
set_option maxHeartbeats 1000000 in
theorem sVerschiebungOfR_any (w : World) (m : Int) (v : Value) (xs : List Int) (t : Int) (B : Nat) (hv : OwnI w B v xs) (hl : xs.length ≤ 2000000) : Calls Try.prog 24 #[.agg #[.int .i64 m, v], .int .i64 t] w (RetSI w (VerschiebungOfR m xs t)) := by
  obtain ⟨A, cp, e0, hcap1, hcap2, hAA⟩ := hv.open_
  subst e0
  unfold maxLen at hcap2
  cases hs : isSer m xs
  · have HF : VerschiebungOfR m xs t = ((0, []), 1) := by simp [VerschiebungOfR, hs]
    rw [HF]
    clear HF hAA
    have HS := Lib.hid hs
    clear hs
    go_enter Try.func24, Try.ntmps24
    go_wp2_with (go_at_call 49; refine (l02Is_any m _ _ xs B (OwnI.keep hv (by (repeat (first | assumption | exact Below.refl _ _ | refine Below.alloc ?_ (by first | omega | (simp; done) | (simp; omega)) _ | refine Below.setCell ?_ (by first | omega | (simp; done) | (simp; omega)) _ | refine below_drewN ?_ _))) (Nat.le_refl _)) (by omega)).mono ?_; rintro e w1 ⟨rfl, hb1⟩; rw [HS.out]; obtain ⟨P1, Q1, K1⟩ := Bf.first2 hb1; have p1a := P1.1.2.1; have p1b := P1.1.2.2; have z1 := P1.1.1; have q1a := Q1.1.2.1; have q1b := Q1.1.2.2; have q1c := Q1.2.1; have q1d := Q1.2.2; have y1 := Q1.1.1)
    exact bodyPost_ret (v := .tuple #[.agg #[.int .i64 0, .slice none 0 0], .int .i64 1]) (by simp [results, Try.results24, go_sem, q1a, q1b]) rfl ⟨none, 0, rfl, OwnI.nil_ _ _, by (repeat (first | assumption | exact Below.refl _ _ | refine Below.alloc ?_ (by first | omega | (simp; done) | (simp; omega)) _ | refine Below.setCell ?_ (by first | omega | (simp; done) | (simp; omega)) _ | refine below_drewN ?_ _))⟩
  · obtain ⟨hm, ⟨hl1, hl2⟩, hn⟩ := isSer_true hs
    have hmb := isModB_true hm
    have HM := Lib.hid hm
    have HNL := Lib.hid (isSer_NumL hs)
    cases hd : isCur m xs
    · have HF : VerschiebungOfR m xs t = ((0, []), 2) := by simp [VerschiebungOfR, hs, hd]
      rw [HF]
      clear HF
      have HS := Lib.hid hs
      have HD := Lib.hid hd
      clear hs hd hm hn
      go_enter Try.func24, Try.ntmps24
      go_wp2_with (first | (go_at_call 49; refine (l02Is_any m _ _ xs B (OwnI.keep hv (by (repeat (first | assumption | exact Below.refl _ _ | refine Below.alloc ?_ (by first | omega | (simp; done) | (simp; omega)) _ | refine Below.setCell ?_ (by first | omega | (simp; done) | (simp; omega)) _ | refine below_drewN ?_ _))) (Nat.le_refl _)) (by omega)).mono ?_; rintro e w1 ⟨rfl, hb1⟩; rw [HS.out]; obtain ⟨P1, Q1, K1⟩ := Bf.first2 hb1; have p1a := P1.1.2.1; have p1b := P1.1.2.2; have z1 := P1.1.1; have q1a := Q1.1.2.1; have q1b := Q1.1.2.2; have q1c := Q1.2.1; have q1d := Q1.2.2; have y1 := Q1.1.1) | (go_at_call 56; refine (l02Curve_any m _ _ xs B (OwnI.keep hv K1 (Nat.le_refl _)) (by omega)).mono ?_; rintro e w2 ⟨rfl, hb2⟩; rw [HD.out]; have R2 : Below w1.heap.size w1 w2 := (Below.trans (by (repeat (first | assumption | exact Below.refl _ _ | refine Below.alloc ?_ (by first | omega | (simp; done) | (simp; omega)) _ | refine Below.setCell ?_ (by first | omega | (simp; done) | (simp; omega)) _ | refine below_drewN ?_ _))) (hb2.mono (by first | exact Nat.le_refl _ | (simp; done) | (simp; omega)))); have s2 := R2.size; have K2 : Below w.heap.size w w2 := K1.trans (R2.mono K1.size); have P2 := P1.keep R2; have Q2 := Q1.keep R2; have p2a := P2.1.2.1; have p2b := P2.1.2.2; have z2 := P2.1.1; have q2a := Q2.1.2.1; have q2b := Q2.1.2.2; have q2c := Q2.2.1; have q2d := Q2.2.2; have y2 := Q2.1.1))
      exact bodyPost_ret (v := .tuple #[.agg #[.int .i64 0, .slice none 0 0], .int .i64 2]) (by simp [results, Try.results24, go_sem, q2a, q2b]) rfl ⟨none, 0, rfl, OwnI.nil_ _ _, by (repeat (first | assumption | exact Below.refl _ _ | refine Below.alloc ?_ (by first | omega | (simp; done) | (simp; omega)) _ | refine Below.setCell ?_ (by first | omega | (simp; done) | (simp; omega)) _ | refine below_drewN ?_ _))⟩
    · cases hd2 : inB t 1 100
      case false =>
        have HF : VerschiebungOfR m xs t = ((0, []), 2) := by simp [VerschiebungOfR, hs, hd, hd2]
        rw [HF]
        clear HF
        have HS := Lib.hid hs
        have HD := Lib.hid hd
        have HD2 := Lib.hid hd2
        clear hd2
        clear hs hd hm hn
        go_enter Try.func24, Try.ntmps24
        go_wp2_with (first | (go_at_call 49; refine (l02Is_any m _ _ xs B (OwnI.keep hv (by (repeat (first | assumption | exact Below.refl _ _ | refine Below.alloc ?_ (by first | omega | (simp; done) | (simp; omega)) _ | refine Below.setCell ?_ (by first | omega | (simp; done) | (simp; omega)) _ | refine below_drewN ?_ _))) (Nat.le_refl _)) (by omega)).mono ?_; rintro e w1 ⟨rfl, hb1⟩; rw [HS.out]; obtain ⟨P1, Q1, K1⟩ := Bf.first2 hb1; have p1a := P1.1.2.1; have p1b := P1.1.2.2; have z1 := P1.1.1; have q1a := Q1.1.2.1; have q1b := Q1.1.2.2; have q1c := Q1.2.1; have q1d := Q1.2.2; have y1 := Q1.1.1) | (go_at_call 56; refine (l02Curve_any m _ _ xs B (OwnI.keep hv K1 (Nat.le_refl _)) (by omega)).mono ?_; rintro e w2 ⟨rfl, hb2⟩; rw [HD.out]; have R2 : Below w1.heap.size w1 w2 := (Below.trans (by (repeat (first | assumption | exact Below.refl _ _ | refine Below.alloc ?_ (by first | omega | (simp; done) | (simp; omega)) _ | refine Below.setCell ?_ (by first | omega | (simp; done) | (simp; omega)) _ | refine below_drewN ?_ _))) (hb2.mono (by first | exact Nat.le_refl _ | (simp; done) | (simp; omega)))); have s2 := R2.size; have K2 : Below w.heap.size w w2 := K1.trans (R2.mono K1.size); have P2 := P1.keep R2; have Q2 := Q1.keep R2; have p2a := P2.1.2.1; have p2b := P2.1.2.2; have z2 := P2.1.1; have q2a := Q2.1.2.1; have q2b := Q2.1.2.2; have q2c := Q2.2.1; have q2d := Q2.2.2; have y2 := Q2.1.1) | (go_at_call 57; refine (l01In_any _ _ _ _).mono ?_; rintro e w6 ⟨rfl, k6, rfl⟩; rw [HD2.out]))
        exact bodyPost_ret (v := .tuple #[.agg #[.int .i64 0, .slice none 0 0], .int .i64 2]) (by simp [results, Try.results24, go_sem, q2a, q2b]) rfl ⟨none, 0, rfl, OwnI.nil_ _ _, by (repeat (first | assumption | exact Below.refl _ _ | refine Below.alloc ?_ (by first | omega | (simp; done) | (simp; omega)) _ | refine Below.setCell ?_ (by first | omega | (simp; done) | (simp; omega)) _ | refine below_drewN ?_ _))⟩
      obtain ⟨kn, rfl⟩ : ∃ kn : Nat, t = (kn : Int) := ⟨t.toNat, by have := inB_true.1 hd2; omega⟩
      obtain ⟨ys, hy⟩ : ∃ ys, spreadL xs kn = ys := ⟨_, rfl⟩
      have HF : VerschiebungOfR m xs (kn : Int) = ((m, ys), 0) := by simp only [VerschiebungOfR, hs, hd, hd2, Int.toNat_natCast, hy]; simp
      rw [HF]
      clear HF
      have HS := Lib.hid hs
      have HY := Lib.hid hy
      have HD := Lib.hid hd
      have HD2 := Lib.hid hd2
      obtain ⟨hk1, hk2⟩ := inB_true.1 hd2
      have hkn1 : 1 ≤ kn := by omega
      have hkn2 : kn ≤ 100 := by omega
      clear hk1 hk2 hd2
      clear hs hd hm hn hy
      go_enter Try.func24, Try.ntmps24
      go_wp2_with (first | (go_at_call 49; refine (l02Is_any m _ _ xs B (OwnI.keep hv (by (repeat (first | assumption | exact Below.refl _ _ | refine Below.alloc ?_ (by first | omega | (simp; done) | (simp; omega)) _ | refine Below.setCell ?_ (by first | omega | (simp; done) | (simp; omega)) _ | refine below_drewN ?_ _))) (Nat.le_refl _)) (by omega)).mono ?_; rintro e w1 ⟨rfl, hb1⟩; rw [HS.out]; obtain ⟨P1, Q1, K1⟩ := Bf.first2 hb1; have p1a := P1.1.2.1; have p1b := P1.1.2.2; have z1 := P1.1.1; have q1a := Q1.1.2.1; have q1b := Q1.1.2.2; have q1c := Q1.2.1; have q1d := Q1.2.2; have y1 := Q1.1.1) | (go_at_call 56; refine (l02Curve_any m _ _ xs B (OwnI.keep hv K1 (Nat.le_refl _)) (by omega)).mono ?_; rintro e w2 ⟨rfl, hb2⟩; rw [HD.out]; have R2 : Below w1.heap.size w1 w2 := (Below.trans (by (repeat (first | assumption | exact Below.refl _ _ | refine Below.alloc ?_ (by first | omega | (simp; done) | (simp; omega)) _ | refine Below.setCell ?_ (by first | omega | (simp; done) | (simp; omega)) _ | refine below_drewN ?_ _))) (hb2.mono (by first | exact Nat.le_refl _ | (simp; done) | (simp; omega)))); have s2 := R2.size; have K2 : Below w.heap.size w w2 := K1.trans (R2.mono K1.size); have P2 := P1.keep R2; have Q2 := Q1.keep R2; have p2a := P2.1.2.1; have p2b := P2.1.2.2; have z2 := P2.1.1; have q2a := Q2.1.2.1; have q2b := Q2.1.2.2; have q2c := Q2.2.1; have q2d := Q2.2.2; have y2 := Q2.1.1) | (go_at_call 57; refine (l01In_any _ _ _ _).mono ?_; rintro e w6 ⟨rfl, k6, rfl⟩; rw [HD2.out]))
      go_region_held3 (fun w' => w'.cell? ⟨w.heap.size, 0, none⟩ = some (.int .i64 m) ∧ w'.cell? ⟨w.heap.size, 1, none⟩ = some (.slice A xs.length cp)) (first | go_keep | exact ⟨p2a, p2b⟩ | exact ⟨p7a, p7b⟩ | exact ⟨p3a, p3b⟩ | exact ⟨p4a, p4b⟩ | (simp [p4a, p4b]; done))
        (first | (go_at_call 50; refine (l02Degree_any m A xs.length cp _ (by omega)).mono ?_; rintro e w7 ⟨rfl, hb7⟩; have R7 : Below w2.heap.size w2 w7 := (Below.trans (by (repeat (first | assumption | exact Below.refl _ _ | refine Below.alloc ?_ (by first | omega | (simp; done) | (simp; omega)) _ | refine Below.setCell ?_ (by first | omega | (simp; done) | (simp; omega)) _ | refine below_drewN ?_ _))) (hb7.mono (by first | exact Nat.le_refl _ | (simp; done) | (simp; omega)))); have s7 := R7.size; have K7 : Below w.heap.size w w7 := K2.trans (R7.mono K2.size); have P7 := P2.keep R7; have Q7 := Q2.keep R7; have p7a := P7.1.2.1; have p7b := P7.1.2.2; have z7 := P7.1.1; have q7a := Q7.1.2.1; have q7b := Q7.1.2.2; have q7c := Q7.2.1; have q7d := Q7.2.2; have y7 := Q7.1.1) | (go_at_call 61; refine (l12Spread_any _ _ xs ys kn _ B (hv.keep K7 (Nat.le_refl _)) hkn1 hkn2 (by omega) (by omega) (by omega) HY.out).mono ?_; rintro e w3 ⟨A3, c3, rfl, o3, hb3⟩; have R3 : Below w7.heap.size w7 w3 := (Below.trans (by (repeat (first | assumption | exact Below.refl _ _ | refine Below.alloc ?_ (by first | omega | (simp; done) | (simp; omega)) _ | refine Below.setCell ?_ (by first | omega | (simp; done) | (simp; omega)) _ | refine below_drewN ?_ _))) (hb3.mono (by first | exact Nat.le_refl _ | (simp; done) | (simp; omega)))); have s3 := R3.size; have K3 : Below w.heap.size w w3 := K7.trans (R3.mono K7.size); have P3 := P7.keep R3; have Q3 := Q7.keep R3; have p3a := P3.1.2.1; have p3b := P3.1.2.2; have z3 := P3.1.1; have q3a := Q3.1.2.1; have q3b := Q3.1.2.2; have q3c := Q3.2.1; have q3d := Q3.2.2; have y3 := Q3.1.1) | (go_at_call 51; refine (l02Make_any _ m A3 ys.length c3).mono ?_; rintro e w4 ⟨rfl, hb4⟩; have R4 : Below w3.heap.size w3 w4 := (Below.trans (by (repeat (first | assumption | exact Below.refl _ _ | refine Below.alloc ?_ (by first | omega | (simp; done) | (simp; omega)) _ | refine Below.setCell ?_ (by first | omega | (simp; done) | (simp; omega)) _ | refine below_drewN ?_ _))) (hb4.mono (by first | exact Nat.le_refl _ | (simp; done) | (simp; omega)))); have s4 := R4.size; have K4 : Below w.heap.size w w4 := K3.trans (R4.mono K3.size); have P4 := P3.keep R4; have Q4 := Q3.keep R4; have p4a := P4.1.2.1; have p4b := P4.1.2.2; have z4 := P4.1.1; have q4a := Q4.1.2.1; have q4b := Q4.1.2.2; have q4c := Q4.2.1; have q4d := Q4.2.2; have y4 := Q4.1.1))
      go_wp2
      exact bodyPost_ret (v := .tuple #[.agg #[.int .i64 m, .slice A3 ys.length c3], .int .i64 0]) (by simp [results, Try.results24, go_sem, q4a, q4b]) rfl ⟨A3, c3, rfl, (((o3.keep R4 (Nat.le_refl _)).setCell_lt (by show _ < w7.heap.size; exact y7) _).setCell_lt (by show _ < w7.heap.size; exact y7) _).mono (by show w.heap.size ≤ w7.heap.size; omega), by (repeat (first | assumption | exact Below.refl _ _ | refine Below.alloc ?_ (by first | omega | (simp; done) | (simp; omega)) _ | refine Below.setCell ?_ (by first | omega | (simp; done) | (simp; omega)) _ | refine below_drewN ?_ _))⟩

/-! ### The laws' walks, printed by genlaw.py -/
set_option maxHeartbeats 4000000 in
theorem FnExactVerschiebungOf_walk (w : World) (m0 : Int) (v0 : Value) (xs0 : List Int) (hv0 : RdI w v0 xs0) (a1 : Int) : Calls Try.prog 5 #[.agg #[.int .i64 m0, v0], .int .i64 a1] w fun e w' => e = .returned (.bool true) ∧ Below w.heap.size w w' := by
  obtain ⟨A0, c0, e0⟩ := hv0.form
  subst e0
  obtain ⟨r0, HR⟩ : ∃ r0, Hid (VerschiebungOfR m0 xs0 a1 = r0) := ⟨_, rfl⟩
  obtain ⟨⟨rm, rl⟩, rc⟩ := r0
  have hlen := VerschiebungOfR_len m0 xs0 a1
  rw [HR.out] at hlen
  simp only at hlen
  by_cases hz0 : 1048576 < (xs0.length : Int)
  · skip
    have HZ0 := Lib.hid (szN_lt hz0)
    go_enter Try.func5, Try.ntmps5
    go_wp2_with fail
    refine (szS_any _ m0 _ xs0 (1048576) (hv0.below (by (repeat (first | assumption | exact Below.refl _ _ | refine Below.alloc ?_ (by first | omega | (simp; done) | (simp; omega)) _ | refine Below.setCell ?_ (by first | omega | (simp; done) | (simp; omega)) _ | refine below_drewN ?_ _)))) (by omega) (by omega)).mono ?_
    rintro e w1 ⟨rfl, hb1⟩
    rw [HZ0.out]
    have R : Below w.heap.size w w1 := Below.trans (by (repeat (first | assumption | exact Below.refl _ _ | refine Below.alloc ?_ (by first | omega | (simp; done) | (simp; omega)) _ | refine Below.setCell ?_ (by first | omega | (simp; done) | (simp; omega)) _ | refine below_drewN ?_ _))) (hb1.mono (by first | exact Nat.le_refl _ | (simp; done) | (simp; omega)))
    have s1 : w.heap.size ≤ w1.heap.size := R.size
    have K1 : Hid (Below w.heap.size w w1) := R
    have b0 : Hid (Bx w1 w.heap.size (.int .i64 m0) (.slice A0 xs0.length c0)) := ⟨by have := hb1.size; simp at this; omega, by rw [hb1.cell (by first | (simp; done) | (simp; omega))]; simp, by rw [hb1.cell (by first | (simp; done) | (simp; omega))]; simp⟩
    clear R hb1
    have b0_c := b0.out.2.1
    have b0_d := b0.out.2.2
    have b0_z := b0.out.1
    go_wp2
    go_ret
    exact ⟨rfl, K1.out⟩
  have HZ0 := Lib.hid (szN_ge hz0)
  have hl0 : (xs0.length : Int) ≤ 1048576 := by omega
  clear hz0
  go_enter Try.func5, Try.ntmps5
  go_wp2_with fail
  refine (szS_any _ m0 _ xs0 (1048576) (hv0.below (by (repeat (first | assumption | exact Below.refl _ _ | refine Below.alloc ?_ (by first | omega | (simp; done) | (simp; omega)) _ | refine Below.setCell ?_ (by first | omega | (simp; done) | (simp; omega)) _ | refine below_drewN ?_ _)))) (by omega) (by omega)).mono ?_
  rintro e w2 ⟨rfl, hb2⟩
  rw [HZ0.out]
  have R : Below w.heap.size w w2 := Below.trans (by (repeat (first | assumption | exact Below.refl _ _ | refine Below.alloc ?_ (by first | omega | (simp; done) | (simp; omega)) _ | refine Below.setCell ?_ (by first | omega | (simp; done) | (simp; omega)) _ | refine below_drewN ?_ _))) (hb2.mono (by first | exact Nat.le_refl _ | (simp; done) | (simp; omega)))
  have s2 : w.heap.size ≤ w2.heap.size := R.size
  have K2 : Hid (Below w.heap.size w w2) := R
  have b0 : Hid (Bx w2 w.heap.size (.int .i64 m0) (.slice A0 xs0.length c0)) := ⟨by have := hb2.size; simp at this; omega, by rw [hb2.cell (by first | (simp; done) | (simp; omega))]; simp, by rw [hb2.cell (by first | (simp; done) | (simp; omega))]; simp⟩
  clear R hb2
  have b0_c := b0.out.2.1
  have b0_d := b0.out.2.2
  have b0_z := b0.out.1
  go_wp2_with fail
  refine (toS_any _ m0 _ xs0 (hv0.below K2.out) (by omega)).mono ?_
  rintro e w3 ⟨A_p0, c_p0, rfl, o_p0, hb3⟩
  clear b0_c b0_d b0_z
  have o_p0' := o_p0.mono (show w2.heap.size ≤ _ from by first | exact Nat.le_refl _ | (simp; done) | (simp; omega))
  clear o_p0
  have R : Below w2.heap.size w2 w3 := Below.trans (by (repeat (first | assumption | exact Below.refl _ _ | refine Below.alloc ?_ (by first | omega | (simp; done) | (simp; omega)) _ | refine Below.setCell ?_ (by first | omega | (simp; done) | (simp; omega)) _ | refine below_drewN ?_ _))) (hb3.mono (by first | exact Nat.le_refl _ | (simp; done) | (simp; omega)))
  have s3 : w2.heap.size ≤ w3.heap.size := R.size
  have K3 : Hid (Below w.heap.size w w3) := K2.out.trans (R.mono (by omega))
  replace b0 : Hid (Bx w3 w.heap.size (.int .i64 m0) (.slice A0 xs0.length c0)) := b0.out.keep R
  clear R hb3
  have p0 : Hid (OwnI w3 w2.heap.size (.slice A_p0 xs0.length c_p0) xs0) := o_p0'
  have p0_u : Hid (∀ g, Value.ownBlock (.slice A_p0 xs0.length c_p0) = some g → w2.heap.size ≤ g ∧ g < w3.heap.size) := fun g hg => o_p0'.block_ge hg
  clear o_p0'
  have b0_c := b0.out.2.1
  have b0_d := b0.out.2.2
  have b0_z := b0.out.1
  go_wp2_with fail
  refine (sVerschiebungOfR_any _ m0 (.slice A_p0 xs0.length c_p0) xs0 a1 w2.heap.size (p0.out.keep (by (repeat (first | assumption | exact Below.refl _ _ | refine Below.alloc ?_ (by first | omega | (simp; done) | (simp; omega)) _ | refine Below.setCell ?_ (by first | omega | (simp; done) | (simp; omega)) _ | refine below_drewN ?_ _))) (Nat.le_refl _)) (by omega)).mono ?_
  rintro e w4 h_r
  replace h_r := h_r.of HR
  obtain ⟨A_ow, c_ow, rfl, o_ow, hb4⟩ := h_r
  have o_ow' := o_ow.mono (show w3.heap.size ≤ _ from by first | exact Nat.le_refl _ | (simp; done) | (simp; omega))
  clear o_ow
  clear b0_c b0_d b0_z
  have R : Below w3.heap.size w3 w4 := Below.trans (by (repeat (first | assumption | exact Below.refl _ _ | refine Below.alloc ?_ (by first | omega | (simp; done) | (simp; omega)) _ | refine Below.setCell ?_ (by first | omega | (simp; done) | (simp; omega)) _ | refine below_drewN ?_ _))) (hb4.mono (by first | exact Nat.le_refl _ | (simp; done) | (simp; omega)))
  have s4 : w3.heap.size ≤ w4.heap.size := R.size
  have K4 : Hid (Below w.heap.size w w4) := K3.out.trans (R.mono (by omega))
  replace b0 : Hid (Bx w4 w.heap.size (.int .i64 m0) (.slice A0 xs0.length c0)) := b0.out.keep R
  replace p0 : Hid (OwnI w4 w2.heap.size (.slice A_p0 xs0.length c_p0) xs0) := p0.out.keep R (Nat.le_refl _)
  clear R hb4
  have ow : Hid (OwnI w4 w3.heap.size (.slice A_ow rl.length c_ow) rl) := o_ow'
  have ow_u : Hid (∀ g, Value.ownBlock (.slice A_ow rl.length c_ow) = some g → w3.heap.size ≤ g ∧ g < w4.heap.size) := fun g hg => o_ow'.block_ge hg
  clear o_ow'
  clear p0 p0_u
  have b0_c := b0.out.2.1
  have b0_d := b0.out.2.2
  have b0_z := b0.out.1
  go_wp2_with fail
  refine (toS_any _ m0 _ xs0 (hv0.below (K4.out.trans (Below.mono (by (repeat (first | assumption | exact Below.refl _ _ | refine Below.alloc ?_ (by first | omega | (simp; done) | (simp; omega)) _ | refine Below.setCell ?_ (by first | omega | (simp; done) | (simp; omega)) _ | refine below_drewN ?_ _))) (by omega)))) (by omega)).mono ?_
  rintro e w5 ⟨A_x0, c_x0, rfl, o_x0, hb5⟩
  clear b0_c b0_d b0_z
  have o_x0' := o_x0.mono (show (w4.heap.size + 1) ≤ _ from by first | exact Nat.le_refl _ | (simp; done) | (simp; omega))
  clear o_x0
  have R : Below w4.heap.size w4 w5 := Below.trans (by (repeat (first | assumption | exact Below.refl _ _ | refine Below.alloc ?_ (by first | omega | (simp; done) | (simp; omega)) _ | refine Below.setCell ?_ (by first | omega | (simp; done) | (simp; omega)) _ | refine below_drewN ?_ _))) (hb5.mono (by first | exact Nat.le_refl _ | (simp; done) | (simp; omega)))
  have s5 : w4.heap.size ≤ w5.heap.size := R.size
  have K5 : Hid (Below w.heap.size w w5) := K4.out.trans (R.mono (by omega))
  replace b0 : Hid (Bx w5 w.heap.size (.int .i64 m0) (.slice A0 xs0.length c0)) := b0.out.keep R
  replace ow : Hid (OwnI w5 w3.heap.size (.slice A_ow rl.length c_ow) rl) := ow.out.keep R (Nat.le_refl _)
  have bw : Hid (Bx w5 w4.heap.size (.int .i64 rm) (.slice A_ow rl.length c_ow)) := ⟨by have := hb5.size; simp at this; omega, by rw [hb5.cell (by first | (simp; done) | (simp; omega))]; simp, by rw [hb5.cell (by first | (simp; done) | (simp; omega))]; simp⟩
  clear R hb5
  have x0 : Hid (OwnI w5 (w4.heap.size + 1) (.slice A_x0 xs0.length c_x0) xs0) := o_x0'
  have x0_u : Hid (∀ g, Value.ownBlock (.slice A_x0 xs0.length c_x0) = some g → (w4.heap.size + 1) ≤ g ∧ g < w5.heap.size) := fun g hg => o_x0'.block_ge hg
  clear o_x0'
  have b0_c := b0.out.2.1
  have b0_d := b0.out.2.2
  have b0_z := b0.out.1
  have bw_c := bw.out.2.1
  have bw_d := bw.out.2.2
  have bw_z := bw.out.1
  go_wp2_with fail
  refine (iVerschiebungOfR_any _ m0 (.slice A_x0 xs0.length c_x0) xs0 a1 (w4.heap.size + 1) (x0.out.keep (by (repeat (first | assumption | exact Below.refl _ _ | refine Below.alloc ?_ (by first | omega | (simp; done) | (simp; omega)) _ | refine Below.setCell ?_ (by first | omega | (simp; done) | (simp; omega)) _ | refine below_drewN ?_ _))) (Nat.le_refl _)) (by omega)).mono ?_
  rintro e w6 h_r
  replace h_r := h_r.of HR
  obtain ⟨A_og, c_og, rfl, o_og, hb6⟩ := h_r
  have o_og' := o_og.mono (show (w5.heap.size + 1) ≤ _ from by first | exact Nat.le_refl _ | (simp; done) | (simp; omega))
  clear o_og
  clear b0_c b0_d b0_z
  clear bw_c bw_d bw_z
  have R : Below w5.heap.size w5 w6 := Below.trans (by (repeat (first | assumption | exact Below.refl _ _ | refine Below.alloc ?_ (by first | omega | (simp; done) | (simp; omega)) _ | refine Below.setCell ?_ (by first | omega | (simp; done) | (simp; omega)) _ | refine below_drewN ?_ _))) (hb6.mono (by first | exact Nat.le_refl _ | (simp; done) | (simp; omega)))
  have s6 : w5.heap.size ≤ w6.heap.size := R.size
  have K6 : Hid (Below w.heap.size w w6) := K5.out.trans (R.mono (by omega))
  replace b0 : Hid (Bx w6 w.heap.size (.int .i64 m0) (.slice A0 xs0.length c0)) := b0.out.keep R
  replace bw : Hid (Bx w6 w4.heap.size (.int .i64 rm) (.slice A_ow rl.length c_ow)) := bw.out.keep R
  replace ow : Hid (OwnI w6 w3.heap.size (.slice A_ow rl.length c_ow) rl) := ow.out.keep R (Nat.le_refl _)
  replace x0 : Hid (OwnI w6 (w4.heap.size + 1) (.slice A_x0 xs0.length c_x0) xs0) := x0.out.keep R (Nat.le_refl _)
  have bx0 : Hid (Bx w6 w5.heap.size (.int .i64 m0) (.slice A_x0 xs0.length c_x0)) := ⟨by have := hb6.size; simp at this; omega, by rw [hb6.cell (by first | (simp; done) | (simp; omega))]; simp, by rw [hb6.cell (by first | (simp; done) | (simp; omega))]; simp⟩
  clear R hb6
  have og : Hid (OwnI w6 (w5.heap.size + 1) (.slice A_og rl.length c_og) rl) := o_og'
  have og_u : Hid (∀ g, Value.ownBlock (.slice A_og rl.length c_og) = some g → (w5.heap.size + 1) ≤ g ∧ g < w6.heap.size) := fun g hg => o_og'.block_ge hg
  clear o_og'
  have b0_c := b0.out.2.1
  have b0_d := b0.out.2.2
  have b0_z := b0.out.1
  have bw_c := bw.out.2.1
  have bw_d := bw.out.2.2
  have bw_z := bw.out.1
  have bx0_c := bx0.out.2.1
  have bx0_d := bx0.out.2.2
  have bx0_z := bx0.out.1
  go_wp2_with fail
  refine (eqS_any _ rm rm _ _ _ _ (og.out.keep (by (repeat (first | assumption | exact Below.refl _ _ | refine Below.alloc ?_ (by first | omega | (simp; done) | (simp; omega)) _ | refine Below.setCell ?_ (by first | omega | (simp; done) | (simp; omega)) _ | refine below_drewN ?_ _))) (Nat.le_refl _)).rd (ow.out.keep (by (repeat (first | assumption | exact Below.refl _ _ | refine Below.alloc ?_ (by first | omega | (simp; done) | (simp; omega)) _ | refine Below.setCell ?_ (by first | omega | (simp; done) | (simp; omega)) _ | refine below_drewN ?_ _))) (Nat.le_refl _)).rd).mono ?_
  rintro e w7 ⟨rfl, hb7⟩
  clear b0_c b0_d b0_z
  clear bw_c bw_d bw_z
  clear bx0_c bx0_d bx0_z
  have R : Below w6.heap.size w6 w7 := Below.trans (by (repeat (first | assumption | exact Below.refl _ _ | refine Below.alloc ?_ (by first | omega | (simp; done) | (simp; omega)) _ | refine Below.setCell ?_ (by first | omega | (simp; done) | (simp; omega)) _ | refine below_drewN ?_ _))) (hb7.mono (by first | exact Nat.le_refl _ | (simp; done) | (simp; omega)))
  have s7 : w6.heap.size ≤ w7.heap.size := R.size
  have K7 : Hid (Below w.heap.size w w7) := K6.out.trans (R.mono (by omega))
  replace b0 : Hid (Bx w7 w.heap.size (.int .i64 m0) (.slice A0 xs0.length c0)) := b0.out.keep R
  replace bw : Hid (Bx w7 w4.heap.size (.int .i64 rm) (.slice A_ow rl.length c_ow)) := bw.out.keep R
  replace bx0 : Hid (Bx w7 w5.heap.size (.int .i64 m0) (.slice A_x0 xs0.length c_x0)) := bx0.out.keep R
  replace ow : Hid (OwnI w7 w3.heap.size (.slice A_ow rl.length c_ow) rl) := ow.out.keep R (Nat.le_refl _)
  replace x0 : Hid (OwnI w7 (w4.heap.size + 1) (.slice A_x0 xs0.length c_x0) xs0) := x0.out.keep R (Nat.le_refl _)
  replace og : Hid (OwnI w7 (w5.heap.size + 1) (.slice A_og rl.length c_og) rl) := og.out.keep R (Nat.le_refl _)
  have bg : Hid (Bx w7 w6.heap.size (.int .i64 rm) (.slice A_og rl.length c_og)) := ⟨by have := hb7.size; simp at this; omega, by rw [hb7.cell (by first | (simp; done) | (simp; omega))]; simp, by rw [hb7.cell (by first | (simp; done) | (simp; omega))]; simp⟩
  clear R hb7
  have b0_c := b0.out.2.1
  have b0_d := b0.out.2.2
  have b0_z := b0.out.1
  have bw_c := bw.out.2.1
  have bw_d := bw.out.2.2
  have bw_z := bw.out.1
  have bx0_c := bx0.out.2.1
  have bx0_d := bx0.out.2.2
  have bx0_z := bx0.out.1
  have bg_c := bg.out.2.1
  have bg_d := bg.out.2.2
  have bg_z := bg.out.1
  go_wp2
  clear b0_c b0_d b0_z
  clear bw_c bw_d bw_z
  clear bx0_c bx0_d bx0_z
  clear bg_c bg_d bg_z
  have L0 : Below w.heap.size w w7.drew := below_drew K7.out
  have T0 : Hid (Bx w7.drew w.heap.size (.int .i64 m0) (.slice A0 xs0.length c0) ∧ Bx w7.drew w4.heap.size (.int .i64 rm) (.slice A_ow rl.length c_ow) ∧ Bx w7.drew w5.heap.size (.int .i64 m0) (.slice A_x0 xs0.length c_x0) ∧ Bx w7.drew w6.heap.size (.int .i64 rm) (.slice A_og rl.length c_og) ∧ OwnI w7.drew w3.heap.size (.slice A_ow rl.length c_ow) rl ∧ OwnI w7.drew (w4.heap.size + 1) (.slice A_x0 xs0.length c_x0) xs0 ∧ OwnI w7.drew (w5.heap.size + 1) (.slice A_og rl.length c_og) rl ∧ Below w.heap.size w w7.drew ∧ w7.heap.size ≤ w7.drew.heap.size) := ⟨b0.out, bw.out, bx0.out, bg.out, ow.out, x0.out, og.out, L0, Nat.le_refl _⟩
  go_region_held3 (fun w' => w'.cell? ⟨w.heap.size, 0, none⟩ = some (.int .i64 m0) ∧ w'.cell? ⟨w.heap.size, 1, none⟩ = some (.slice A0 xs0.length c0) ∧ w'.cell? ⟨w4.heap.size, 0, none⟩ = some (.int .i64 rm) ∧ w'.cell? ⟨w4.heap.size, 1, none⟩ = some (.slice A_ow rl.length c_ow) ∧ w'.cell? ⟨w5.heap.size, 0, none⟩ = some (.int .i64 m0) ∧ w'.cell? ⟨w5.heap.size, 1, none⟩ = some (.slice A_x0 xs0.length c_x0) ∧ w'.cell? ⟨w6.heap.size, 0, none⟩ = some (.int .i64 rm) ∧ w'.cell? ⟨w6.heap.size, 1, none⟩ = some (.slice A_og rl.length c_og) ∧ Hid (Bx w' w.heap.size (.int .i64 m0) (.slice A0 xs0.length c0) ∧ Bx w' w4.heap.size (.int .i64 rm) (.slice A_ow rl.length c_ow) ∧ Bx w' w5.heap.size (.int .i64 m0) (.slice A_x0 xs0.length c_x0) ∧ Bx w' w6.heap.size (.int .i64 rm) (.slice A_og rl.length c_og) ∧ OwnI w' w3.heap.size (.slice A_ow rl.length c_ow) rl ∧ OwnI w' (w4.heap.size + 1) (.slice A_x0 xs0.length c_x0) xs0 ∧ OwnI w' (w5.heap.size + 1) (.slice A_og rl.length c_og) rl ∧ Below w.heap.size w w' ∧ w7.heap.size ≤ w'.heap.size))
    (first | exact ⟨(T0.out.1).2.1, (T0.out.1).2.2, (T0.out.2.1).2.1, (T0.out.2.1).2.2, (T0.out.2.2.1).2.1, (T0.out.2.2.1).2.2, (T0.out.2.2.2.1).2.1, (T0.out.2.2.2.1).2.2, T0⟩ | exact ⟨(T1.out.1).2.1, (T1.out.1).2.2, (T1.out.2.1).2.1, (T1.out.2.1).2.2, (T1.out.2.2.1).2.1, (T1.out.2.2.1).2.2, (T1.out.2.2.2.1).2.1, (T1.out.2.2.2.1).2.2, T1⟩ | exact ⟨(T2.out.1).2.1, (T2.out.1).2.2, (T2.out.2.1).2.1, (T2.out.2.1).2.2, (T2.out.2.2.1).2.1, (T2.out.2.2.1).2.2, (T2.out.2.2.2.1).2.1, (T2.out.2.2.2.1).2.2, T2⟩)
    (first
      | (go_at_call 17; refine (toS_any _ m0 _ xs0 (hv0.below L0) (by omega)).mono ?_; rintro e w8 ⟨A_t, c_t, rfl, o_t, hbA⟩; have T1 : Hid (Bx w8 w.heap.size (.int .i64 m0) (.slice A0 xs0.length c0) ∧ Bx w8 w4.heap.size (.int .i64 rm) (.slice A_ow rl.length c_ow) ∧ Bx w8 w5.heap.size (.int .i64 m0) (.slice A_x0 xs0.length c_x0) ∧ Bx w8 w6.heap.size (.int .i64 rm) (.slice A_og rl.length c_og) ∧ OwnI w8 w3.heap.size (.slice A_ow rl.length c_ow) rl ∧ OwnI w8 (w4.heap.size + 1) (.slice A_x0 xs0.length c_x0) xs0 ∧ OwnI w8 (w5.heap.size + 1) (.slice A_og rl.length c_og) rl ∧ Below w.heap.size w w8 ∧ w7.heap.size ≤ w8.heap.size) := ⟨(T0.out.1).keep hbA, (T0.out.2.1).keep hbA, (T0.out.2.2.1).keep hbA, (T0.out.2.2.2.1).keep hbA, (T0.out.2.2.2.2.1).keep hbA (Nat.le_refl _), (T0.out.2.2.2.2.2.1).keep hbA (Nat.le_refl _), (T0.out.2.2.2.2.2.2.1).keep hbA (Nat.le_refl _), (T0.out.2.2.2.2.2.2.2.1).trans (hbA.mono (Nat.le_trans (show w.heap.size ≤ w7.heap.size from by omega) (T0.out.2.2.2.2.2.2.2.2))), Nat.le_trans (T0.out.2.2.2.2.2.2.2.2) hbA.size⟩)
      | (go_at_call 19; refine (eqS_any _ m0 m0 _ _ xs0 xs0 (T1.out.2.2.2.2.2.1).rd o_t.rd).mono ?_; rintro e w9 ⟨rfl, hbB⟩; have T2 : Hid (Bx w9 w.heap.size (.int .i64 m0) (.slice A0 xs0.length c0) ∧ Bx w9 w4.heap.size (.int .i64 rm) (.slice A_ow rl.length c_ow) ∧ Bx w9 w5.heap.size (.int .i64 m0) (.slice A_x0 xs0.length c_x0) ∧ Bx w9 w6.heap.size (.int .i64 rm) (.slice A_og rl.length c_og) ∧ OwnI w9 w3.heap.size (.slice A_ow rl.length c_ow) rl ∧ OwnI w9 (w4.heap.size + 1) (.slice A_x0 xs0.length c_x0) xs0 ∧ OwnI w9 (w5.heap.size + 1) (.slice A_og rl.length c_og) rl ∧ Below w.heap.size w w9 ∧ w7.heap.size ≤ w9.heap.size) := ⟨(T1.out.1).keep hbB, (T1.out.2.1).keep hbB, (T1.out.2.2.1).keep hbB, (T1.out.2.2.2.1).keep hbB, (T1.out.2.2.2.2.1).keep hbB (Nat.le_refl _), (T1.out.2.2.2.2.2.1).keep hbB (Nat.le_refl _), (T1.out.2.2.2.2.2.2.1).keep hbB (Nat.le_refl _), (T1.out.2.2.2.2.2.2.2.1).trans (hbB.mono (Nat.le_trans (show w.heap.size ≤ w7.heap.size from by omega) (T1.out.2.2.2.2.2.2.2.2))), Nat.le_trans (T1.out.2.2.2.2.2.2.2.2) hbB.size⟩))
  have s9 : w7.heap.size ≤ w9.heap.size := T2.out.2.2.2.2.2.2.2.2
  have K9 : Hid (Below w.heap.size w w9) := T2.out.2.2.2.2.2.2.2.1
  replace b0 : Hid (Bx w9 w.heap.size (.int .i64 m0) (.slice A0 xs0.length c0)) := T2.out.1
  replace bw : Hid (Bx w9 w4.heap.size (.int .i64 rm) (.slice A_ow rl.length c_ow)) := T2.out.2.1
  replace bx0 : Hid (Bx w9 w5.heap.size (.int .i64 m0) (.slice A_x0 xs0.length c_x0)) := T2.out.2.2.1
  replace bg : Hid (Bx w9 w6.heap.size (.int .i64 rm) (.slice A_og rl.length c_og)) := T2.out.2.2.2.1
  replace ow : Hid (OwnI w9 w3.heap.size (.slice A_ow rl.length c_ow) rl) := T2.out.2.2.2.2.1
  replace x0 : Hid (OwnI w9 (w4.heap.size + 1) (.slice A_x0 xs0.length c_x0) xs0) := T2.out.2.2.2.2.2.1
  replace og : Hid (OwnI w9 (w5.heap.size + 1) (.slice A_og rl.length c_og) rl) := T2.out.2.2.2.2.2.2.1
  clear T0 T1 T2 L0 o_t
  have b0_c := b0.out.2.1
  have b0_d := b0.out.2.2
  have b0_z := b0.out.1
  have bw_c := bw.out.2.1
  have bw_d := bw.out.2.2
  have bw_z := bw.out.1
  have bx0_c := bx0.out.2.1
  have bx0_d := bx0.out.2.2
  have bx0_z := bx0.out.1
  have bg_c := bg.out.2.1
  have bg_d := bg.out.2.2
  have bg_z := bg.out.1
  go_wp2_with fail
  refine (markS_any _ (w4.heap.size + 1) m0 _ _ xs0.length (1) (x0.out.keep (by (repeat (first | assumption | exact Below.refl _ _ | refine Below.alloc ?_ (by first | omega | (simp; done) | (simp; omega)) _ | refine Below.setCell ?_ (by first | omega | (simp; done) | (simp; omega)) _ | refine below_drewN ?_ _))) (Nat.le_refl _)) rfl (by omega) (by omega) (by omega)).mono ?_
  rintro e w10 ⟨rfl, o_m, hg10⟩
  clear b0_c b0_d b0_z
  clear bw_c bw_d bw_z
  clear bx0_c bx0_d bx0_z
  clear bg_c bg_d bg_z
  have R : w9.grownBy w10 (Value.ownBlock (.slice A_x0 xs0.length c_x0)) := grownBy_behind (by (repeat (first | assumption | exact Below.refl _ _ | refine Below.alloc ?_ (by first | omega | (simp; done) | (simp; omega)) _ | refine Below.setCell ?_ (by first | omega | (simp; done) | (simp; omega)) _ | refine below_drewN ?_ _))) hg10
  have s10 : w9.heap.size ≤ w10.heap.size := R.size
  have K10 : Hid (Below w.heap.size w w10) := below_grownBy K9.out (by omega) R (fun g hg => by have := x0_u.out g hg; omega)
  replace b0 : Hid (Bx w10 w.heap.size (.int .i64 m0) (.slice A0 xs0.length c0)) := b0.out.grown R (fun g hg => by have := x0_u.out g hg; omega)
  replace bw : Hid (Bx w10 w4.heap.size (.int .i64 rm) (.slice A_ow rl.length c_ow)) := bw.out.grown R (fun g hg => by have := x0_u.out g hg; omega)
  replace bx0 : Hid (Bx w10 w5.heap.size (.int .i64 m0) (.slice A_x0 xs0.length c_x0)) := bx0.out.grown R (fun g hg => by have := x0_u.out g hg; omega)
  replace bg : Hid (Bx w10 w6.heap.size (.int .i64 rm) (.slice A_og rl.length c_og)) := bg.out.grown R (fun g hg => by have := x0_u.out g hg; omega)
  replace ow : Hid (OwnI w10 w3.heap.size (.slice A_ow rl.length c_ow) rl) := ow.out.grown R (fun g g' hg hg' => by have := ow_u.out g hg; have := x0_u.out g' hg'; omega)
  replace og : Hid (OwnI w10 (w5.heap.size + 1) (.slice A_og rl.length c_og) rl) := og.out.grown R (fun g g' hg hg' => by have := og_u.out g hg; have := x0_u.out g' hg'; omega)
  clear R hg10
  replace x0 : Hid (OwnI w10 (w4.heap.size + 1) (.slice A_x0 xs0.length c_x0) (marks (1) xs0.length)) := o_m
  clear o_m
  have b0_c := b0.out.2.1
  have b0_d := b0.out.2.2
  have b0_z := b0.out.1
  have bw_c := bw.out.2.1
  have bw_d := bw.out.2.2
  have bw_z := bw.out.1
  have bx0_c := bx0.out.2.1
  have bx0_d := bx0.out.2.2
  have bx0_z := bx0.out.1
  have bg_c := bg.out.2.1
  have bg_d := bg.out.2.2
  have bg_z := bg.out.1
  go_wp2_with fail
  refine (eqS_any _ rm rm _ _ _ _ (og.out.keep (by (repeat (first | assumption | exact Below.refl _ _ | refine Below.alloc ?_ (by first | omega | (simp; done) | (simp; omega)) _ | refine Below.setCell ?_ (by first | omega | (simp; done) | (simp; omega)) _ | refine below_drewN ?_ _))) (Nat.le_refl _)).rd (ow.out.keep (by (repeat (first | assumption | exact Below.refl _ _ | refine Below.alloc ?_ (by first | omega | (simp; done) | (simp; omega)) _ | refine Below.setCell ?_ (by first | omega | (simp; done) | (simp; omega)) _ | refine below_drewN ?_ _))) (Nat.le_refl _)).rd).mono ?_
  rintro e w11 ⟨rfl, hb11⟩
  clear b0_c b0_d b0_z
  clear bw_c bw_d bw_z
  clear bx0_c bx0_d bx0_z
  clear bg_c bg_d bg_z
  have R : Below w10.heap.size w10 w11 := Below.trans (by (repeat (first | assumption | exact Below.refl _ _ | refine Below.alloc ?_ (by first | omega | (simp; done) | (simp; omega)) _ | refine Below.setCell ?_ (by first | omega | (simp; done) | (simp; omega)) _ | refine below_drewN ?_ _))) (hb11.mono (by first | exact Nat.le_refl _ | (simp; done) | (simp; omega)))
  have s11 : w10.heap.size ≤ w11.heap.size := R.size
  have K11 : Hid (Below w.heap.size w w11) := K10.out.trans (R.mono (by omega))
  replace b0 : Hid (Bx w11 w.heap.size (.int .i64 m0) (.slice A0 xs0.length c0)) := b0.out.keep R
  replace bw : Hid (Bx w11 w4.heap.size (.int .i64 rm) (.slice A_ow rl.length c_ow)) := bw.out.keep R
  replace bx0 : Hid (Bx w11 w5.heap.size (.int .i64 m0) (.slice A_x0 xs0.length c_x0)) := bx0.out.keep R
  replace bg : Hid (Bx w11 w6.heap.size (.int .i64 rm) (.slice A_og rl.length c_og)) := bg.out.keep R
  replace ow : Hid (OwnI w11 w3.heap.size (.slice A_ow rl.length c_ow) rl) := ow.out.keep R (Nat.le_refl _)
  replace x0 : Hid (OwnI w11 (w4.heap.size + 1) (.slice A_x0 xs0.length c_x0) (marks (1) xs0.length)) := x0.out.keep R (Nat.le_refl _)
  replace og : Hid (OwnI w11 (w5.heap.size + 1) (.slice A_og rl.length c_og) rl) := og.out.keep R (Nat.le_refl _)
  clear R hb11
  have b0_c := b0.out.2.1
  have b0_d := b0.out.2.2
  have b0_z := b0.out.1
  have bw_c := bw.out.2.1
  have bw_d := bw.out.2.2
  have bw_z := bw.out.1
  have bx0_c := bx0.out.2.1
  have bx0_d := bx0.out.2.2
  have bx0_z := bx0.out.1
  have bg_c := bg.out.2.1
  have bg_d := bg.out.2.2
  have bg_z := bg.out.1
  go_wp2_with fail
  refine (markS_any _ (w5.heap.size + 1) rm _ _ rl.length (1) (og.out.keep (by (repeat (first | assumption | exact Below.refl _ _ | refine Below.alloc ?_ (by first | omega | (simp; done) | (simp; omega)) _ | refine Below.setCell ?_ (by first | omega | (simp; done) | (simp; omega)) _ | refine below_drewN ?_ _))) (Nat.le_refl _)) rfl (by omega) (by omega) (by omega)).mono ?_
  rintro e w12 ⟨rfl, o_m, hg12⟩
  clear b0_c b0_d b0_z
  clear bw_c bw_d bw_z
  clear bx0_c bx0_d bx0_z
  clear bg_c bg_d bg_z
  have R : w11.grownBy w12 (Value.ownBlock (.slice A_og rl.length c_og)) := grownBy_behind (by (repeat (first | assumption | exact Below.refl _ _ | refine Below.alloc ?_ (by first | omega | (simp; done) | (simp; omega)) _ | refine Below.setCell ?_ (by first | omega | (simp; done) | (simp; omega)) _ | refine below_drewN ?_ _))) hg12
  have s12 : w11.heap.size ≤ w12.heap.size := R.size
  have K12 : Hid (Below w.heap.size w w12) := below_grownBy K11.out (by omega) R (fun g hg => by have := og_u.out g hg; omega)
  replace b0 : Hid (Bx w12 w.heap.size (.int .i64 m0) (.slice A0 xs0.length c0)) := b0.out.grown R (fun g hg => by have := og_u.out g hg; omega)
  replace bw : Hid (Bx w12 w4.heap.size (.int .i64 rm) (.slice A_ow rl.length c_ow)) := bw.out.grown R (fun g hg => by have := og_u.out g hg; omega)
  replace bx0 : Hid (Bx w12 w5.heap.size (.int .i64 m0) (.slice A_x0 xs0.length c_x0)) := bx0.out.grown R (fun g hg => by have := og_u.out g hg; omega)
  replace bg : Hid (Bx w12 w6.heap.size (.int .i64 rm) (.slice A_og rl.length c_og)) := bg.out.grown R (fun g hg => by have := og_u.out g hg; omega)
  replace ow : Hid (OwnI w12 w3.heap.size (.slice A_ow rl.length c_ow) rl) := ow.out.grown R (fun g g' hg hg' => by have := ow_u.out g hg; have := og_u.out g' hg'; omega)
  replace x0 : Hid (OwnI w12 (w4.heap.size + 1) (.slice A_x0 xs0.length c_x0) (marks (1) xs0.length)) := x0.out.grown R (fun g g' hg hg' => by have := x0_u.out g hg; have := og_u.out g' hg'; omega)
  clear R hg12
  replace og : Hid (OwnI w12 (w5.heap.size + 1) (.slice A_og rl.length c_og) (marks (1) rl.length)) := o_m
  clear o_m
  have b0_c := b0.out.2.1
  have b0_d := b0.out.2.2
  have b0_z := b0.out.1
  have bw_c := bw.out.2.1
  have bw_d := bw.out.2.2
  have bw_z := bw.out.1
  have bx0_c := bx0.out.2.1
  have bx0_d := bx0.out.2.2
  have bx0_z := bx0.out.1
  have bg_c := bg.out.2.1
  have bg_d := bg.out.2.2
  have bg_z := bg.out.1
  go_wp2_with fail
  refine (heldS_any _ (w5.heap.size + 1) rm _ rl.length (1) (og.out.keep (by (repeat (first | assumption | exact Below.refl _ _ | refine Below.alloc ?_ (by first | omega | (simp; done) | (simp; omega)) _ | refine Below.setCell ?_ (by first | omega | (simp; done) | (simp; omega)) _ | refine below_drewN ?_ _))) (Nat.le_refl _)) (by omega) (by omega) (by omega)).mono ?_
  rintro e w13 ⟨rfl, hb13⟩
  clear b0_c b0_d b0_z
  clear bw_c bw_d bw_z
  clear bx0_c bx0_d bx0_z
  clear bg_c bg_d bg_z
  have R : Below w12.heap.size w12 w13 := Below.trans (by (repeat (first | assumption | exact Below.refl _ _ | refine Below.alloc ?_ (by first | omega | (simp; done) | (simp; omega)) _ | refine Below.setCell ?_ (by first | omega | (simp; done) | (simp; omega)) _ | refine below_drewN ?_ _))) (hb13.mono (by first | exact Nat.le_refl _ | (simp; done) | (simp; omega)))
  have s13 : w12.heap.size ≤ w13.heap.size := R.size
  have K13 : Hid (Below w.heap.size w w13) := K12.out.trans (R.mono (by omega))
  replace b0 : Hid (Bx w13 w.heap.size (.int .i64 m0) (.slice A0 xs0.length c0)) := b0.out.keep R
  replace bw : Hid (Bx w13 w4.heap.size (.int .i64 rm) (.slice A_ow rl.length c_ow)) := bw.out.keep R
  replace bx0 : Hid (Bx w13 w5.heap.size (.int .i64 m0) (.slice A_x0 xs0.length c_x0)) := bx0.out.keep R
  replace bg : Hid (Bx w13 w6.heap.size (.int .i64 rm) (.slice A_og rl.length c_og)) := bg.out.keep R
  replace ow : Hid (OwnI w13 w3.heap.size (.slice A_ow rl.length c_ow) rl) := ow.out.keep R (Nat.le_refl _)
  replace x0 : Hid (OwnI w13 (w4.heap.size + 1) (.slice A_x0 xs0.length c_x0) (marks (1) xs0.length)) := x0.out.keep R (Nat.le_refl _)
  replace og : Hid (OwnI w13 (w5.heap.size + 1) (.slice A_og rl.length c_og) (marks (1) rl.length)) := og.out.keep R (Nat.le_refl _)
  clear R hb13
  have b0_c := b0.out.2.1
  have b0_d := b0.out.2.2
  have b0_z := b0.out.1
  have bw_c := bw.out.2.1
  have bw_d := bw.out.2.2
  have bw_z := bw.out.1
  have bx0_c := bx0.out.2.1
  have bx0_d := bx0.out.2.2
  have bx0_z := bx0.out.1
  have bg_c := bg.out.2.1
  have bg_d := bg.out.2.2
  have bg_z := bg.out.1
  go_wp2_with fail
  refine (toS_any _ m0 _ xs0 (hv0.below K13.out) (by omega)).mono ?_
  rintro e w14 ⟨A_y0, c_y0, rfl, o_y0, hb14⟩
  clear b0_c b0_d b0_z
  clear bw_c bw_d bw_z
  clear bx0_c bx0_d bx0_z
  clear bg_c bg_d bg_z
  have o_y0' := o_y0.mono (show w13.heap.size ≤ _ from by first | exact Nat.le_refl _ | (simp; done) | (simp; omega))
  clear o_y0
  have R : Below w13.heap.size w13 w14 := Below.trans (by (repeat (first | assumption | exact Below.refl _ _ | refine Below.alloc ?_ (by first | omega | (simp; done) | (simp; omega)) _ | refine Below.setCell ?_ (by first | omega | (simp; done) | (simp; omega)) _ | refine below_drewN ?_ _))) (hb14.mono (by first | exact Nat.le_refl _ | (simp; done) | (simp; omega)))
  have s14 : w13.heap.size ≤ w14.heap.size := R.size
  have K14 : Hid (Below w.heap.size w w14) := K13.out.trans (R.mono (by omega))
  replace b0 : Hid (Bx w14 w.heap.size (.int .i64 m0) (.slice A0 xs0.length c0)) := b0.out.keep R
  replace bw : Hid (Bx w14 w4.heap.size (.int .i64 rm) (.slice A_ow rl.length c_ow)) := bw.out.keep R
  replace bx0 : Hid (Bx w14 w5.heap.size (.int .i64 m0) (.slice A_x0 xs0.length c_x0)) := bx0.out.keep R
  replace bg : Hid (Bx w14 w6.heap.size (.int .i64 rm) (.slice A_og rl.length c_og)) := bg.out.keep R
  replace ow : Hid (OwnI w14 w3.heap.size (.slice A_ow rl.length c_ow) rl) := ow.out.keep R (Nat.le_refl _)
  replace x0 : Hid (OwnI w14 (w4.heap.size + 1) (.slice A_x0 xs0.length c_x0) (marks (1) xs0.length)) := x0.out.keep R (Nat.le_refl _)
  replace og : Hid (OwnI w14 (w5.heap.size + 1) (.slice A_og rl.length c_og) (marks (1) rl.length)) := og.out.keep R (Nat.le_refl _)
  clear R hb14
  have y0 : Hid (OwnI w14 w13.heap.size (.slice A_y0 xs0.length c_y0) xs0) := o_y0'
  have y0_u : Hid (∀ g, Value.ownBlock (.slice A_y0 xs0.length c_y0) = some g → w13.heap.size ≤ g ∧ g < w14.heap.size) := fun g hg => o_y0'.block_ge hg
  clear o_y0'
  have b0_c := b0.out.2.1
  have b0_d := b0.out.2.2
  have b0_z := b0.out.1
  have bw_c := bw.out.2.1
  have bw_d := bw.out.2.2
  have bw_z := bw.out.1
  have bx0_c := bx0.out.2.1
  have bx0_d := bx0.out.2.2
  have bx0_z := bx0.out.1
  have bg_c := bg.out.2.1
  have bg_d := bg.out.2.2
  have bg_z := bg.out.1
  go_wp2_with fail
  refine (iVerschiebungOfR_any _ m0 (.slice A_y0 xs0.length c_y0) xs0 a1 w13.heap.size (y0.out.keep (by (repeat (first | assumption | exact Below.refl _ _ | refine Below.alloc ?_ (by first | omega | (simp; done) | (simp; omega)) _ | refine Below.setCell ?_ (by first | omega | (simp; done) | (simp; omega)) _ | refine below_drewN ?_ _))) (Nat.le_refl _)) (by omega)).mono ?_
  rintro e w15 h_r
  replace h_r := h_r.of HR
  obtain ⟨A_oh, c_oh, rfl, o_oh, hb15⟩ := h_r
  have o_oh' := o_oh.mono (show w14.heap.size ≤ _ from by first | exact Nat.le_refl _ | (simp; done) | (simp; omega))
  clear o_oh
  clear b0_c b0_d b0_z
  clear bw_c bw_d bw_z
  clear bx0_c bx0_d bx0_z
  clear bg_c bg_d bg_z
  have R : Below w14.heap.size w14 w15 := Below.trans (by (repeat (first | assumption | exact Below.refl _ _ | refine Below.alloc ?_ (by first | omega | (simp; done) | (simp; omega)) _ | refine Below.setCell ?_ (by first | omega | (simp; done) | (simp; omega)) _ | refine below_drewN ?_ _))) (hb15.mono (by first | exact Nat.le_refl _ | (simp; done) | (simp; omega)))
  have s15 : w14.heap.size ≤ w15.heap.size := R.size
  have K15 : Hid (Below w.heap.size w w15) := K14.out.trans (R.mono (by omega))
  replace b0 : Hid (Bx w15 w.heap.size (.int .i64 m0) (.slice A0 xs0.length c0)) := b0.out.keep R
  replace bw : Hid (Bx w15 w4.heap.size (.int .i64 rm) (.slice A_ow rl.length c_ow)) := bw.out.keep R
  replace bx0 : Hid (Bx w15 w5.heap.size (.int .i64 m0) (.slice A_x0 xs0.length c_x0)) := bx0.out.keep R
  replace bg : Hid (Bx w15 w6.heap.size (.int .i64 rm) (.slice A_og rl.length c_og)) := bg.out.keep R
  replace ow : Hid (OwnI w15 w3.heap.size (.slice A_ow rl.length c_ow) rl) := ow.out.keep R (Nat.le_refl _)
  replace x0 : Hid (OwnI w15 (w4.heap.size + 1) (.slice A_x0 xs0.length c_x0) (marks (1) xs0.length)) := x0.out.keep R (Nat.le_refl _)
  replace og : Hid (OwnI w15 (w5.heap.size + 1) (.slice A_og rl.length c_og) (marks (1) rl.length)) := og.out.keep R (Nat.le_refl _)
  replace y0 : Hid (OwnI w15 w13.heap.size (.slice A_y0 xs0.length c_y0) xs0) := y0.out.keep R (Nat.le_refl _)
  clear R hb15
  have oh : Hid (OwnI w15 w14.heap.size (.slice A_oh rl.length c_oh) rl) := o_oh'
  have oh_u : Hid (∀ g, Value.ownBlock (.slice A_oh rl.length c_oh) = some g → w14.heap.size ≤ g ∧ g < w15.heap.size) := fun g hg => o_oh'.block_ge hg
  clear o_oh'
  have b0_c := b0.out.2.1
  have b0_d := b0.out.2.2
  have b0_z := b0.out.1
  have bw_c := bw.out.2.1
  have bw_d := bw.out.2.2
  have bw_z := bw.out.1
  have bx0_c := bx0.out.2.1
  have bx0_d := bx0.out.2.2
  have bx0_z := bx0.out.1
  have bg_c := bg.out.2.1
  have bg_d := bg.out.2.2
  have bg_z := bg.out.1
  go_wp2_with fail
  refine (eqS_any _ rm rm _ _ _ _ (oh.out.keep (by (repeat (first | assumption | exact Below.refl _ _ | refine Below.alloc ?_ (by first | omega | (simp; done) | (simp; omega)) _ | refine Below.setCell ?_ (by first | omega | (simp; done) | (simp; omega)) _ | refine below_drewN ?_ _))) (Nat.le_refl _)).rd (ow.out.keep (by (repeat (first | assumption | exact Below.refl _ _ | refine Below.alloc ?_ (by first | omega | (simp; done) | (simp; omega)) _ | refine Below.setCell ?_ (by first | omega | (simp; done) | (simp; omega)) _ | refine below_drewN ?_ _))) (Nat.le_refl _)).rd).mono ?_
  rintro e w16 ⟨rfl, hb16⟩
  clear b0_c b0_d b0_z
  clear bw_c bw_d bw_z
  clear bx0_c bx0_d bx0_z
  clear bg_c bg_d bg_z
  have R : Below w15.heap.size w15 w16 := Below.trans (by (repeat (first | assumption | exact Below.refl _ _ | refine Below.alloc ?_ (by first | omega | (simp; done) | (simp; omega)) _ | refine Below.setCell ?_ (by first | omega | (simp; done) | (simp; omega)) _ | refine below_drewN ?_ _))) (hb16.mono (by first | exact Nat.le_refl _ | (simp; done) | (simp; omega)))
  have s16 : w15.heap.size ≤ w16.heap.size := R.size
  have K16 : Hid (Below w.heap.size w w16) := K15.out.trans (R.mono (by omega))
  replace b0 : Hid (Bx w16 w.heap.size (.int .i64 m0) (.slice A0 xs0.length c0)) := b0.out.keep R
  replace bw : Hid (Bx w16 w4.heap.size (.int .i64 rm) (.slice A_ow rl.length c_ow)) := bw.out.keep R
  replace bx0 : Hid (Bx w16 w5.heap.size (.int .i64 m0) (.slice A_x0 xs0.length c_x0)) := bx0.out.keep R
  replace bg : Hid (Bx w16 w6.heap.size (.int .i64 rm) (.slice A_og rl.length c_og)) := bg.out.keep R
  replace ow : Hid (OwnI w16 w3.heap.size (.slice A_ow rl.length c_ow) rl) := ow.out.keep R (Nat.le_refl _)
  replace x0 : Hid (OwnI w16 (w4.heap.size + 1) (.slice A_x0 xs0.length c_x0) (marks (1) xs0.length)) := x0.out.keep R (Nat.le_refl _)
  replace og : Hid (OwnI w16 (w5.heap.size + 1) (.slice A_og rl.length c_og) (marks (1) rl.length)) := og.out.keep R (Nat.le_refl _)
  replace y0 : Hid (OwnI w16 w13.heap.size (.slice A_y0 xs0.length c_y0) xs0) := y0.out.keep R (Nat.le_refl _)
  replace oh : Hid (OwnI w16 w14.heap.size (.slice A_oh rl.length c_oh) rl) := oh.out.keep R (Nat.le_refl _)
  have bh : Hid (Bx w16 w15.heap.size (.int .i64 rm) (.slice A_oh rl.length c_oh)) := ⟨by have := hb16.size; simp at this; omega, by rw [hb16.cell (by first | (simp; done) | (simp; omega))]; simp, by rw [hb16.cell (by first | (simp; done) | (simp; omega))]; simp⟩
  clear R hb16
  have b0_c := b0.out.2.1
  have b0_d := b0.out.2.2
  have b0_z := b0.out.1
  have bw_c := bw.out.2.1
  have bw_d := bw.out.2.2
  have bw_z := bw.out.1
  have bx0_c := bx0.out.2.1
  have bx0_d := bx0.out.2.2
  have bx0_z := bx0.out.1
  have bg_c := bg.out.2.1
  have bg_d := bg.out.2.2
  have bg_z := bg.out.1
  have bh_c := bh.out.2.1
  have bh_d := bh.out.2.2
  have bh_z := bh.out.1
  go_wp2_with fail
  refine (heldS_any _ (w5.heap.size + 1) rm _ rl.length (1) (og.out.keep (by (repeat (first | assumption | exact Below.refl _ _ | refine Below.alloc ?_ (by first | omega | (simp; done) | (simp; omega)) _ | refine Below.setCell ?_ (by first | omega | (simp; done) | (simp; omega)) _ | refine below_drewN ?_ _))) (Nat.le_refl _)) (by omega) (by omega) (by omega)).mono ?_
  rintro e w17 ⟨rfl, hb17⟩
  clear b0_c b0_d b0_z
  clear bw_c bw_d bw_z
  clear bx0_c bx0_d bx0_z
  clear bg_c bg_d bg_z
  clear bh_c bh_d bh_z
  have R : Below w16.heap.size w16 w17 := Below.trans (by (repeat (first | assumption | exact Below.refl _ _ | refine Below.alloc ?_ (by first | omega | (simp; done) | (simp; omega)) _ | refine Below.setCell ?_ (by first | omega | (simp; done) | (simp; omega)) _ | refine below_drewN ?_ _))) (hb17.mono (by first | exact Nat.le_refl _ | (simp; done) | (simp; omega)))
  have s17 : w16.heap.size ≤ w17.heap.size := R.size
  have K17 : Hid (Below w.heap.size w w17) := K16.out.trans (R.mono (by omega))
  replace b0 : Hid (Bx w17 w.heap.size (.int .i64 m0) (.slice A0 xs0.length c0)) := b0.out.keep R
  replace bw : Hid (Bx w17 w4.heap.size (.int .i64 rm) (.slice A_ow rl.length c_ow)) := bw.out.keep R
  replace bx0 : Hid (Bx w17 w5.heap.size (.int .i64 m0) (.slice A_x0 xs0.length c_x0)) := bx0.out.keep R
  replace bg : Hid (Bx w17 w6.heap.size (.int .i64 rm) (.slice A_og rl.length c_og)) := bg.out.keep R
  replace bh : Hid (Bx w17 w15.heap.size (.int .i64 rm) (.slice A_oh rl.length c_oh)) := bh.out.keep R
  replace ow : Hid (OwnI w17 w3.heap.size (.slice A_ow rl.length c_ow) rl) := ow.out.keep R (Nat.le_refl _)
  replace x0 : Hid (OwnI w17 (w4.heap.size + 1) (.slice A_x0 xs0.length c_x0) (marks (1) xs0.length)) := x0.out.keep R (Nat.le_refl _)
  replace og : Hid (OwnI w17 (w5.heap.size + 1) (.slice A_og rl.length c_og) (marks (1) rl.length)) := og.out.keep R (Nat.le_refl _)
  replace y0 : Hid (OwnI w17 w13.heap.size (.slice A_y0 xs0.length c_y0) xs0) := y0.out.keep R (Nat.le_refl _)
  replace oh : Hid (OwnI w17 w14.heap.size (.slice A_oh rl.length c_oh) rl) := oh.out.keep R (Nat.le_refl _)
  clear R hb17
  have b0_c := b0.out.2.1
  have b0_d := b0.out.2.2
  have b0_z := b0.out.1
  have bw_c := bw.out.2.1
  have bw_d := bw.out.2.2
  have bw_z := bw.out.1
  have bx0_c := bx0.out.2.1
  have bx0_d := bx0.out.2.2
  have bx0_z := bx0.out.1
  have bg_c := bg.out.2.1
  have bg_d := bg.out.2.2
  have bg_z := bg.out.1
  have bh_c := bh.out.2.1
  have bh_d := bh.out.2.2
  have bh_z := bh.out.1
  go_wp2
  go_ret
  exact ⟨rfl, K17.out⟩


end Go.Proofs.Ytfdklbimdkaaiaa
