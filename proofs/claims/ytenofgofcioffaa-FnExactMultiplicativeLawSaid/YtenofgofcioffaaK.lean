/- Contracts over this seat's translation. Condition: each contract's own. -/
import Derived.Test.YtenofgofcioffaaJ
import Derived.ProofKit
import Derived.OpenShut
import Derived.Below
import Derived.ChangeSame
import Derived.Deep.Modes
import Derived.Lib.SmallJoins
import Derived.ChangeSlices
import Derived.WalkKit
import Derived.WalkSpells
import Derived.WalkLawsBesides
import Derived.Deep.QuietTactic
import Derived.BigQuiet
import Derived.Deep.RegionHeld3
import Derived.Deep.RegionWith
import Derived.Deep.RegionLaw
import Derived.Deep.AppendLies
import Derived.Laws.CopyOwn
import Derived.Deep.DeepCutAuto
import Derived.Deep.OwnRows
import Derived.Deep.LoopGhost
import Derived.Deep.DeepFit
import Derived.Deep.DeepMust
import Derived.Deep.Draws
import Derived.Deep.CutRange
import Derived.Maps.AppendAt
import Derived.Lib.Hide
import Derived.StillTailTactics
import Derived.Laws.MakeOwn
import Derived.Deep.Matrix
set_option linter.unusedVariables false
open Go Go.RowKit
namespace Go.Proofs.Ytenofgofcioffaa
/-! ### A series on an axis -/
theorem co_lst' {d : Nat} {g : Nat → Int} {k : Nat} (h : k < d) : co (lst d g) k = g k := getD_lst _ _ _ h
def varL (n : Nat) : List Int := lst n fun k => if k = 1 then 1 else 0
theorem length_varL (n : Nat) : (varL n).length = n := length_lst _ _
theorem var_set (n : Nat) : (List.replicate n (0 : Int)).set 1 1 = varL n := by
  rw [replicate_lst, set_lst]
  rfl
def axF (xs : List Int) (k : Int) (i j : Nat) : Int := if k = 0 then (if j = 0 then co xs i else 0) else if i = 0 then co xs j else 0
def axTo (xs : List Int) (k : Int) (q i j : Nat) : Int := if (if k = 0 then i else j) < q then axF xs k i j else 0
theorem axTo_zero (xs : List Int) (k : Int) (n : Nat) : (tab n fun _ _ => 0) = tab n (axTo xs k 0) := tab_congr fun i j _ => by simp [axTo]
theorem axTo_all (xs : List Int) (k : Int) (n : Nat) : tab n (axTo xs k n) = tab n (axF xs k) := tab_congr fun i j _ => by
  unfold axTo
  rw [if_pos]
  split <;> omega
theorem axTo_step0 (xs : List Int) (k : Int) (n q : Nat) (hk : k = 0) : tab n (upd2 (axTo xs k q) q 0 (co xs q)) = tab n (axTo xs k (q + 1)) := tab_congr fun i j _ => by
  subst hk
  simp only [upd2, axTo, axF, if_true]
  by_cases h1 : i = q
  · subst h1
    by_cases h2 : j = 0 <;> simp [h2]
  · by_cases h3 : i < q
    · simp [h1, h3, show i < q + 1 by omega]
    · simp [h1, h3, show ¬ i < q + 1 by omega]
theorem axTo_step1 (xs : List Int) (k : Int) (n q : Nat) (hk : ¬ k = 0) : tab n (upd2 (axTo xs k q) 0 q (co xs q)) = tab n (axTo xs k (q + 1)) := tab_congr fun i j _ => by
  simp only [upd2, axTo, axF, if_neg hk]
  by_cases h1 : j = q
  · subst h1
    by_cases h2 : i = 0 <;> simp [h2]
  · by_cases h3 : j < q
    · simp [h1, h3, show j < q + 1 by omega]
    · simp [h1, h3, show ¬ j < q + 1 by omega]
theorem variable_any (w : World) (m d : Int) (n : Nat) (hd : d + 1 = (n : Int)) (hn2 : 2 ≤ n) (hn : n ≤ 1000000) : Calls Try.prog 65 #[.int .i64 m, .int .i64 d] w (NewS w m (varL n)) := by
  have hd2 : d = (n : Int) - 1 := by omega
  subst hd2
  have HL : Hid ((varL n).length = n) := length_varL n
  clear hd
  go_enter Try.func65, Try.ntmps65
  go_wp2_with (go_at_call 104; refine (zero_any _ m _ n (by omega) (by omega)).mono ?_; rintro e w1 ⟨g, rfl, hg, hr, hb1⟩; obtain ⟨P1, K1⟩ := Bf.first1 hb1; have p1a := P1.1.2.1; have p1b := P1.1.2.2; have z1 := P1.1.1; have p1c := P1.2.1; have p1d := P1.2.2; have hg2 : w.heap.size + 1 ≤ g := (by simpa using hg); have hd0 := hr.cell (k := 1) (by simp; omega); have hf0 := hr.free 1; have HR := Lib.hid hr; clear hr; have hk1 : (1 : Int) < (n : Int) := (by omega); have hk2 : 1 < n := (by omega); have hk3 : ¬ n ≤ 1 := (by omega); have zg := HR.out.lt; have B1 := Bf.alloc1 w1 (.int .i64 m) (.slice (some ⟨g, 0, none⟩) n n) 42; have b1a := B1.1.2.1; have b1b := B1.1.2.2; have hd1 := ((Lib.hid (HR.out.alloc (.cells #[.int .i64 m, .slice (some ⟨g, 0, none⟩) n n] 42))).out).cell (k := 1) (by simp; omega); have hf1 := ((Lib.hid (HR.out.alloc (.cells #[.int .i64 m, .slice (some ⟨g, 0, none⟩) n n] 42))).out).free 1)
  have B3 := ((P1.setCell (p := ⟨g, 1, none⟩) (by simp; omega) (.int .i64 1)).store2 (x' := .int .i64 m) (y' := .slice (some ⟨g, 0, none⟩) n n)).alloc (.cells #[.int .i64 m, .slice (some ⟨g, 0, none⟩) n n] 42)
  have b3a := B3.1.2.1
  have b3b := B3.1.2.2
  have HR2 := (((HR.out.set_ 1 1).far (p := ⟨w.heap.size, 0, none⟩) (by simp; omega) (.int .i64 m)).far (p := ⟨w.heap.size, 1, none⟩) (by simp; omega) (.slice (some ⟨g, 0, none⟩) n n)).alloc (.cells #[.int .i64 m, .slice (some ⟨g, 0, none⟩) n n] 42)
  rw [var_set] at HR2
  exact bodyPost_ret (v := .agg #[.int .i64 m, .slice (some ⟨g, 0, none⟩) n n]) (by simp [results, Try.results65, go_sem, b3a, b3b]) rfl ⟨some ⟨g, 0, none⟩, n, by rw [HL.out], by rw [HL.out]; exact HR2.own' (by omega) HL.out, (((K1.setCell (by simp; omega) _).setCell (by simp) _).setCell (by simp) _).alloc (by simp [World.setCell]; omega) _⟩
set_option maxRecDepth 8000 in
set_option maxHeartbeats 4000000 in
theorem onAxis_any (w : World) (m : Int) (v : Value) (xs : List Int) (zss : List (List Int)) (n : Nat) (k0 : Int) (B : Nat) (hv : OwnI w B v xs) (hx : xs.length = n) (hn1 : 1 ≤ n) (hn : n ≤ 1000) (hz : tab n (axF xs k0) = zss) :
    Calls Try.prog 64 #[.agg #[.int .i64 m, v], .int .i64 k0] w (NewPl w m zss) := by
  obtain ⟨A, cp, e0, hc1, hc2, hA⟩ := hv.open_
  rw [hx] at e0 hc1 hA
  subst e0
  have HZ := Lib.hid hz
  have HX := Lib.hid hx
  have HA := Lib.hid hA
  clear hz hx hA hv
  go_enter Try.func64, Try.ntmps64
  go_upto_region 1 with fail
  go_cut [5] from 8 to 13 (fun s wx => ∃ (bo : Nat) (A' : Option Addr) (c' : Nat), s = .pointer (some ⟨bo, 0, none⟩) ∧ w.heap.size + 2 ≤ bo ∧ bo < wx.heap.size ∧ Hid (Bf wx bo (.int .i64 m) (.slice A' n c')) ∧ Hid (OwnPx wx (w.heap.size + 2) bo (.slice A' n c') (tab n fun _ _ => 0)) ∧ Hid (Bf wx w.heap.size (.int .i64 m) (.slice A n cp)) ∧ Hid (Bf wx (w.heap.size + 1) (.int .i64 0) (.slice none 0 0)) ∧ Hid (Below w.heap.size w wx))
  case first =>
    go_region_held3 (fun w' => w'.cell? ⟨w.heap.size, 0, none⟩ = some (.int .i64 m) ∧ w'.cell? ⟨w.heap.size, 1, none⟩ = some (.slice A n cp))
      (first | exact ⟨p2a, p2b⟩ | exact ⟨p1a, p1b⟩ | go_keep | (refine (fun (h : Bf _ w.heap.size (.int .i64 m) (.slice A n cp)) => ⟨h.1.2.1, h.1.2.2⟩) ((Bf.alloc1 w _ _ 42).keep ?_); (repeat (first | assumption | exact Below.refl _ _ | (refine Below.alloc ?_ ?_ _; rotate_left; (focus (first | exact Nat.le_refl _ | omega | (simp; done) | (simp; omega)))) | (refine Below.setCell ?_ ?_ _; rotate_left; (focus (first | exact Nat.le_refl _ | omega | (simp; done) | (simp; omega)))) | refine below_drew ?_ | refine below_drewN ?_ _ | (refine Below.trans ?_ (Below.mono hb2 ?_); rotate_left; (focus (first | exact Nat.le_refl _ | omega | (simp; done) | (simp; omega)))) | (refine Below.trans ?_ (Below.mono hb1 ?_); rotate_left; (focus (first | exact Nat.le_refl _ | omega | (simp; done) | (simp; omega))))))))
      (first | (go_at_call 103; refine (iDegree_any m A n cp _ (by omega)).mono ?_; rintro e w1 ⟨rfl, hb1⟩; have P1 : Bf w1 w.heap.size (.int .i64 m) (.slice A n cp) := ((Bf.alloc1 w _ _ 42).keep (by (repeat (first | assumption | exact Below.refl _ _ | (refine Below.alloc ?_ ?_ _; rotate_left; (focus (first | exact Nat.le_refl _ | omega | (simp; done) | (simp; omega)))) | (refine Below.setCell ?_ ?_ _; rotate_left; (focus (first | exact Nat.le_refl _ | omega | (simp; done) | (simp; omega)))) | refine below_drew ?_ | refine below_drewN ?_ _ | (refine Below.trans ?_ (Below.mono hb1 ?_); rotate_left; (focus (first | exact Nat.le_refl _ | omega | (simp; done) | (simp; omega)))))))); have p1a := P1.1.2.1; have p1b := P1.1.2.2; obtain ⟨hc1, hf1⟩ := bcell hb1; have z1 := hb1.size; (try simp at z1); have z1p : w.heap.size < w1.heap.size := (by omega); (first | (have y1 : w.heap.size + 2 < w1.heap.size := (by omega)) | skip)) | (go_at_call 95; refine (emptyPlane_any _ m _ n (by omega) (by omega)).mono ?_; rintro e w2 ⟨A9, c9, rfl, hr2, hb2⟩; rw [length_tab] at hr2 ⊢; have P2 : Bf w2 w.heap.size (.int .i64 m) (.slice A n cp) := ((Bf.alloc1 w _ _ 42).keep (by (repeat (first | assumption | exact Below.refl _ _ | (refine Below.alloc ?_ ?_ _; rotate_left; (focus (first | exact Nat.le_refl _ | omega | (simp; done) | (simp; omega)))) | (refine Below.setCell ?_ ?_ _; rotate_left; (focus (first | exact Nat.le_refl _ | omega | (simp; done) | (simp; omega)))) | refine below_drew ?_ | refine below_drewN ?_ _ | (refine Below.trans ?_ (Below.mono hb2 ?_); rotate_left; (focus (first | exact Nat.le_refl _ | omega | (simp; done) | (simp; omega)))) | (refine Below.trans ?_ (Below.mono hb1 ?_); rotate_left; (focus (first | exact Nat.le_refl _ | omega | (simp; done) | (simp; omega)))))))); have p2a := P2.1.2.1; have p2b := P2.1.2.2; obtain ⟨hc2, hf2⟩ := bcell hb2; have z2 := hb2.size; (try simp at z2); have z2p : w.heap.size < w2.heap.size := (by omega)))
    all_goals
      go_wp2_with fail
      go_meet
      have KK : Hid (Below w.heap.size w w2) := by (repeat (first | assumption | exact Below.refl _ _ | (refine Below.alloc ?_ ?_ _; rotate_left; (focus (first | exact Nat.le_refl _ | omega | (simp; done) | (simp; omega)))) | (refine Below.setCell ?_ ?_ _; rotate_left; (focus (first | exact Nat.le_refl _ | omega | (simp; done) | (simp; omega)))) | refine below_drew ?_ | refine below_drewN ?_ _ | (refine Below.trans ?_ (Below.mono hb2 ?_); rotate_left; (focus (first | exact Nat.le_refl _ | omega | (simp; done) | (simp; omega)))) | (refine Below.trans ?_ (Below.mono hb1 ?_); rotate_left; (focus (first | exact Nat.le_refl _ | omega | (simp; done) | (simp; omega))))))
      refine ⟨_, A9, c9, rfl, ?_, ?_, ?_, ?_, ?_, ?_, ?_⟩
      · first | omega | (simp; done) | (simp; omega)
      · first | omega | (simp; done) | (simp; omega) | (simp [World.setCell]; omega)
      · unfold Hid
        first | exact Bf.alloc1 w2 _ _ _ | exact ((Bf.alloc1 w1 _ _ _).keep hb2).store2 | exact (((Bf.q3 (w := w)).keep (below_undrew hb1)).keep hb2).store2
      · unfold Hid
        first | (refine OwnPx.of (hr2.alloc _) ?_ ?_ ?_ <;> (first | omega | (simp; done) | (simp; omega) | (right; omega) | (right; simp; done) | (right; simp; omega) | (left; omega) | (left; simp; done) | (left; simp; omega) | (simp [World.setCell]; done) | (simp [World.setCell]; omega)); done) | (refine OwnPx.of ((hr2.far ?_ _).far ?_ _) ?_ ?_ ?_ <;> (first | omega | (simp; done) | (simp; omega) | (right; omega) | (right; simp; done) | (right; simp; omega) | (left; omega) | (left; simp; done) | (left; simp; omega) | (simp [World.setCell]; done) | (simp [World.setCell]; omega)); done)
      · exact (Bf.q1 (w := w) (t := 42)).keep (by (repeat (first | assumption | exact Below.refl _ _ | (refine Below.alloc ?_ ?_ _; rotate_left; (focus (first | exact Nat.le_refl _ | omega | (simp; done) | (simp; omega)))) | (refine Below.setCell ?_ ?_ _; rotate_left; (focus (first | exact Nat.le_refl _ | omega | (simp; done) | (simp; omega)))) | refine below_drew ?_ | refine below_drewN ?_ _ | (refine Below.trans ?_ (Below.mono hb2 ?_); rotate_left; (focus (first | exact Nat.le_refl _ | omega | (simp; done) | (simp; omega)))) | (refine Below.trans ?_ (Below.mono hb1 ?_); rotate_left; (focus (first | exact Nat.le_refl _ | omega | (simp; done) | (simp; omega)))))))
      · exact (Bf.q2 (w := w) (t := 42) (t' := 27)).keep (by (repeat (first | assumption | exact Below.refl _ _ | (refine Below.alloc ?_ ?_ _; rotate_left; (focus (first | exact Nat.le_refl _ | omega | (simp; done) | (simp; omega)))) | (refine Below.setCell ?_ ?_ _; rotate_left; (focus (first | exact Nat.le_refl _ | omega | (simp; done) | (simp; omega)))) | refine below_drew ?_ | refine below_drewN ?_ _ | (refine Below.trans ?_ (Below.mono hb2 ?_); rotate_left; (focus (first | exact Nat.le_refl _ | omega | (simp; done) | (simp; omega)))) | (refine Below.trans ?_ (Below.mono hb1 ?_); rotate_left; (focus (first | exact Nat.le_refl _ | omega | (simp; done) | (simp; omega)))))))
      · (repeat (first | assumption | exact Below.refl _ _ | (refine Below.alloc ?_ ?_ _; rotate_left; (focus (first | exact Nat.le_refl _ | omega | (simp; done) | (simp; omega)))) | (refine Below.setCell ?_ ?_ _; rotate_left; (focus (first | exact Nat.le_refl _ | omega | (simp; done) | (simp; omega)))) | refine below_drew ?_ | refine below_drewN ?_ _ | (refine Below.trans ?_ (Below.mono hb2 ?_); rotate_left; (focus (first | exact Nat.le_refl _ | omega | (simp; done) | (simp; omega)))) | (refine Below.trans ?_ (Below.mono hb1 ?_); rotate_left; (focus (first | exact Nat.le_refl _ | omega | (simp; done) | (simp; omega))))))
  case rest =>
    obtain ⟨bo, A', c', rfl, hbo1, hbo2, HO, HT, HP, HQ, HB⟩ := hcut
    obtain ⟨lo, hi, hlo, hbo3, hhi, ht⟩ := HT.out
    obtain ⟨g, c2, -, -, e0, hg1, hg2, hg3, -⟩ := ht.row (k := 0) (by rw [length_tab]; omega)
    rw [length_tab] at e0
    simp only [Value.slice.injEq] at e0
    obtain ⟨rfl, -, rfl⟩ := e0
    have HT0 := Lib.hid ht
    clear ht HT
    have ht1 := HT0.out
    rw [axTo_zero xs k0] at ht1
    have HT1 := Lib.hid ht1
    clear ht1 HT0
    have p1 := HP.out.1.2.1
    have p2 := HP.out.1.2.2
    go_wp2
    clear p1 p2
    go_loopw [16] (fun i wr => ∃ q : Nat, q ≤ n ∧ i = .int .i64 q ∧ Hid (Bf wr bo (.int .i64 m) (.slice (some ⟨g, 0, none⟩) n c')) ∧ Hid (OwnP wr lo hi (.slice (some ⟨g, 0, none⟩) n c') (tab n (axTo xs k0 q))) ∧ Hid (Bf wr w.heap.size (.int .i64 m) (.slice A n cp)) ∧ Hid (Bf wr (w.heap.size + 1) (.int .i64 0) (.slice none 0 0)) ∧ Hid (Below w.heap.size w wr)) (fun i _ => n - (intOf i).toNat)
    case atStart => exact ⟨0, Nat.zero_le _, rfl, HO, HT1, HP, HQ, HB⟩
    case round =>
      clear HO HT1 HP HQ HB
      obtain ⟨q, hq, rfl, HO, HT, HP, HQ, HB⟩ := hrel
      have o1 := HO.out.1.2.1
      have o2 := HO.out.1.2.2
      have q1 := HQ.out.1.2.1
      have q2 := HQ.out.1.2.2
      have q3 := HQ.out.2.1
      have q4 := HQ.out.2.2
      have zO := HO.out.1.1
      have zP := HP.out.1.1
      by_cases hlt : q < n
      · obtain ⟨b, rfl, hb1, hb2, hcell0, hfr0⟩ := HA.out q hlt
        have hc0 := (HB.out.cell (p := ⟨b, q, none⟩) hb2).trans hcell0
        change _ = some (Value.int .i64 (co xs q)) at hc0
        obtain ⟨x, hxq⟩ : ∃ x, x = co xs q := ⟨_, rfl⟩
        rw [← hxq] at hc0
        have HXQ := Lib.hid hxq
        clear hcell0 hfr0 hxq
        have hq0 : (0 : Int) ≤ (q : Int) := by omega
        have hq1 : (q : Int) < (n : Int) := by omega
        have hn0 : (0 : Int) < (n : Int) := by omega
        have hn00 : 0 < n := by omega
        have hn01 : ¬ n = 0 := by omega
        by_cases hk0 : k0 = 0
        · have hkb : (k0 == 0) = true := by simpa using hk0
          obtain ⟨Ar, cr, hcell⟩ := HT.out.cell (k := q) (by rw [length_tab]; omega)
          rw [getD_tab _ (by omega), length_lst] at hcell
          obtain ⟨r, hr⟩ : ∃ r, r = n - q := ⟨_, rfl⟩
          rw [← hr] at hcell
          obtain ⟨-, hl2, hl3, hw⟩ := HT.out.rowW (i := q) (by rw [length_tab]; omega) hcell
          obtain ⟨gr, rfl, hne, hgl, hgh, hgz, hd0, hf0, hset⟩ := hw 0 (by omega)
          have HSET := Lib.hid hset
          have hst := axTo_step0 xs k0 n q hk0
          rw [← HXQ.out] at hst
          have HST := Lib.hid hst
          generalize co2 (tab n (axTo xs k0 q)) q 0 = y0 at hd0
          have hr0 : (0 : Int) < (r : Int) := by omega
          have hr00 : 0 < r := by omega
          have hr01 : ¬ r = 0 := by omega
          have hr1 : 0 < r := by omega
          clear hset hw hst hr hk0
          go_wp2
          go_roundw
          case rel =>
            refine ⟨q + 1, by omega, by go_num, HO.out.setCell (by simp; omega) _, ?_, HP.out.setCell (by simp; omega) _, HQ.out.setCell (by simp; omega) _, HB.out.setCell (by simp; omega) _⟩
            unfold Hid
            rw [← HST.out, ← set_tab' _ _ _ _ _ (by omega)]
            exact HSET.out x
          case measure => simp [intOf]; omega
        · have hkb : (k0 == 0) = false := by simpa using hk0
          obtain ⟨Ar, cr, hcell⟩ := HT.out.cell (k := 0) (by rw [length_tab]; omega)
          rw [getD_tab _ (by omega), length_lst] at hcell
          obtain ⟨r, hr⟩ : ∃ r, r = n - 0 := ⟨_, rfl⟩
          rw [← hr] at hcell
          obtain ⟨-, hl2, hl3, hw⟩ := HT.out.rowW (i := 0) (by rw [length_tab]; omega) hcell
          obtain ⟨gr, rfl, hne, hgl, hgh, hgz, hd0, hf0, hset⟩ := hw q (by omega)
          have HSET := Lib.hid hset
          have hst := axTo_step1 xs k0 n q hk0
          rw [← HXQ.out] at hst
          have HST := Lib.hid hst
          generalize co2 (tab n (axTo xs k0 q)) 0 q = y0 at hd0
          have hr0 : (0 : Int) < (r : Int) := by omega
          have hr00 : 0 < r := by omega
          have hr01 : ¬ r = 0 := by omega
          have hr1 : (q : Int) < (r : Int) := by omega
          clear hset hw hst hr hk0
          go_wp2
          go_roundw
          case rel =>
            refine ⟨q + 1, by omega, by go_num, HO.out.setCell (by simp; omega) _, ?_, HP.out.setCell (by simp; omega) _, HQ.out.setCell (by simp; omega) _, HB.out.setCell (by simp; omega) _⟩
            unfold Hid
            rw [← HST.out, ← set_tab' _ _ _ _ _ (by omega)]
            exact HSET.out x
          case measure => simp [intOf]; omega
      · obtain rfl : q = n := by omega
        have hT := HT.out
        rw [axTo_all, HZ.out] at hT
        have HL : Hid (zss.length = q) := by unfold Hid; rw [← HZ.out, length_tab]
        have hd5 : decide ((q : Int) < (q : Int)) = false := by simp
        go_wp2
        refine bodyPost_ret (v := .agg #[.int .i64 m, .slice (some ⟨g, 0, none⟩) q c']) (by simp [results, Try.results64, go_sem, q1, q2]) rfl ⟨some ⟨g, 0, none⟩, c', by rw [HL.out], ?_, ?_⟩
        · rw [HL.out]
          have h9 := OwnP.mono (lo' := w.heap.size) (hT.hi_le.far2 (b := w.heap.size + 1) (x := .int .i64 m) (y := .slice (some ⟨g, 0, none⟩) q c') (.inl (by omega))) (by omega) (Nat.le_refl _)
          simpa [World.setCell] using h9
        · exact (HB.out.setCell (by simp) _).setCell (by simp) _

/-! ### CoordinatePlane, PlaneOfSeries -/
theorem isSide_any (k : Int) (w : World) : Calls Try.prog 63 #[.int .i64 k] w fun e w' => e = .returned (.bool (inB k 0 1)) ∧ ∃ q, w' = w.drewN q := by
  go_enter Try.func63, Try.ntmps63
  go_wp2_with (go_at_call 53; refine (in_any _ _ _ _).mono ?_; rintro e w' ⟨rfl, k', rfl⟩)
  go_ret
  exact ⟨rfl, _, rfl⟩
theorem tab_coord (n : Nat) (k : Nat) (hk : k ≤ 1) : tab n (axF (varL n) (k : Int)) = tab n (upd2 (fun _ _ => 0) (1 - k) k 1) := tab_congr fun i j hij => by
  rcases Nat.lt_or_ge k 1 with h | h
  · obtain rfl : k = 0 := by omega
    simp only [axF, upd2]
    have e : co (varL n) i = if i = 1 then 1 else 0 := by unfold varL; rw [co_lst' (by omega)]
    simp only [Int.natCast_zero, if_true, e]
    by_cases h1 : i = 1 <;> by_cases h2 : j = 0 <;> simp [h1, h2]
  · obtain rfl : k = 1 := by omega
    simp only [axF, upd2]
    have e : co (varL n) j = if j = 1 then 1 else 0 := by unfold varL; rw [co_lst' (by omega)]
    simp only [show ¬ (((1 : Nat) : Int) = 0) by omega, if_false, e]
    by_cases h1 : i = 0 <;> by_cases h2 : j = 1 <;> simp [h1, h2]
def CoordinatePlaneR (m d k : Int) : (Int × List (List Int)) × Int := if isModB m = false then ((0, []), 1) else if inB d 1 10 = false then ((0, []), 2) else if inB k 0 1 = false then ((0, []), 2) else ((m, tab (d + 1).toNat (axF (varL (d + 1).toNat) k)), 0)
theorem CoordinatePlaneR_len (m d k : Int) : cntP (CoordinatePlaneR m d k).1.2 ≤ 200 := by
  unfold CoordinatePlaneR
  split
  · simp [cntP]
  · cases hd : inB d 1 10
    · simp [cntP]
    · have := inB_true.1 hd
      simp only [Bool.true_eq_false, if_false]
      split
      · simp [cntP]
      · exact cntP_tab_100 _ (by omega)
set_option maxHeartbeats 1000000 in
theorem iCoordinatePlaneR_any (w : World) (m d k : Int) : Calls Try.prog 21 #[.int .i64 m, .int .i64 d, .int .i64 k] w (RetPI w (CoordinatePlaneR m d k)) := by
  cases hm : isModB m
  · have HF : CoordinatePlaneR m d k = ((0, []), 1) := by simp [CoordinatePlaneR, hm]
    rw [HF]
    have HM := Lib.hid hm
    clear HF hm
    go_enter Try.func21, Try.ntmps21
    go_wp2_with (go_at_call 52; refine (iIsModulus_any _ _).mono ?_; rintro e w1 ⟨rfl, k1, rfl⟩; rw [HM.out])
    exact bodyPost_ret (v := .tuple #[.agg #[.int .i64 0, .slice none 0 0], .int .i64 1]) (by simp [results, Try.results21, go_sem]) rfl (RetPI.zero (by (repeat (first | assumption | exact Below.refl _ _ | refine Below.alloc ?_ (by first | omega | (simp; done) | (simp; omega)) _ | refine Below.setCell ?_ (by first | omega | (simp; done) | (simp; omega)) _ | refine below_drewN ?_ _))))
  · have HM := Lib.hid hm
    cases hd : inB d 1 10
    · have HF : CoordinatePlaneR m d k = ((0, []), 2) := by simp [CoordinatePlaneR, hm, hd]
      rw [HF]
      have HD := Lib.hid hd
      clear HF hm hd
      go_enter Try.func21, Try.ntmps21
      go_wp2_with (first | (go_at_call 52; refine (iIsModulus_any _ _).mono ?_; rintro e w1 ⟨rfl, k1, rfl⟩; rw [HM.out]) | (go_at_call 53; refine (in_any _ _ _ _).mono ?_; rintro e w2 ⟨rfl, k2, rfl⟩; rw [HD.out]))
      exact bodyPost_ret (v := .tuple #[.agg #[.int .i64 0, .slice none 0 0], .int .i64 2]) (by simp [results, Try.results21, go_sem]) rfl (RetPI.zero (by (repeat (first | assumption | exact Below.refl _ _ | refine Below.alloc ?_ (by first | omega | (simp; done) | (simp; omega)) _ | refine Below.setCell ?_ (by first | omega | (simp; done) | (simp; omega)) _ | refine below_drewN ?_ _))))
    · have HD := Lib.hid hd
      have hdb := inB_true.1 hd
      cases hk : inB k 0 1
      · have HF : CoordinatePlaneR m d k = ((0, []), 2) := by simp [CoordinatePlaneR, hm, hd, hk]
        rw [HF]
        have HK := Lib.hid hk
        clear HF hm hd hk
        go_enter Try.func21, Try.ntmps21
        go_wp2_with (first | (go_at_call 52; refine (iIsModulus_any _ _).mono ?_; rintro e w1 ⟨rfl, k1, rfl⟩; rw [HM.out]) | (go_at_call 53; refine (in_any _ _ _ _).mono ?_; rintro e w2 ⟨rfl, k2, rfl⟩; rw [HD.out]) | (go_at_call 63; refine (isSide_any _ _).mono ?_; rintro e w3 ⟨rfl, k3, rfl⟩; rw [HK.out]))
        exact bodyPost_ret (v := .tuple #[.agg #[.int .i64 0, .slice none 0 0], .int .i64 2]) (by simp [results, Try.results21, go_sem]) rfl (RetPI.zero (by (repeat (first | assumption | exact Below.refl _ _ | refine Below.alloc ?_ (by first | omega | (simp; done) | (simp; omega)) _ | refine Below.setCell ?_ (by first | omega | (simp; done) | (simp; omega)) _ | refine below_drewN ?_ _))))
      · obtain ⟨n, hn⟩ : ∃ n : Nat, d + 1 = (n : Int) := ⟨(d + 1).toNat, by omega⟩
        obtain ⟨ys, hy⟩ : ∃ ys, tab n (axF (varL n) k) = ys := ⟨_, rfl⟩
        have HF : CoordinatePlaneR m d k = ((m, ys), 0) := by simp [CoordinatePlaneR, hm, hd, hk, hn, hy]
        have HYL : Hid (ys.length = n) := by unfold Hid; rw [← hy, length_tab]
        rw [HF]
        have HK := Lib.hid hk
        have HY := Lib.hid hy
        have HVL : Hid ((varL n).length = n) := length_varL n
        have hd1 : d = (n : Int) - 1 := by omega
        subst hd1
        clear HF hm hd hk hy hn
        go_enter Try.func21, Try.ntmps21
        go_wp2_with (first | (go_at_call 52; refine (iIsModulus_any _ _).mono ?_; rintro e w1 ⟨rfl, k1, rfl⟩; rw [HM.out]) | (go_at_call 53; refine (in_any _ _ _ _).mono ?_; rintro e w2 ⟨rfl, k2, rfl⟩; rw [HD.out]) | (go_at_call 63; refine (isSide_any _ _).mono ?_; rintro e w3 ⟨rfl, k3, rfl⟩; rw [HK.out]) | (go_at_call 65; refine (variable_any _ m _ n (by omega) (by omega) (by omega)).mono ?_; rintro e w4 ⟨A4, c4, rfl, o4, hb4⟩; rw [HVL.out] at o4 ⊢; have P4 : Bf w4 w.heap.size (.int .i64 0) (.slice none 0 0) := (((Bf.alloc1 w _ _ 27).drewN _)).keep hb4; have K4 : Below w.heap.size w w4 := Below.trans (by (repeat (first | assumption | exact Below.refl _ _ | refine Below.alloc ?_ (by first | omega | (simp; done) | (simp; omega)) _ | refine Below.setCell ?_ (by first | omega | (simp; done) | (simp; omega)) _ | refine below_drewN ?_ _))) (hb4.mono (by simp)); have p4a := P4.1.2.1; have p4b := P4.1.2.2; have s4 := P4.1.1; have O4 := Lib.hid o4; clear o4) | (go_at_call 64; refine (onAxis_any _ m _ (varL n) ys n k _ O4.out HVL.out (by omega) (by omega) HY.out).mono ?_; rintro e w5 ⟨A5, c5, rfl, o5, hb5⟩; rw [HYL.out] at o5 ⊢; have P5 := P4.keep hb5; have K5 := K4.trans (hb5.mono (by omega)); have p5a := P5.1.2.1; have p5b := P5.1.2.2; have p5c := P5.2.1; have p5d := P5.2.2))
        exact bodyPost_ret (v := .tuple #[.agg #[.int .i64 m, .slice A5 n c5], .int .i64 0]) (by simp [results, Try.results21, go_sem, p5a, p5b]) rfl (RetPI.mk (o5.far2 (.inl (by omega))) HYL.out (by omega) ((K5.setCell (by simp) _).setCell (by simp) _))
set_option maxHeartbeats 1000000 in
theorem sCoordinatePlaneR_any (w : World) (m d k : Int) : Calls Try.prog 20 #[.int .i64 m, .int .i64 d, .int .i64 k] w (RetPI w (CoordinatePlaneR m d k)) := by
  cases hm : isModB m
  · have HF : CoordinatePlaneR m d k = ((0, []), 1) := by simp [CoordinatePlaneR, hm]
    rw [HF]
    have HM := Lib.hid hm
    clear HF hm
    go_enter Try.func20, Try.ntmps20
    go_wp2_with (go_at_call 59; refine (sModulus_any _ _).mono ?_; rintro e w1 ⟨rfl, k1, rfl⟩; rw [HM.out])
    exact bodyPost_ret (v := .tuple #[.agg #[.int .i64 0, .slice none 0 0], .int .i64 1]) (by simp [results, Try.results20, go_sem]) rfl (RetPI.zero (by (repeat (first | assumption | exact Below.refl _ _ | refine Below.alloc ?_ (by first | omega | (simp; done) | (simp; omega)) _ | refine Below.setCell ?_ (by first | omega | (simp; done) | (simp; omega)) _ | refine below_drewN ?_ _))))
  · have HM := Lib.hid hm
    cases hd : inB d 1 10
    · have HF : CoordinatePlaneR m d k = ((0, []), 2) := by simp [CoordinatePlaneR, hm, hd]
      rw [HF]
      have HD := Lib.hid hd
      clear HF hm hd
      go_enter Try.func20, Try.ntmps20
      go_wp2_with (first | (go_at_call 59; refine (sModulus_any _ _).mono ?_; rintro e w1 ⟨rfl, k1, rfl⟩; rw [HM.out]) | (go_at_call 60; refine (l01In_any _ _ _ _).mono ?_; rintro e w2 ⟨rfl, k2, rfl⟩; rw [HD.out]))
      exact bodyPost_ret (v := .tuple #[.agg #[.int .i64 0, .slice none 0 0], .int .i64 2]) (by simp [results, Try.results20, go_sem]) rfl (RetPI.zero (by (repeat (first | assumption | exact Below.refl _ _ | refine Below.alloc ?_ (by first | omega | (simp; done) | (simp; omega)) _ | refine Below.setCell ?_ (by first | omega | (simp; done) | (simp; omega)) _ | refine below_drewN ?_ _))))
    · have HD := Lib.hid hd
      have hdb := inB_true.1 hd
      cases hk : inB k 0 1
      · have HF : CoordinatePlaneR m d k = ((0, []), 2) := by simp [CoordinatePlaneR, hm, hd, hk]
        rw [HF]
        have HK := Lib.hid hk
        clear HF hm hd hk
        go_enter Try.func20, Try.ntmps20
        go_wp2_with (first | (go_at_call 59; refine (sModulus_any _ _).mono ?_; rintro e w1 ⟨rfl, k1, rfl⟩; rw [HM.out]) | (go_at_call 60; refine (l01In_any _ _ _ _).mono ?_; rintro e w2 ⟨rfl, k2, rfl⟩; first | rw [HD.out] | rw [HK.out]))
        exact bodyPost_ret (v := .tuple #[.agg #[.int .i64 0, .slice none 0 0], .int .i64 2]) (by simp [results, Try.results20, go_sem]) rfl (RetPI.zero (by (repeat (first | assumption | exact Below.refl _ _ | refine Below.alloc ?_ (by first | omega | (simp; done) | (simp; omega)) _ | refine Below.setCell ?_ (by first | omega | (simp; done) | (simp; omega)) _ | refine below_drewN ?_ _))))
      · have hkb := inB_true.1 hk
        obtain ⟨kn, rfl⟩ : ∃ kn : Nat, k = (kn : Int) := ⟨k.toNat, by omega⟩
        obtain ⟨n, hn⟩ : ∃ n : Nat, d + 1 = (n : Int) := ⟨(d + 1).toNat, by omega⟩
        obtain ⟨ys, hy⟩ : ∃ ys, tab n (axF (varL n) (kn : Int)) = ys := ⟨_, rfl⟩
        have HF : CoordinatePlaneR m d (kn : Int) = ((m, ys), 0) := by simp only [CoordinatePlaneR, hm, hd, hk, hn, Int.toNat_natCast, hy]; simp
        have HYL : Hid (ys.length = n) := by unfold Hid; rw [← hy, length_tab]
        rw [HF]
        obtain ⟨kr, hkr⟩ : ∃ kr, kr = 1 - kn := ⟨_, rfl⟩
        have HY : Hid (tab n (upd2 (fun _ _ => 0) kr kn 1) = ys) := by unfold Hid; rw [hkr, ← tab_coord n kn (by omega)]; exact hy
        have HK := Lib.hid hk
        have hd1 : d = (n : Int) - 1 := by omega
        subst hd1
        have v1 : (1 : Int) - (kn : Int) = (kr : Int) := by omega
        have hkr1 : (kr : Int) < (n : Int) := by omega
        have hkr2 : kr < n := by omega
        have hkr3 : kr + kn ≤ 1 ∧ 1 ≤ kr + kn := by omega
        have hkr4 : (0 : Int) ≤ (kr : Int) := by omega
        have hkr5 : (0 : Int) ≤ (kn : Int) := by omega
        clear HF hm hd hk hy hn hkr
        go_enter Try.func20, Try.ntmps20
        go_wp2_with (first | (go_at_call 59; refine (sModulus_any _ _).mono ?_; rintro e w1 ⟨rfl, k1, rfl⟩; rw [HM.out]) | (go_at_call 60; refine (l01In_any _ _ _ _).mono ?_; rintro e w2 ⟨rfl, k2, rfl⟩; first | rw [HD.out] | rw [HK.out]) | (go_at_call 61; refine (l03Zero_any _ _ n (by omega) (by omega)).mono ?_; rintro e w4 ⟨A4, c4, rfl, o4, hb4⟩; rw [length_tab] at o4 ⊢; have P4 : Bf w4 w.heap.size (.int .i64 0) (.slice none 0 0) := (((Bf.alloc1 w _ _ 27).drewN _)).keep hb4; have K4 : Below w.heap.size w w4 := Below.trans (by (repeat (first | assumption | exact Below.refl _ _ | refine Below.alloc ?_ (by first | omega | (simp; done) | (simp; omega)) _ | refine Below.setCell ?_ (by first | omega | (simp; done) | (simp; omega)) _ | refine below_drewN ?_ _))) (hb4.mono (by simp)); have s4 := P4.1.1; obtain ⟨g, gr, cr, rfl, hg1, hg2, hg3, hg4, hg5⟩ := o4.at2 (i := kr) (j := kn) (by rw [length_tab]; omega) (by rw [getD_tab _ (by omega), length_lst]; omega); have O4 := Lib.hid o4; clear o4; obtain ⟨-, hl2, hl3, hw⟩ := O4.out.rowW (i := kr) (by rw [length_tab]; omega) hg2; obtain ⟨gr2, e2, hne, hgl, hgh, hgz, hd0, hf0, hset⟩ := hw kn (by rw [getD_tab _ (by omega), length_lst]; omega); simp only [Option.some.injEq, Addr.mk.injEq] at e2; obtain ⟨rfl, -⟩ := e2; generalize co2 (tab n fun _ _ => 0) kr kn = y0 at hd0; have HSET := Lib.hid hset; have hgl2 : w.heap.size + 1 ≤ gr := (by simpa using hgl); rw [getD_tab _ (by omega), length_lst] at hg2 hl2; clear hg4 hg5 hw hset) | (go_at_call 62; refine (l03Make_any _ m (some ⟨g, 0, none⟩) n c4).mono ?_; rintro e w5 ⟨rfl, hb5⟩; have P5 := (P4.setCell (p := ⟨gr, kn, none⟩) (by simp; omega) (.int .i64 1)).keep hb5; have p5a := P5.1.2.1; have p5b := P5.1.2.2; have p5c := P5.2.1; have p5d := P5.2.2; have s5 := hb5.size))
        have O5 := (HSET.out 1).keep hb5
        rw [set_tab' _ _ _ _ _ hkr2, HY.out] at O5
        have K5 := (K4.setCell (p := ⟨gr, kn, none⟩) (by simp; omega) (.int .i64 1)).trans (hb5.mono (by simp [World.setCell]; omega))
        exact bodyPost_ret (v := .tuple #[.agg #[.int .i64 m, .slice (some ⟨g, 0, none⟩) n c4], .int .i64 0]) (by simp [results, Try.results20, go_sem, p5a, p5b]) rfl (RetPI.mk (O5.far2 (.inl (by simp))) HYL.out (by simp) ((K5.setCell (by simp) _).setCell (by simp) _))

/-! ### PlaneOfSeries -/
theorem tab_turn_ax (xs : List Int) (n : Nat) (k : Int) (hk : ¬ k = 0) : (tab n fun i j => co2 (tab n (axF xs 0)) j i) = tab n (axF xs k) := tab_congr fun i j hij => by
  rw [co2_tab _ (by omega)]
  simp only [axF, if_true, if_neg hk]
def PlaneOfSeriesR (m : Int) (xs : List Int) (k : Int) : (Int × List (List Int)) × Int := if isSer m xs = false then ((0, []), 1) else if inB k 0 1 = false then ((0, []), 2) else ((m, tab xs.length (axF xs k)), 0)
theorem PlaneOfSeriesR_len (m : Int) (xs : List Int) (k : Int) : cntP (PlaneOfSeriesR m xs k).1.2 ≤ 200 := by
  unfold PlaneOfSeriesR
  cases h : isSer m xs
  · simp [cntP]
  · have := (isSer_true h).2.1
    split
    · simp [cntP]
    · split
      · simp [cntP]
      · exact cntP_tab_100 _ (by omega)
set_option maxHeartbeats 1000000 in
theorem iPlaneOfSeriesR_any (w : World) (m : Int) (v : Value) (xs : List Int) (k : Int) (B : Nat) (hv : OwnI w B v xs) (hl : xs.length ≤ 2000000) : Calls Try.prog 36 #[.agg #[.int .i64 m, v], .int .i64 k] w (RetPI w (PlaneOfSeriesR m xs k)) := by
  obtain ⟨A, cp, e0⟩ := hv.form
  subst e0
  cases hs : isSer m xs
  · have HF : PlaneOfSeriesR m xs k = ((0, []), 1) := by simp [PlaneOfSeriesR, hs]
    rw [HF]
    have HS := Lib.hid hs
    clear HF hs
    go_enter Try.func36, Try.ntmps36
    go_wp2_with (go_at_call 85; refine (iIsSeries_any m _ _ xs B (OwnI.keep hv (by (repeat (first | assumption | exact Below.refl _ _ | refine Below.alloc ?_ (by first | omega | (simp; done) | (simp; omega)) _ | refine Below.setCell ?_ (by first | omega | (simp; done) | (simp; omega)) _ | refine below_drewN ?_ _))) (Nat.le_refl _)) (by omega)).mono ?_; rintro e w1 ⟨rfl, hb1⟩; rw [HS.out]; obtain ⟨P1, Q1, K1⟩ := Bf.first2 hb1; have p1a := P1.1.2.1; have p1b := P1.1.2.2; have z1 := P1.1.1; have q1a := Q1.1.2.1; have q1b := Q1.1.2.2; have q1c := Q1.2.1; have q1d := Q1.2.2; have y1 := Q1.1.1)
    exact bodyPost_ret (v := .tuple #[.agg #[.int .i64 0, .slice none 0 0], .int .i64 1]) (by simp [results, Try.results36, go_sem, q1a, q1b]) rfl (RetPI.zero (by (repeat (first | assumption | exact Below.refl _ _ | refine Below.alloc ?_ (by first | omega | (simp; done) | (simp; omega)) _ | refine Below.setCell ?_ (by first | omega | (simp; done) | (simp; omega)) _ | refine below_drewN ?_ _))))
  · have HS := Lib.hid hs
    obtain ⟨hm, ⟨hl1, hl2⟩, -⟩ := isSer_true hs
    cases hd : inB k 0 1
    · have HF : PlaneOfSeriesR m xs k = ((0, []), 2) := by simp [PlaneOfSeriesR, hs, hd]
      rw [HF]
      have HD := Lib.hid hd
      clear HF hs hd hm
      go_enter Try.func36, Try.ntmps36
      go_wp2_with (first | (go_at_call 85; refine (iIsSeries_any m _ _ xs B (OwnI.keep hv (by (repeat (first | assumption | exact Below.refl _ _ | refine Below.alloc ?_ (by first | omega | (simp; done) | (simp; omega)) _ | refine Below.setCell ?_ (by first | omega | (simp; done) | (simp; omega)) _ | refine below_drewN ?_ _))) (Nat.le_refl _)) (by omega)).mono ?_; rintro e w1 ⟨rfl, hb1⟩; rw [HS.out]; obtain ⟨P1, Q1, K1⟩ := Bf.first2 hb1; have p1a := P1.1.2.1; have p1b := P1.1.2.2; have z1 := P1.1.1; have q1a := Q1.1.2.1; have q1b := Q1.1.2.2; have q1c := Q1.2.1; have q1d := Q1.2.2; have y1 := Q1.1.1) | (go_at_call 63; refine (isSide_any _ _).mono ?_; rintro e w3 ⟨rfl, k3, rfl⟩; rw [HD.out]))
      exact bodyPost_ret (v := .tuple #[.agg #[.int .i64 0, .slice none 0 0], .int .i64 2]) (by simp [results, Try.results36, go_sem, q1a, q1b]) rfl (RetPI.zero (by (repeat (first | assumption | exact Below.refl _ _ | refine Below.alloc ?_ (by first | omega | (simp; done) | (simp; omega)) _ | refine Below.setCell ?_ (by first | omega | (simp; done) | (simp; omega)) _ | refine below_drewN ?_ _))))
    · obtain ⟨ys, hy⟩ : ∃ ys, tab xs.length (axF xs k) = ys := ⟨_, rfl⟩
      have HF : PlaneOfSeriesR m xs k = ((m, ys), 0) := by simp [PlaneOfSeriesR, hs, hd, hy]
      have HYL : Hid (ys.length = xs.length) := by unfold Hid; rw [← hy, length_tab]
      rw [HF]
      have HD := Lib.hid hd
      have HY := Lib.hid hy
      clear HF hs hd hm hy
      go_enter Try.func36, Try.ntmps36
      go_wp2_with (first | (go_at_call 85; refine (iIsSeries_any m _ _ xs B (OwnI.keep hv (by (repeat (first | assumption | exact Below.refl _ _ | refine Below.alloc ?_ (by first | omega | (simp; done) | (simp; omega)) _ | refine Below.setCell ?_ (by first | omega | (simp; done) | (simp; omega)) _ | refine below_drewN ?_ _))) (Nat.le_refl _)) (by omega)).mono ?_; rintro e w1 ⟨rfl, hb1⟩; rw [HS.out]; obtain ⟨P1, Q1, K1⟩ := Bf.first2 hb1; have p1a := P1.1.2.1; have p1b := P1.1.2.2; have z1 := P1.1.1; have q1a := Q1.1.2.1; have q1b := Q1.1.2.2; have q1c := Q1.2.1; have q1d := Q1.2.2; have y1 := Q1.1.1) | (go_at_call 63; refine (isSide_any _ _).mono ?_; rintro e w3 ⟨rfl, k3, rfl⟩; rw [HD.out]) | (go_at_call 64; refine (onAxis_any _ m _ xs ys xs.length k B (OwnI.drewN (hv.keep K1 (Nat.le_refl _)) _) rfl (by omega) (by omega) HY.out).mono ?_; rintro e w4 ⟨A4, c4, rfl, o4, hb4⟩; rw [HYL.out] at o4 ⊢; have R4 : Below w1.heap.size w1 w4 := (Below.trans (by (repeat (first | assumption | exact Below.refl _ _ | refine Below.alloc ?_ (by first | omega | (simp; done) | (simp; omega)) _ | refine Below.setCell ?_ (by first | omega | (simp; done) | (simp; omega)) _ | refine below_drewN ?_ _))) (hb4.mono (by first | exact Nat.le_refl _ | (simp; done) | (simp; omega)))); have s4 := R4.size; have K4 : Below w.heap.size w w4 := K1.trans (R4.mono K1.size); have P4 := P1.keep R4; have Q4 := Q1.keep R4; have p4a := P4.1.2.1; have p4b := P4.1.2.2; have z4 := P4.1.1; have q4a := Q4.1.2.1; have q4b := Q4.1.2.2; have q4c := Q4.2.1; have q4d := Q4.2.2; have y4 := Q4.1.1))
      exact bodyPost_ret (v := .tuple #[.agg #[.int .i64 m, .slice A4 xs.length c4], .int .i64 0]) (by simp [results, Try.results36, go_sem, q4a, q4b]) rfl (RetPI.mk (o4.far2 (.inl (by show _ < w1.heap.size; exact y1))) HYL.out (by show w.heap.size ≤ w1.heap.size; omega) (by (repeat (first | assumption | exact Below.refl _ _ | refine Below.alloc ?_ (by first | omega | (simp; done) | (simp; omega)) _ | refine Below.setCell ?_ (by first | omega | (simp; done) | (simp; omega)) _ | refine below_drewN ?_ _))))
set_option maxRecDepth 8000 in
set_option maxHeartbeats 2000000 in
theorem sPlaneOfSeriesR_any (w : World) (m : Int) (v : Value) (xs : List Int) (k : Int) (B : Nat) (hv : OwnI w B v xs) (hl : xs.length ≤ 2000000) : Calls Try.prog 34 #[.agg #[.int .i64 m, v], .int .i64 k] w (RetPI w (PlaneOfSeriesR m xs k)) := by
  obtain ⟨A, cp, e0, hc1, hc2, hA⟩ := hv.open_
  subst e0
  cases hs : isSer m xs
  · have HF : PlaneOfSeriesR m xs k = ((0, []), 1) := by simp [PlaneOfSeriesR, hs]
    rw [HF]
    have HS := Lib.hid hs
    clear HF hs hA
    go_enter Try.func34, Try.ntmps34
    go_wp2_with (go_at_call 81; refine (l02Is_any m _ _ xs B (OwnI.keep hv (by (repeat (first | assumption | exact Below.refl _ _ | refine Below.alloc ?_ (by first | omega | (simp; done) | (simp; omega)) _ | refine Below.setCell ?_ (by first | omega | (simp; done) | (simp; omega)) _ | refine below_drewN ?_ _))) (Nat.le_refl _)) (by omega)).mono ?_; rintro e w1 ⟨rfl, hb1⟩; rw [HS.out]; obtain ⟨P1, Q1, K1⟩ := Bf.first2 hb1; have p1a := P1.1.2.1; have p1b := P1.1.2.2; have z1 := P1.1.1; have q1a := Q1.1.2.1; have q1b := Q1.1.2.2; have q1c := Q1.2.1; have q1d := Q1.2.2; have y1 := Q1.1.1)
    exact bodyPost_ret (v := .tuple #[.agg #[.int .i64 0, .slice none 0 0], .int .i64 1]) (by simp [results, Try.results34, go_sem, q1a, q1b]) rfl (RetPI.zero (by (repeat (first | assumption | exact Below.refl _ _ | refine Below.alloc ?_ (by first | omega | (simp; done) | (simp; omega)) _ | refine Below.setCell ?_ (by first | omega | (simp; done) | (simp; omega)) _ | refine below_drewN ?_ _))))
  · have HS := Lib.hid hs
    obtain ⟨hm, ⟨hl1, hl2⟩, -⟩ := isSer_true hs
    cases hd : inB k 0 1
    · have HF : PlaneOfSeriesR m xs k = ((0, []), 2) := by simp [PlaneOfSeriesR, hs, hd]
      rw [HF]
      have HD := Lib.hid hd
      clear HF hs hd hm hA
      go_enter Try.func34, Try.ntmps34
      go_wp2_with (first | (go_at_call 81; refine (l02Is_any m _ _ xs B (OwnI.keep hv (by (repeat (first | assumption | exact Below.refl _ _ | refine Below.alloc ?_ (by first | omega | (simp; done) | (simp; omega)) _ | refine Below.setCell ?_ (by first | omega | (simp; done) | (simp; omega)) _ | refine below_drewN ?_ _))) (Nat.le_refl _)) (by omega)).mono ?_; rintro e w1 ⟨rfl, hb1⟩; rw [HS.out]; obtain ⟨P1, Q1, K1⟩ := Bf.first2 hb1; have p1a := P1.1.2.1; have p1b := P1.1.2.2; have z1 := P1.1.1; have q1a := Q1.1.2.1; have q1b := Q1.1.2.2; have q1c := Q1.2.1; have q1d := Q1.2.2; have y1 := Q1.1.1) | (go_at_call 60; refine (l01In_any _ _ _ _).mono ?_; rintro e w3 ⟨rfl, k3, rfl⟩; rw [HD.out]))
      exact bodyPost_ret (v := .tuple #[.agg #[.int .i64 0, .slice none 0 0], .int .i64 2]) (by simp [results, Try.results34, go_sem, q1a, q1b]) rfl (RetPI.zero (by (repeat (first | assumption | exact Below.refl _ _ | refine Below.alloc ?_ (by first | omega | (simp; done) | (simp; omega)) _ | refine Below.setCell ?_ (by first | omega | (simp; done) | (simp; omega)) _ | refine below_drewN ?_ _))))
    · obtain ⟨ys, hy⟩ : ∃ ys, tab xs.length (axF xs k) = ys := ⟨_, rfl⟩
      have HF : PlaneOfSeriesR m xs k = ((m, ys), 0) := by simp [PlaneOfSeriesR, hs, hd, hy]
      have HYL : Hid (ys.length = xs.length) := by unfold Hid; rw [← hy, length_tab]
      rw [HF]
      have hkb := inB_true.1 hd
      have HD := Lib.hid hd
      have HY := Lib.hid hy
      have HA := Lib.hid hA
      have HV := Lib.hid hv
      clear HF hs hd hm hy hA hv
      go_enter Try.func34, Try.ntmps34
      go_wp2_with (first | (go_at_call 81; refine (l02Is_any m _ _ xs B (OwnI.keep HV.out (by (repeat (first | assumption | exact Below.refl _ _ | refine Below.alloc ?_ (by first | omega | (simp; done) | (simp; omega)) _ | refine Below.setCell ?_ (by first | omega | (simp; done) | (simp; omega)) _ | refine below_drewN ?_ _))) (Nat.le_refl _)) (by omega)).mono ?_; rintro e w1 ⟨rfl, hb1⟩; rw [HS.out]; obtain ⟨P1, Q1, K1⟩ := Bf.first2 hb1; have p1a := P1.1.2.1; have p1b := P1.1.2.2; have z1 := P1.1.1; have q1a := Q1.1.2.1; have q1b := Q1.1.2.2; have q1c := Q1.2.1; have q1d := Q1.2.2; have y1 := Q1.1.1) | (go_at_call 60; refine (l01In_any _ _ _ _).mono ?_; rintro e w3 ⟨rfl, k3, rfl⟩; rw [HD.out]) | (go_at_call 82; refine (l02Degree_any m A xs.length cp _ (by omega)).mono ?_; rintro e w4 ⟨rfl, hb4⟩; have R4 : Below w1.heap.size w1 w4 := (Below.trans (by (repeat (first | assumption | exact Below.refl _ _ | refine Below.alloc ?_ (by first | omega | (simp; done) | (simp; omega)) _ | refine Below.setCell ?_ (by first | omega | (simp; done) | (simp; omega)) _ | refine below_drewN ?_ _))) (hb4.mono (by first | exact Nat.le_refl _ | (simp; done) | (simp; omega)))); have s4 := R4.size; have K4 : Below w.heap.size w w4 := K1.trans (R4.mono K1.size); have P4 := P1.keep R4; have Q4 := Q1.keep R4; have p4a := P4.1.2.1; have p4b := P4.1.2.2; have z4 := P4.1.1; have q4a := Q4.1.2.1; have q4b := Q4.1.2.2; have q4c := Q4.2.1; have q4d := Q4.2.2; have y4 := Q4.1.1) | (go_at_call 61; refine (l03Zero_any _ _ xs.length (by omega) (by omega)).mono ?_; rintro e w5 ⟨A5, c5, rfl, o5, hb5⟩; rw [length_tab] at o5 ⊢; have O5 := Lib.hid o5; clear o5; have R5 : Below w4.heap.size w4 w5 := (Below.trans (by (repeat (first | assumption | exact Below.refl _ _ | refine Below.alloc ?_ (by first | omega | (simp; done) | (simp; omega)) _ | refine Below.setCell ?_ (by first | omega | (simp; done) | (simp; omega)) _ | refine below_drewN ?_ _))) (hb5.mono (by first | exact Nat.le_refl _ | (simp; done) | (simp; omega)))); have s5 := R5.size; have K5 : Below w.heap.size w w5 := K4.trans (R5.mono K4.size); have P5 := P4.keep R5; have Q5 := Q4.keep R5; have p5a := P5.1.2.1; have p5b := P5.1.2.2; have z5 := P5.1.1; have q5a := Q5.1.2.1; have q5b := Q5.1.2.2; have q5c := Q5.2.1; have q5d := Q5.2.2; have y5 := Q5.1.1))
      obtain ⟨g, c2, -, -, e0, hg1, hg2, hg3, -⟩ := O5.out.row (k := 0) (by rw [length_tab]; omega)
      rw [length_tab] at e0
      simp only [Value.slice.injEq] at e0
      obtain ⟨rfl, -, rfl⟩ := e0
      have o6 := O5.out
      rw [axTo_zero xs 0] at o6
      have O6 := Lib.hid o6
      clear o6 O5
      go_loopw [7] (fun i wr => ∃ q : Nat, q ≤ xs.length ∧ i = .int .i64 q ∧ Hid (OwnP wr w4.heap.size w5.heap.size (.slice (some ⟨g, 0, none⟩) xs.length c5) (tab xs.length (axTo xs 0 q))) ∧ Hid (Bf wr w.heap.size (.int .i64 m) (.slice A xs.length cp)) ∧ Hid (Bf wr (w.heap.size + 1) (.int .i64 0) (.slice none 0 0)) ∧ Hid (Below w.heap.size w wr)) (fun i _ => xs.length - (intOf i).toNat)
      case atStart => exact ⟨0, Nat.zero_le _, rfl, O6, P5, Q5, K5⟩
      case round =>
        clear O6 P1 Q1 K1 p1a p1b q1a q1b q1c q1d hb1 P4 Q4 K4 p4a p4b q4a q4b q4c q4d hb4 R4 P5 Q5 K5 p5a p5b q5a q5b q5c q5d hb5 R5
        obtain ⟨q, hq, rfl, HT, HP, HQ, HB⟩ := hrel
        have p1 := HP.out.1.2.1
        have p2 := HP.out.1.2.2
        have q1 := HQ.out.1.2.1
        have q2 := HQ.out.1.2.2
        have q3 := HQ.out.2.1
        have q4 := HQ.out.2.2
        have zP := HP.out.1.1
        have zQ := HQ.out.1.1
        have hz := HB.out.size
        by_cases hlt : q < xs.length
        · obtain ⟨b, rfl, hb1, hb2, hcell0, hfr0⟩ := HA.out q hlt
          have hc0 := (HB.out.cell (p := ⟨b, q, none⟩) hb2).trans hcell0
          change _ = some (Value.int .i64 (co xs q)) at hc0
          obtain ⟨x, hxq⟩ : ∃ x, x = co xs q := ⟨_, rfl⟩
          rw [← hxq] at hc0
          have HXQ := Lib.hid hxq
          clear hcell0 hfr0 hxq
          have hq0 : (0 : Int) ≤ (q : Int) := by omega
          have hq1 : (q : Int) < (xs.length : Int) := by omega
          obtain ⟨Ar, cr, hcell⟩ := HT.out.cell (k := q) (by rw [length_tab]; omega)
          rw [getD_tab _ (by omega), length_lst] at hcell
          obtain ⟨r, hr⟩ : ∃ r, r = xs.length - q := ⟨_, rfl⟩
          rw [← hr] at hcell
          obtain ⟨-, hl2', hl3', hw⟩ := HT.out.rowW (i := q) (by rw [length_tab]; omega) hcell
          obtain ⟨gr, rfl, hne, hgl, hgh, hgz, hd0, hf0, hset⟩ := hw 0 (by omega)
          have HSET := Lib.hid hset
          have hst := axTo_step0 xs 0 xs.length q rfl
          rw [← HXQ.out] at hst
          have HST := Lib.hid hst
          generalize co2 (tab xs.length (axTo xs 0 q)) q 0 = y0 at hd0
          have hr0 : (0 : Int) < (r : Int) := by omega
          have hr00 : 0 < r := by omega
          have hr01 : ¬ r = 0 := by omega
          clear hset hw hst hr
          go_wp2
          go_roundw
          case rel =>
            refine ⟨q + 1, by omega, by go_num, ?_, HP.out.setCell (by simp; omega) _, HQ.out.setCell (by simp; omega) _, HB.out.setCell (by simp; omega) _⟩
            unfold Hid
            rw [← HST.out, ← set_tab' _ _ _ _ _ (by omega)]
            exact HSET.out x
          case measure => simp [intOf]; omega
        · have hqn : q = xs.length := by omega
          have hT := HT.out
          rw [hqn, axTo_all] at hT
          have HT2 := Lib.hid hT
          have hd5 : decide ((q : Int) < (xs.length : Int)) = false := by simp; omega
          clear hT HT hqn
          by_cases hk0 : k = 0
          · have hkb2 : (k == 1) = false := by simp; omega
            have HT3 := HT2.out
            rw [← hk0, HY.out] at HT3
            clear hk0 HT2
            go_wp2_with (go_at_call 62; refine (l03Make_any _ m _ xs.length c5).mono ?_; rintro e w7 ⟨rfl, hb7⟩; have Q7 := HQ.out.keep hb7; have q7a := Q7.1.2.1; have q7b := Q7.1.2.2; have q7c := Q7.2.1; have q7d := Q7.2.2; have s7 := hb7.size; have K7 := HB.out.trans (hb7.mono hz))
            exact bodyPost_ret (v := .tuple #[.agg #[.int .i64 m, .slice (some ⟨g, 0, none⟩) xs.length c5], .int .i64 0]) (by simp [results, Try.results34, go_sem, q7a, q7b]) rfl (RetPI.mk ((HT3.keep hb7).far2 (.inl (by omega))) HYL.out (by omega) ((K7.setCell (by simp) _).setCell (by simp) _))
          · have hkb2 : (k == 1) = true := by simp; omega
            have HTR := Lib.hid ((tab_turn_ax xs xs.length k hk0).trans HY.out)
            clear hk0
            go_wp2_with (first | (go_at_call 83; refine (l03Turn_any _ _ (tab xs.length (axF xs 0)) ys xs.length _ _ HT2.out (Tri.tab _ _) (by omega) (by omega) HTR.out).mono ?_; rintro e w6 ⟨A6, c6, rfl, o6, hb6⟩; rw [HYL.out] at o6 ⊢; have P6 := HP.out.keep hb6; have Q6 := HQ.out.keep hb6; have p6a := P6.1.2.1; have K6 := HB.out.trans (hb6.mono hz); have s6 := hb6.size) | (go_at_call 62; refine (l03Make_any _ m _ xs.length c6).mono ?_; rintro e w7 ⟨rfl, hb7⟩; have Q7 := Q6.keep hb7; have q7a := Q7.1.2.1; have q7b := Q7.1.2.2; have q7c := Q7.2.1; have q7d := Q7.2.2; have s7 := hb7.size; have K7 := K6.trans (hb7.mono (by omega))))
            exact bodyPost_ret (v := .tuple #[.agg #[.int .i64 m, .slice A6 xs.length c6], .int .i64 0]) (by simp [results, Try.results34, go_sem, q7a, q7b]) rfl (RetPI.mk ((o6.keep hb7).far2 (.inl (by omega))) HYL.out (by omega) ((K7.setCell (by simp) _).setCell (by simp) _))

/-! ### The laws' walks, printed by genlaw2.py -/
set_option maxHeartbeats 4000000 in
theorem FnExactCoordinatePlane_walk (w : World) (a0 : Int) (a1 : Int) (a2 : Int) : Calls Try.prog 4 #[.int .i64 a0, .int .i64 a1, .int .i64 a2] w fun e w' => e = .returned (.bool true) ∧ Below w.heap.size w w' := by
  obtain ⟨r0, HR⟩ : ∃ r0, Hid (CoordinatePlaneR a0 a1 a2 = r0) := ⟨_, rfl⟩
  obtain ⟨⟨rm, rl⟩, rc⟩ := r0
  have hlen := CoordinatePlaneR_len a0 a1 a2
  rw [HR.out] at hlen
  simp only at hlen
  go_enter Try.func4, Try.ntmps4
  go_wp2_with fail
  refine (sCoordinatePlaneR_any _ a0 a1 a2).mono ?_
  rintro e w1 h_r
  replace h_r := h_r.of HR
  obtain ⟨A_ow, c_ow, rfl, o_ow, hb1⟩ := h_r
  have o_ow' := (o_ow).mono (show w.heap.size ≤ _ from by first | exact Nat.le_refl _ | (simp; done) | (simp; omega)) (Nat.le_refl _)
  clear o_ow
  have R : Below w.heap.size w w1 := Below.trans (by (repeat (first | assumption | exact Below.refl _ _ | refine Below.alloc ?_ (by first | omega | (simp; done) | (simp; omega)) _ | refine Below.setCell ?_ (by first | omega | (simp; done) | (simp; omega)) _ | refine below_drewN ?_ _))) (hb1.mono (by first | exact Nat.le_refl _ | (simp; done) | (simp; omega)))
  have s1 : w.heap.size ≤ w1.heap.size := R.size
  have K1 : Hid (Below w.heap.size w w1) := R
  clear R hb1
  have ow : Hid (OwnP w1 w.heap.size w1.heap.size (.slice A_ow rl.length c_ow) rl) := o_ow'
  clear o_ow'
  go_wp2_with fail
  refine (iCoordinatePlaneR_any _ a0 a1 a2).mono ?_
  rintro e w2 h_r
  replace h_r := h_r.of HR
  obtain ⟨A_og, c_og, rfl, o_og, hb2⟩ := h_r
  have o_og' := (o_og).mono (show (w1.heap.size + 1) ≤ _ from by first | exact Nat.le_refl _ | (simp; done) | (simp; omega)) (Nat.le_refl _)
  clear o_og
  have R : Below w1.heap.size w1 w2 := Below.trans (by (repeat (first | assumption | exact Below.refl _ _ | refine Below.alloc ?_ (by first | omega | (simp; done) | (simp; omega)) _ | refine Below.setCell ?_ (by first | omega | (simp; done) | (simp; omega)) _ | refine below_drewN ?_ _))) (hb2.mono (by first | exact Nat.le_refl _ | (simp; done) | (simp; omega)))
  have s2 : w1.heap.size ≤ w2.heap.size := R.size
  have K2 : Hid (Below w.heap.size w w2) := K1.out.trans (R.mono (by omega))
  replace ow : Hid (OwnP w2 w.heap.size w1.heap.size (.slice A_ow rl.length c_ow) rl) := ow.out.keep R
  have bw : Hid (Bx w2 w1.heap.size (.int .i64 rm) (.slice A_ow rl.length c_ow)) := ⟨by have := hb2.size; simp at this; omega, by rw [hb2.cell (by first | (simp; done) | (simp; omega))]; simp, by rw [hb2.cell (by first | (simp; done) | (simp; omega))]; simp⟩
  clear R hb2
  have og : Hid (OwnP w2 (w1.heap.size + 1) w2.heap.size (.slice A_og rl.length c_og) rl) := o_og'
  clear o_og'
  have bw_c := bw.out.2.1
  have bw_d := bw.out.2.2
  have bw_z := bw.out.1
  go_wp2_with fail
  refine (eqP_any _ rm rm _ _ _ _ (og.out.keep (by (repeat (first | assumption | exact Below.refl _ _ | refine Below.alloc ?_ (by first | omega | (simp; done) | (simp; omega)) _ | refine Below.setCell ?_ (by first | omega | (simp; done) | (simp; omega)) _ | refine below_drewN ?_ _)))).rd (ow.out.keep (by (repeat (first | assumption | exact Below.refl _ _ | refine Below.alloc ?_ (by first | omega | (simp; done) | (simp; omega)) _ | refine Below.setCell ?_ (by first | omega | (simp; done) | (simp; omega)) _ | refine below_drewN ?_ _)))).rd).mono ?_
  rintro e w3 ⟨rfl, hb3⟩
  clear bw_c bw_d bw_z
  have R : Below w2.heap.size w2 w3 := Below.trans (by (repeat (first | assumption | exact Below.refl _ _ | refine Below.alloc ?_ (by first | omega | (simp; done) | (simp; omega)) _ | refine Below.setCell ?_ (by first | omega | (simp; done) | (simp; omega)) _ | refine below_drewN ?_ _))) (hb3.mono (by first | exact Nat.le_refl _ | (simp; done) | (simp; omega)))
  have s3 : w2.heap.size ≤ w3.heap.size := R.size
  have K3 : Hid (Below w.heap.size w w3) := K2.out.trans (R.mono (by omega))
  replace bw : Hid (Bx w3 w1.heap.size (.int .i64 rm) (.slice A_ow rl.length c_ow)) := bw.out.keep R
  replace ow : Hid (OwnP w3 w.heap.size w1.heap.size (.slice A_ow rl.length c_ow) rl) := ow.out.keep R
  replace og : Hid (OwnP w3 (w1.heap.size + 1) w2.heap.size (.slice A_og rl.length c_og) rl) := og.out.keep R
  have bg : Hid (Bx w3 w2.heap.size (.int .i64 rm) (.slice A_og rl.length c_og)) := ⟨by have := hb3.size; simp at this; omega, by rw [hb3.cell (by first | (simp; done) | (simp; omega))]; simp, by rw [hb3.cell (by first | (simp; done) | (simp; omega))]; simp⟩
  clear R hb3
  have bw_c := bw.out.2.1
  have bw_d := bw.out.2.2
  have bw_z := bw.out.1
  have bg_c := bg.out.2.1
  have bg_d := bg.out.2.2
  have bg_z := bg.out.1
  go_wp2_with fail
  refine (markPB_any _ (w1.heap.size + 1) w2.heap.size rm _ rl (1) (og.out.keep (by (repeat (first | assumption | exact Below.refl _ _ | refine Below.alloc ?_ (by first | omega | (simp; done) | (simp; omega)) _ | refine Below.setCell ?_ (by first | omega | (simp; done) | (simp; omega)) _ | refine below_drewN ?_ _)))) (by omega) (by omega) (by omega)).mono ?_
  rintro e w4 ⟨rfl, o_m, hg4⟩
  clear bw_c bw_d bw_z
  clear bg_c bg_d bg_z
  have R : Within (w1.heap.size + 1) w2.heap.size w3 w4 := Within.behind (by (repeat (first | assumption | exact Below.refl _ _ | refine Below.alloc ?_ (by first | omega | (simp; done) | (simp; omega)) _ | refine Below.setCell ?_ (by first | omega | (simp; done) | (simp; omega)) _ | refine below_drewN ?_ _))) hg4
  have s4 : w3.heap.size ≤ w4.heap.size := R.2.2.2.1
  have K4 : Hid (Below w.heap.size w w4) := R.below K3.out (by omega) (by omega)
  replace bw : Hid (Bx w4 w1.heap.size (.int .i64 rm) (.slice A_ow rl.length c_ow)) := bw.out.within R (by omega)
  replace bg : Hid (Bx w4 w2.heap.size (.int .i64 rm) (.slice A_og rl.length c_og)) := bg.out.within R (by omega)
  replace ow : Hid (OwnP w4 w.heap.size w1.heap.size (.slice A_ow rl.length c_ow) rl) := ow.out.within R (by omega)
  clear R hg4
  replace og : Hid (OwnP w4 (w1.heap.size + 1) w2.heap.size (.slice A_og rl.length c_og) (mkP (1) rl)) := o_m
  clear o_m
  have bw_c := bw.out.2.1
  have bw_d := bw.out.2.2
  have bw_z := bw.out.1
  have bg_c := bg.out.2.1
  have bg_d := bg.out.2.2
  have bg_z := bg.out.1
  go_wp2_with fail
  refine (heldPB_any _ (w1.heap.size + 1) w2.heap.size rm _ rl (1) (og.out.keep (by (repeat (first | assumption | exact Below.refl _ _ | refine Below.alloc ?_ (by first | omega | (simp; done) | (simp; omega)) _ | refine Below.setCell ?_ (by first | omega | (simp; done) | (simp; omega)) _ | refine below_drewN ?_ _)))) (by omega) (by omega) (by omega)).mono ?_
  rintro e w5 ⟨rfl, hb5⟩
  clear bw_c bw_d bw_z
  clear bg_c bg_d bg_z
  have R : Below w4.heap.size w4 w5 := Below.trans (by (repeat (first | assumption | exact Below.refl _ _ | refine Below.alloc ?_ (by first | omega | (simp; done) | (simp; omega)) _ | refine Below.setCell ?_ (by first | omega | (simp; done) | (simp; omega)) _ | refine below_drewN ?_ _))) (hb5.mono (by first | exact Nat.le_refl _ | (simp; done) | (simp; omega)))
  have s5 : w4.heap.size ≤ w5.heap.size := R.size
  have K5 : Hid (Below w.heap.size w w5) := K4.out.trans (R.mono (by omega))
  replace bw : Hid (Bx w5 w1.heap.size (.int .i64 rm) (.slice A_ow rl.length c_ow)) := bw.out.keep R
  replace bg : Hid (Bx w5 w2.heap.size (.int .i64 rm) (.slice A_og rl.length c_og)) := bg.out.keep R
  replace ow : Hid (OwnP w5 w.heap.size w1.heap.size (.slice A_ow rl.length c_ow) rl) := ow.out.keep R
  replace og : Hid (OwnP w5 (w1.heap.size + 1) w2.heap.size (.slice A_og rl.length c_og) (mkP (1) rl)) := og.out.keep R
  clear R hb5
  have bw_c := bw.out.2.1
  have bw_d := bw.out.2.2
  have bw_z := bw.out.1
  have bg_c := bg.out.2.1
  have bg_d := bg.out.2.2
  have bg_z := bg.out.1
  go_wp2_with fail
  refine (iCoordinatePlaneR_any _ a0 a1 a2).mono ?_
  rintro e w6 h_r
  replace h_r := h_r.of HR
  obtain ⟨A_oh, c_oh, rfl, o_oh, hb6⟩ := h_r
  have o_oh' := (o_oh).mono (show w5.heap.size ≤ _ from by first | exact Nat.le_refl _ | (simp; done) | (simp; omega)) (Nat.le_refl _)
  clear o_oh
  clear bw_c bw_d bw_z
  clear bg_c bg_d bg_z
  have R : Below w5.heap.size w5 w6 := Below.trans (by (repeat (first | assumption | exact Below.refl _ _ | refine Below.alloc ?_ (by first | omega | (simp; done) | (simp; omega)) _ | refine Below.setCell ?_ (by first | omega | (simp; done) | (simp; omega)) _ | refine below_drewN ?_ _))) (hb6.mono (by first | exact Nat.le_refl _ | (simp; done) | (simp; omega)))
  have s6 : w5.heap.size ≤ w6.heap.size := R.size
  have K6 : Hid (Below w.heap.size w w6) := K5.out.trans (R.mono (by omega))
  replace bw : Hid (Bx w6 w1.heap.size (.int .i64 rm) (.slice A_ow rl.length c_ow)) := bw.out.keep R
  replace bg : Hid (Bx w6 w2.heap.size (.int .i64 rm) (.slice A_og rl.length c_og)) := bg.out.keep R
  replace ow : Hid (OwnP w6 w.heap.size w1.heap.size (.slice A_ow rl.length c_ow) rl) := ow.out.keep R
  replace og : Hid (OwnP w6 (w1.heap.size + 1) w2.heap.size (.slice A_og rl.length c_og) (mkP (1) rl)) := og.out.keep R
  clear R hb6
  have oh : Hid (OwnP w6 w5.heap.size w6.heap.size (.slice A_oh rl.length c_oh) rl) := o_oh'
  clear o_oh'
  have bw_c := bw.out.2.1
  have bw_d := bw.out.2.2
  have bw_z := bw.out.1
  have bg_c := bg.out.2.1
  have bg_d := bg.out.2.2
  have bg_z := bg.out.1
  go_wp2_with fail
  refine (eqP_any _ rm rm _ _ _ _ (oh.out.keep (by (repeat (first | assumption | exact Below.refl _ _ | refine Below.alloc ?_ (by first | omega | (simp; done) | (simp; omega)) _ | refine Below.setCell ?_ (by first | omega | (simp; done) | (simp; omega)) _ | refine below_drewN ?_ _)))).rd (ow.out.keep (by (repeat (first | assumption | exact Below.refl _ _ | refine Below.alloc ?_ (by first | omega | (simp; done) | (simp; omega)) _ | refine Below.setCell ?_ (by first | omega | (simp; done) | (simp; omega)) _ | refine below_drewN ?_ _)))).rd).mono ?_
  rintro e w7 ⟨rfl, hb7⟩
  clear bw_c bw_d bw_z
  clear bg_c bg_d bg_z
  have R : Below w6.heap.size w6 w7 := Below.trans (by (repeat (first | assumption | exact Below.refl _ _ | refine Below.alloc ?_ (by first | omega | (simp; done) | (simp; omega)) _ | refine Below.setCell ?_ (by first | omega | (simp; done) | (simp; omega)) _ | refine below_drewN ?_ _))) (hb7.mono (by first | exact Nat.le_refl _ | (simp; done) | (simp; omega)))
  have s7 : w6.heap.size ≤ w7.heap.size := R.size
  have K7 : Hid (Below w.heap.size w w7) := K6.out.trans (R.mono (by omega))
  replace bw : Hid (Bx w7 w1.heap.size (.int .i64 rm) (.slice A_ow rl.length c_ow)) := bw.out.keep R
  replace bg : Hid (Bx w7 w2.heap.size (.int .i64 rm) (.slice A_og rl.length c_og)) := bg.out.keep R
  replace ow : Hid (OwnP w7 w.heap.size w1.heap.size (.slice A_ow rl.length c_ow) rl) := ow.out.keep R
  replace og : Hid (OwnP w7 (w1.heap.size + 1) w2.heap.size (.slice A_og rl.length c_og) (mkP (1) rl)) := og.out.keep R
  replace oh : Hid (OwnP w7 w5.heap.size w6.heap.size (.slice A_oh rl.length c_oh) rl) := oh.out.keep R
  have bh : Hid (Bx w7 w6.heap.size (.int .i64 rm) (.slice A_oh rl.length c_oh)) := ⟨by have := hb7.size; simp at this; omega, by rw [hb7.cell (by first | (simp; done) | (simp; omega))]; simp, by rw [hb7.cell (by first | (simp; done) | (simp; omega))]; simp⟩
  clear R hb7
  have bw_c := bw.out.2.1
  have bw_d := bw.out.2.2
  have bw_z := bw.out.1
  have bg_c := bg.out.2.1
  have bg_d := bg.out.2.2
  have bg_z := bg.out.1
  have bh_c := bh.out.2.1
  have bh_d := bh.out.2.2
  have bh_z := bh.out.1
  go_wp2_with fail
  refine (heldPB_any _ (w1.heap.size + 1) w2.heap.size rm _ rl (1) (og.out.keep (by (repeat (first | assumption | exact Below.refl _ _ | refine Below.alloc ?_ (by first | omega | (simp; done) | (simp; omega)) _ | refine Below.setCell ?_ (by first | omega | (simp; done) | (simp; omega)) _ | refine below_drewN ?_ _)))) (by omega) (by omega) (by omega)).mono ?_
  rintro e w8 ⟨rfl, hb8⟩
  clear bw_c bw_d bw_z
  clear bg_c bg_d bg_z
  clear bh_c bh_d bh_z
  have R : Below w7.heap.size w7 w8 := Below.trans (by (repeat (first | assumption | exact Below.refl _ _ | refine Below.alloc ?_ (by first | omega | (simp; done) | (simp; omega)) _ | refine Below.setCell ?_ (by first | omega | (simp; done) | (simp; omega)) _ | refine below_drewN ?_ _))) (hb8.mono (by first | exact Nat.le_refl _ | (simp; done) | (simp; omega)))
  have s8 : w7.heap.size ≤ w8.heap.size := R.size
  have K8 : Hid (Below w.heap.size w w8) := K7.out.trans (R.mono (by omega))
  replace bw : Hid (Bx w8 w1.heap.size (.int .i64 rm) (.slice A_ow rl.length c_ow)) := bw.out.keep R
  replace bg : Hid (Bx w8 w2.heap.size (.int .i64 rm) (.slice A_og rl.length c_og)) := bg.out.keep R
  replace bh : Hid (Bx w8 w6.heap.size (.int .i64 rm) (.slice A_oh rl.length c_oh)) := bh.out.keep R
  replace ow : Hid (OwnP w8 w.heap.size w1.heap.size (.slice A_ow rl.length c_ow) rl) := ow.out.keep R
  replace og : Hid (OwnP w8 (w1.heap.size + 1) w2.heap.size (.slice A_og rl.length c_og) (mkP (1) rl)) := og.out.keep R
  replace oh : Hid (OwnP w8 w5.heap.size w6.heap.size (.slice A_oh rl.length c_oh) rl) := oh.out.keep R
  clear R hb8
  have bw_c := bw.out.2.1
  have bw_d := bw.out.2.2
  have bw_z := bw.out.1
  have bg_c := bg.out.2.1
  have bg_d := bg.out.2.2
  have bg_z := bg.out.1
  have bh_c := bh.out.2.1
  have bh_d := bh.out.2.2
  have bh_z := bh.out.1
  go_wp2
  go_ret
  exact ⟨rfl, K8.out⟩

/-! ### The laws' walks, printed by genlaw2.py -/
set_option maxHeartbeats 4000000 in
theorem FnExactPlaneOfSeries_walk (w : World) (m0 : Int) (v0 : Value) (xs0 : List Int) (hv0 : RdI w v0 xs0) (a1 : Int) : Calls Try.prog 8 #[.agg #[.int .i64 m0, v0], .int .i64 a1] w fun e w' => e = .returned (.bool true) ∧ Below w.heap.size w w' := by
  obtain ⟨A0, c0, e0⟩ := hv0.form
  subst e0
  obtain ⟨r0, HR⟩ : ∃ r0, Hid (PlaneOfSeriesR m0 xs0 a1 = r0) := ⟨_, rfl⟩
  obtain ⟨⟨rm, rl⟩, rc⟩ := r0
  have hlen := PlaneOfSeriesR_len m0 xs0 a1
  rw [HR.out] at hlen
  simp only at hlen
  by_cases hz0 : 1048576 < (xs0.length : Int)
  · skip
    have HZ0 := Lib.hid (szN_lt hz0)
    go_enter Try.func8, Try.ntmps8
    go_wp2_with fail
    refine (szS_any _ m0 _ xs0 (1048576) (hv0.below (by (repeat (first | assumption | exact Below.refl _ _ | refine Below.alloc ?_ (by first | omega | (simp; done) | (simp; omega)) _ | refine Below.setCell ?_ (by first | omega | (simp; done) | (simp; omega)) _ | refine below_drewN ?_ _)))) (by omega) (by omega)).mono ?_
    rintro e w1 ⟨rfl, hb1⟩
    rw [HZ0.out]
    have R : Below w.heap.size w w1 := Below.trans (by (repeat (first | assumption | exact Below.refl _ _ | refine Below.alloc ?_ (by first | omega | (simp; done) | (simp; omega)) _ | refine Below.setCell ?_ (by first | omega | (simp; done) | (simp; omega)) _ | refine below_drewN ?_ _))) (hb1.mono (by first | exact Nat.le_refl _ | (simp; done) | (simp; omega)))
    have s1 : w.heap.size ≤ w1.heap.size := R.size
    have K1 : Hid (Below w.heap.size w w1) := R
    have b0 : Hid (Bx w1 w.heap.size (.int .i64 m0) (.slice A0 xs0.length c0)) := ⟨by have := hb1.size; simp at this; omega, by rw [hb1.cell (by first | (simp; done) | (simp; omega))]; simp, by rw [hb1.cell (by first | (simp; done) | (simp; omega))]; simp⟩
    clear R hb1
    have b0_c := b0.out.2.1
    have b0_d := b0.out.2.2
    have b0_z := b0.out.1
    go_wp2
    go_ret
    exact ⟨rfl, K1.out⟩
  have HZ0 := Lib.hid (szN_ge hz0)
  have hl0 : (xs0.length : Int) ≤ 1048576 := by omega
  clear hz0
  go_enter Try.func8, Try.ntmps8
  go_wp2_with fail
  refine (szS_any _ m0 _ xs0 (1048576) (hv0.below (by (repeat (first | assumption | exact Below.refl _ _ | refine Below.alloc ?_ (by first | omega | (simp; done) | (simp; omega)) _ | refine Below.setCell ?_ (by first | omega | (simp; done) | (simp; omega)) _ | refine below_drewN ?_ _)))) (by omega) (by omega)).mono ?_
  rintro e w2 ⟨rfl, hb2⟩
  rw [HZ0.out]
  have R : Below w.heap.size w w2 := Below.trans (by (repeat (first | assumption | exact Below.refl _ _ | refine Below.alloc ?_ (by first | omega | (simp; done) | (simp; omega)) _ | refine Below.setCell ?_ (by first | omega | (simp; done) | (simp; omega)) _ | refine below_drewN ?_ _))) (hb2.mono (by first | exact Nat.le_refl _ | (simp; done) | (simp; omega)))
  have s2 : w.heap.size ≤ w2.heap.size := R.size
  have K2 : Hid (Below w.heap.size w w2) := R
  have b0 : Hid (Bx w2 w.heap.size (.int .i64 m0) (.slice A0 xs0.length c0)) := ⟨by have := hb2.size; simp at this; omega, by rw [hb2.cell (by first | (simp; done) | (simp; omega))]; simp, by rw [hb2.cell (by first | (simp; done) | (simp; omega))]; simp⟩
  clear R hb2
  have b0_c := b0.out.2.1
  have b0_d := b0.out.2.2
  have b0_z := b0.out.1
  go_wp2_with fail
  refine (toS_any _ m0 _ xs0 (hv0.below K2.out) (by omega)).mono ?_
  rintro e w3 ⟨A_p0, c_p0, rfl, o_p0, hb3⟩
  clear b0_c b0_d b0_z
  have o_p0' := (o_p0.toB).mono (show w2.heap.size ≤ _ from by first | exact Nat.le_refl _ | (simp; done) | (simp; omega)) (Nat.le_refl _)
  clear o_p0
  have R : Below w2.heap.size w2 w3 := Below.trans (by (repeat (first | assumption | exact Below.refl _ _ | refine Below.alloc ?_ (by first | omega | (simp; done) | (simp; omega)) _ | refine Below.setCell ?_ (by first | omega | (simp; done) | (simp; omega)) _ | refine below_drewN ?_ _))) (hb3.mono (by first | exact Nat.le_refl _ | (simp; done) | (simp; omega)))
  have s3 : w2.heap.size ≤ w3.heap.size := R.size
  have K3 : Hid (Below w.heap.size w w3) := K2.out.trans (R.mono (by omega))
  replace b0 : Hid (Bx w3 w.heap.size (.int .i64 m0) (.slice A0 xs0.length c0)) := b0.out.keep R
  clear R hb3
  have p0 : Hid (OwnB w3 w2.heap.size w3.heap.size (.slice A_p0 xs0.length c_p0) xs0) := o_p0'
  clear o_p0'
  have b0_c := b0.out.2.1
  have b0_d := b0.out.2.2
  have b0_z := b0.out.1
  go_wp2_with fail
  refine (sPlaneOfSeriesR_any _ m0 (.slice A_p0 xs0.length c_p0) xs0 a1 w2.heap.size (p0.out.keep (by (repeat (first | assumption | exact Below.refl _ _ | refine Below.alloc ?_ (by first | omega | (simp; done) | (simp; omega)) _ | refine Below.setCell ?_ (by first | omega | (simp; done) | (simp; omega)) _ | refine below_drewN ?_ _)))).1 (by omega)).mono ?_
  rintro e w4 h_r
  replace h_r := h_r.of HR
  obtain ⟨A_ow, c_ow, rfl, o_ow, hb4⟩ := h_r
  have o_ow' := (o_ow).mono (show w3.heap.size ≤ _ from by first | exact Nat.le_refl _ | (simp; done) | (simp; omega)) (Nat.le_refl _)
  clear o_ow
  clear b0_c b0_d b0_z
  have R : Below w3.heap.size w3 w4 := Below.trans (by (repeat (first | assumption | exact Below.refl _ _ | refine Below.alloc ?_ (by first | omega | (simp; done) | (simp; omega)) _ | refine Below.setCell ?_ (by first | omega | (simp; done) | (simp; omega)) _ | refine below_drewN ?_ _))) (hb4.mono (by first | exact Nat.le_refl _ | (simp; done) | (simp; omega)))
  have s4 : w3.heap.size ≤ w4.heap.size := R.size
  have K4 : Hid (Below w.heap.size w w4) := K3.out.trans (R.mono (by omega))
  replace b0 : Hid (Bx w4 w.heap.size (.int .i64 m0) (.slice A0 xs0.length c0)) := b0.out.keep R
  replace p0 : Hid (OwnB w4 w2.heap.size w3.heap.size (.slice A_p0 xs0.length c_p0) xs0) := p0.out.keep R
  clear R hb4
  have ow : Hid (OwnP w4 w3.heap.size w4.heap.size (.slice A_ow rl.length c_ow) rl) := o_ow'
  clear o_ow'
  clear p0
  have b0_c := b0.out.2.1
  have b0_d := b0.out.2.2
  have b0_z := b0.out.1
  go_wp2_with fail
  refine (toS_any _ m0 _ xs0 (hv0.below (K4.out.trans (Below.mono (by (repeat (first | assumption | exact Below.refl _ _ | refine Below.alloc ?_ (by first | omega | (simp; done) | (simp; omega)) _ | refine Below.setCell ?_ (by first | omega | (simp; done) | (simp; omega)) _ | refine below_drewN ?_ _))) (by omega)))) (by omega)).mono ?_
  rintro e w5 ⟨A_x0, c_x0, rfl, o_x0, hb5⟩
  clear b0_c b0_d b0_z
  have o_x0' := (o_x0.toB).mono (show (w4.heap.size + 1) ≤ _ from by first | exact Nat.le_refl _ | (simp; done) | (simp; omega)) (Nat.le_refl _)
  clear o_x0
  have R : Below w4.heap.size w4 w5 := Below.trans (by (repeat (first | assumption | exact Below.refl _ _ | refine Below.alloc ?_ (by first | omega | (simp; done) | (simp; omega)) _ | refine Below.setCell ?_ (by first | omega | (simp; done) | (simp; omega)) _ | refine below_drewN ?_ _))) (hb5.mono (by first | exact Nat.le_refl _ | (simp; done) | (simp; omega)))
  have s5 : w4.heap.size ≤ w5.heap.size := R.size
  have K5 : Hid (Below w.heap.size w w5) := K4.out.trans (R.mono (by omega))
  replace b0 : Hid (Bx w5 w.heap.size (.int .i64 m0) (.slice A0 xs0.length c0)) := b0.out.keep R
  replace ow : Hid (OwnP w5 w3.heap.size w4.heap.size (.slice A_ow rl.length c_ow) rl) := ow.out.keep R
  have bw : Hid (Bx w5 w4.heap.size (.int .i64 rm) (.slice A_ow rl.length c_ow)) := ⟨by have := hb5.size; simp at this; omega, by rw [hb5.cell (by first | (simp; done) | (simp; omega))]; simp, by rw [hb5.cell (by first | (simp; done) | (simp; omega))]; simp⟩
  clear R hb5
  have x0 : Hid (OwnB w5 (w4.heap.size + 1) w5.heap.size (.slice A_x0 xs0.length c_x0) xs0) := o_x0'
  clear o_x0'
  have b0_c := b0.out.2.1
  have b0_d := b0.out.2.2
  have b0_z := b0.out.1
  have bw_c := bw.out.2.1
  have bw_d := bw.out.2.2
  have bw_z := bw.out.1
  go_wp2_with fail
  refine (iPlaneOfSeriesR_any _ m0 (.slice A_x0 xs0.length c_x0) xs0 a1 (w4.heap.size + 1) (x0.out.keep (by (repeat (first | assumption | exact Below.refl _ _ | refine Below.alloc ?_ (by first | omega | (simp; done) | (simp; omega)) _ | refine Below.setCell ?_ (by first | omega | (simp; done) | (simp; omega)) _ | refine below_drewN ?_ _)))).1 (by omega)).mono ?_
  rintro e w6 h_r
  replace h_r := h_r.of HR
  obtain ⟨A_og, c_og, rfl, o_og, hb6⟩ := h_r
  have o_og' := (o_og).mono (show (w5.heap.size + 1) ≤ _ from by first | exact Nat.le_refl _ | (simp; done) | (simp; omega)) (Nat.le_refl _)
  clear o_og
  clear b0_c b0_d b0_z
  clear bw_c bw_d bw_z
  have R : Below w5.heap.size w5 w6 := Below.trans (by (repeat (first | assumption | exact Below.refl _ _ | refine Below.alloc ?_ (by first | omega | (simp; done) | (simp; omega)) _ | refine Below.setCell ?_ (by first | omega | (simp; done) | (simp; omega)) _ | refine below_drewN ?_ _))) (hb6.mono (by first | exact Nat.le_refl _ | (simp; done) | (simp; omega)))
  have s6 : w5.heap.size ≤ w6.heap.size := R.size
  have K6 : Hid (Below w.heap.size w w6) := K5.out.trans (R.mono (by omega))
  replace b0 : Hid (Bx w6 w.heap.size (.int .i64 m0) (.slice A0 xs0.length c0)) := b0.out.keep R
  replace bw : Hid (Bx w6 w4.heap.size (.int .i64 rm) (.slice A_ow rl.length c_ow)) := bw.out.keep R
  replace ow : Hid (OwnP w6 w3.heap.size w4.heap.size (.slice A_ow rl.length c_ow) rl) := ow.out.keep R
  replace x0 : Hid (OwnB w6 (w4.heap.size + 1) w5.heap.size (.slice A_x0 xs0.length c_x0) xs0) := x0.out.keep R
  have bx0 : Hid (Bx w6 w5.heap.size (.int .i64 m0) (.slice A_x0 xs0.length c_x0)) := ⟨by have := hb6.size; simp at this; omega, by rw [hb6.cell (by first | (simp; done) | (simp; omega))]; simp, by rw [hb6.cell (by first | (simp; done) | (simp; omega))]; simp⟩
  clear R hb6
  have og : Hid (OwnP w6 (w5.heap.size + 1) w6.heap.size (.slice A_og rl.length c_og) rl) := o_og'
  clear o_og'
  have b0_c := b0.out.2.1
  have b0_d := b0.out.2.2
  have b0_z := b0.out.1
  have bw_c := bw.out.2.1
  have bw_d := bw.out.2.2
  have bw_z := bw.out.1
  have bx0_c := bx0.out.2.1
  have bx0_d := bx0.out.2.2
  have bx0_z := bx0.out.1
  go_wp2_with fail
  refine (eqP_any _ rm rm _ _ _ _ (og.out.keep (by (repeat (first | assumption | exact Below.refl _ _ | refine Below.alloc ?_ (by first | omega | (simp; done) | (simp; omega)) _ | refine Below.setCell ?_ (by first | omega | (simp; done) | (simp; omega)) _ | refine below_drewN ?_ _)))).rd (ow.out.keep (by (repeat (first | assumption | exact Below.refl _ _ | refine Below.alloc ?_ (by first | omega | (simp; done) | (simp; omega)) _ | refine Below.setCell ?_ (by first | omega | (simp; done) | (simp; omega)) _ | refine below_drewN ?_ _)))).rd).mono ?_
  rintro e w7 ⟨rfl, hb7⟩
  clear b0_c b0_d b0_z
  clear bw_c bw_d bw_z
  clear bx0_c bx0_d bx0_z
  have R : Below w6.heap.size w6 w7 := Below.trans (by (repeat (first | assumption | exact Below.refl _ _ | refine Below.alloc ?_ (by first | omega | (simp; done) | (simp; omega)) _ | refine Below.setCell ?_ (by first | omega | (simp; done) | (simp; omega)) _ | refine below_drewN ?_ _))) (hb7.mono (by first | exact Nat.le_refl _ | (simp; done) | (simp; omega)))
  have s7 : w6.heap.size ≤ w7.heap.size := R.size
  have K7 : Hid (Below w.heap.size w w7) := K6.out.trans (R.mono (by omega))
  replace b0 : Hid (Bx w7 w.heap.size (.int .i64 m0) (.slice A0 xs0.length c0)) := b0.out.keep R
  replace bw : Hid (Bx w7 w4.heap.size (.int .i64 rm) (.slice A_ow rl.length c_ow)) := bw.out.keep R
  replace bx0 : Hid (Bx w7 w5.heap.size (.int .i64 m0) (.slice A_x0 xs0.length c_x0)) := bx0.out.keep R
  replace ow : Hid (OwnP w7 w3.heap.size w4.heap.size (.slice A_ow rl.length c_ow) rl) := ow.out.keep R
  replace x0 : Hid (OwnB w7 (w4.heap.size + 1) w5.heap.size (.slice A_x0 xs0.length c_x0) xs0) := x0.out.keep R
  replace og : Hid (OwnP w7 (w5.heap.size + 1) w6.heap.size (.slice A_og rl.length c_og) rl) := og.out.keep R
  have bg : Hid (Bx w7 w6.heap.size (.int .i64 rm) (.slice A_og rl.length c_og)) := ⟨by have := hb7.size; simp at this; omega, by rw [hb7.cell (by first | (simp; done) | (simp; omega))]; simp, by rw [hb7.cell (by first | (simp; done) | (simp; omega))]; simp⟩
  clear R hb7
  have b0_c := b0.out.2.1
  have b0_d := b0.out.2.2
  have b0_z := b0.out.1
  have bw_c := bw.out.2.1
  have bw_d := bw.out.2.2
  have bw_z := bw.out.1
  have bx0_c := bx0.out.2.1
  have bx0_d := bx0.out.2.2
  have bx0_z := bx0.out.1
  have bg_c := bg.out.2.1
  have bg_d := bg.out.2.2
  have bg_z := bg.out.1
  go_wp2
  clear b0_c b0_d b0_z
  clear bw_c bw_d bw_z
  clear bx0_c bx0_d bx0_z
  clear bg_c bg_d bg_z
  have L0 : Below w.heap.size w w7.drew := below_drew K7.out
  have T0 : Hid (Bx w7.drew w.heap.size (.int .i64 m0) (.slice A0 xs0.length c0) ∧ Bx w7.drew w4.heap.size (.int .i64 rm) (.slice A_ow rl.length c_ow) ∧ Bx w7.drew w5.heap.size (.int .i64 m0) (.slice A_x0 xs0.length c_x0) ∧ Bx w7.drew w6.heap.size (.int .i64 rm) (.slice A_og rl.length c_og) ∧ OwnP w7.drew w3.heap.size w4.heap.size (.slice A_ow rl.length c_ow) rl ∧ OwnB w7.drew (w4.heap.size + 1) w5.heap.size (.slice A_x0 xs0.length c_x0) xs0 ∧ OwnP w7.drew (w5.heap.size + 1) w6.heap.size (.slice A_og rl.length c_og) rl ∧ Below w.heap.size w w7.drew ∧ w7.heap.size ≤ w7.drew.heap.size) := ⟨b0.out, bw.out, bx0.out, bg.out, ow.out, x0.out, og.out, L0, Nat.le_refl _⟩
  go_region_held3 (fun w' => w'.cell? ⟨w.heap.size, 0, none⟩ = some (.int .i64 m0) ∧ w'.cell? ⟨w.heap.size, 1, none⟩ = some (.slice A0 xs0.length c0) ∧ w'.cell? ⟨w4.heap.size, 0, none⟩ = some (.int .i64 rm) ∧ w'.cell? ⟨w4.heap.size, 1, none⟩ = some (.slice A_ow rl.length c_ow) ∧ w'.cell? ⟨w5.heap.size, 0, none⟩ = some (.int .i64 m0) ∧ w'.cell? ⟨w5.heap.size, 1, none⟩ = some (.slice A_x0 xs0.length c_x0) ∧ w'.cell? ⟨w6.heap.size, 0, none⟩ = some (.int .i64 rm) ∧ w'.cell? ⟨w6.heap.size, 1, none⟩ = some (.slice A_og rl.length c_og) ∧ Hid (Bx w' w.heap.size (.int .i64 m0) (.slice A0 xs0.length c0) ∧ Bx w' w4.heap.size (.int .i64 rm) (.slice A_ow rl.length c_ow) ∧ Bx w' w5.heap.size (.int .i64 m0) (.slice A_x0 xs0.length c_x0) ∧ Bx w' w6.heap.size (.int .i64 rm) (.slice A_og rl.length c_og) ∧ OwnP w' w3.heap.size w4.heap.size (.slice A_ow rl.length c_ow) rl ∧ OwnB w' (w4.heap.size + 1) w5.heap.size (.slice A_x0 xs0.length c_x0) xs0 ∧ OwnP w' (w5.heap.size + 1) w6.heap.size (.slice A_og rl.length c_og) rl ∧ Below w.heap.size w w' ∧ w7.heap.size ≤ w'.heap.size))
    (first | exact ⟨(T0.out.1).2.1, (T0.out.1).2.2, (T0.out.2.1).2.1, (T0.out.2.1).2.2, (T0.out.2.2.1).2.1, (T0.out.2.2.1).2.2, (T0.out.2.2.2.1).2.1, (T0.out.2.2.2.1).2.2, T0⟩ | exact ⟨(T1.out.1).2.1, (T1.out.1).2.2, (T1.out.2.1).2.1, (T1.out.2.1).2.2, (T1.out.2.2.1).2.1, (T1.out.2.2.1).2.2, (T1.out.2.2.2.1).2.1, (T1.out.2.2.2.1).2.2, T1⟩ | exact ⟨(T2.out.1).2.1, (T2.out.1).2.2, (T2.out.2.1).2.1, (T2.out.2.1).2.2, (T2.out.2.2.1).2.1, (T2.out.2.2.1).2.2, (T2.out.2.2.2.1).2.1, (T2.out.2.2.2.1).2.2, T2⟩)
    (first
      | (go_at_call 35; refine (toS_any _ m0 _ xs0 (hv0.below L0) (by omega)).mono ?_; rintro e w8 ⟨A_t, c_t, rfl, o_t, hbA⟩; have T1 : Hid (Bx w8 w.heap.size (.int .i64 m0) (.slice A0 xs0.length c0) ∧ Bx w8 w4.heap.size (.int .i64 rm) (.slice A_ow rl.length c_ow) ∧ Bx w8 w5.heap.size (.int .i64 m0) (.slice A_x0 xs0.length c_x0) ∧ Bx w8 w6.heap.size (.int .i64 rm) (.slice A_og rl.length c_og) ∧ OwnP w8 w3.heap.size w4.heap.size (.slice A_ow rl.length c_ow) rl ∧ OwnB w8 (w4.heap.size + 1) w5.heap.size (.slice A_x0 xs0.length c_x0) xs0 ∧ OwnP w8 (w5.heap.size + 1) w6.heap.size (.slice A_og rl.length c_og) rl ∧ Below w.heap.size w w8 ∧ w7.heap.size ≤ w8.heap.size) := ⟨(T0.out.1).keep hbA, (T0.out.2.1).keep hbA, (T0.out.2.2.1).keep hbA, (T0.out.2.2.2.1).keep hbA, (T0.out.2.2.2.2.1).keep hbA, (T0.out.2.2.2.2.2.1).keep hbA, (T0.out.2.2.2.2.2.2.1).keep hbA, (T0.out.2.2.2.2.2.2.2.1).trans (hbA.mono (Nat.le_trans (show w.heap.size ≤ w7.heap.size from by omega) (T0.out.2.2.2.2.2.2.2.2))), Nat.le_trans (T0.out.2.2.2.2.2.2.2.2) hbA.size⟩)
      | (go_at_call 30; refine (eqS_any _ m0 m0 _ _ xs0 xs0 (T1.out.2.2.2.2.2.1).rd o_t.rd).mono ?_; rintro e w9 ⟨rfl, hbB⟩; have T2 : Hid (Bx w9 w.heap.size (.int .i64 m0) (.slice A0 xs0.length c0) ∧ Bx w9 w4.heap.size (.int .i64 rm) (.slice A_ow rl.length c_ow) ∧ Bx w9 w5.heap.size (.int .i64 m0) (.slice A_x0 xs0.length c_x0) ∧ Bx w9 w6.heap.size (.int .i64 rm) (.slice A_og rl.length c_og) ∧ OwnP w9 w3.heap.size w4.heap.size (.slice A_ow rl.length c_ow) rl ∧ OwnB w9 (w4.heap.size + 1) w5.heap.size (.slice A_x0 xs0.length c_x0) xs0 ∧ OwnP w9 (w5.heap.size + 1) w6.heap.size (.slice A_og rl.length c_og) rl ∧ Below w.heap.size w w9 ∧ w7.heap.size ≤ w9.heap.size) := ⟨(T1.out.1).keep hbB, (T1.out.2.1).keep hbB, (T1.out.2.2.1).keep hbB, (T1.out.2.2.2.1).keep hbB, (T1.out.2.2.2.2.1).keep hbB, (T1.out.2.2.2.2.2.1).keep hbB, (T1.out.2.2.2.2.2.2.1).keep hbB, (T1.out.2.2.2.2.2.2.2.1).trans (hbB.mono (Nat.le_trans (show w.heap.size ≤ w7.heap.size from by omega) (T1.out.2.2.2.2.2.2.2.2))), Nat.le_trans (T1.out.2.2.2.2.2.2.2.2) hbB.size⟩))
  have s9 : w7.heap.size ≤ w9.heap.size := T2.out.2.2.2.2.2.2.2.2
  have K9 : Hid (Below w.heap.size w w9) := T2.out.2.2.2.2.2.2.2.1
  replace b0 : Hid (Bx w9 w.heap.size (.int .i64 m0) (.slice A0 xs0.length c0)) := T2.out.1
  replace bw : Hid (Bx w9 w4.heap.size (.int .i64 rm) (.slice A_ow rl.length c_ow)) := T2.out.2.1
  replace bx0 : Hid (Bx w9 w5.heap.size (.int .i64 m0) (.slice A_x0 xs0.length c_x0)) := T2.out.2.2.1
  replace bg : Hid (Bx w9 w6.heap.size (.int .i64 rm) (.slice A_og rl.length c_og)) := T2.out.2.2.2.1
  replace ow : Hid (OwnP w9 w3.heap.size w4.heap.size (.slice A_ow rl.length c_ow) rl) := T2.out.2.2.2.2.1
  replace x0 : Hid (OwnB w9 (w4.heap.size + 1) w5.heap.size (.slice A_x0 xs0.length c_x0) xs0) := T2.out.2.2.2.2.2.1
  replace og : Hid (OwnP w9 (w5.heap.size + 1) w6.heap.size (.slice A_og rl.length c_og) rl) := T2.out.2.2.2.2.2.2.1
  clear T0 T1 T2 L0 o_t
  have b0_c := b0.out.2.1
  have b0_d := b0.out.2.2
  have b0_z := b0.out.1
  have bw_c := bw.out.2.1
  have bw_d := bw.out.2.2
  have bw_z := bw.out.1
  have bx0_c := bx0.out.2.1
  have bx0_d := bx0.out.2.2
  have bx0_z := bx0.out.1
  have bg_c := bg.out.2.1
  have bg_d := bg.out.2.2
  have bg_z := bg.out.1
  go_wp2_with fail
  refine (markSB_any _ (w4.heap.size + 1) w5.heap.size m0 _ xs0 (1) (x0.out.keep (by (repeat (first | assumption | exact Below.refl _ _ | refine Below.alloc ?_ (by first | omega | (simp; done) | (simp; omega)) _ | refine Below.setCell ?_ (by first | omega | (simp; done) | (simp; omega)) _ | refine below_drewN ?_ _)))) (by omega) (by omega) (by omega)).mono ?_
  rintro e w10 ⟨rfl, o_m, hg10⟩
  clear b0_c b0_d b0_z
  clear bw_c bw_d bw_z
  clear bx0_c bx0_d bx0_z
  clear bg_c bg_d bg_z
  have R : Within (w4.heap.size + 1) w5.heap.size w9 w10 := Within.behind (by (repeat (first | assumption | exact Below.refl _ _ | refine Below.alloc ?_ (by first | omega | (simp; done) | (simp; omega)) _ | refine Below.setCell ?_ (by first | omega | (simp; done) | (simp; omega)) _ | refine below_drewN ?_ _))) hg10
  have s10 : w9.heap.size ≤ w10.heap.size := R.2.2.2.1
  have K10 : Hid (Below w.heap.size w w10) := R.below K9.out (by omega) (by omega)
  replace b0 : Hid (Bx w10 w.heap.size (.int .i64 m0) (.slice A0 xs0.length c0)) := b0.out.within R (by omega)
  replace bw : Hid (Bx w10 w4.heap.size (.int .i64 rm) (.slice A_ow rl.length c_ow)) := bw.out.within R (by omega)
  replace bx0 : Hid (Bx w10 w5.heap.size (.int .i64 m0) (.slice A_x0 xs0.length c_x0)) := bx0.out.within R (by omega)
  replace bg : Hid (Bx w10 w6.heap.size (.int .i64 rm) (.slice A_og rl.length c_og)) := bg.out.within R (by omega)
  replace ow : Hid (OwnP w10 w3.heap.size w4.heap.size (.slice A_ow rl.length c_ow) rl) := ow.out.within R (by omega)
  replace og : Hid (OwnP w10 (w5.heap.size + 1) w6.heap.size (.slice A_og rl.length c_og) rl) := og.out.within R (by omega)
  clear R hg10
  replace x0 : Hid (OwnB w10 (w4.heap.size + 1) w5.heap.size (.slice A_x0 xs0.length c_x0) (marks (1) xs0.length)) := o_m
  clear o_m
  have b0_c := b0.out.2.1
  have b0_d := b0.out.2.2
  have b0_z := b0.out.1
  have bw_c := bw.out.2.1
  have bw_d := bw.out.2.2
  have bw_z := bw.out.1
  have bx0_c := bx0.out.2.1
  have bx0_d := bx0.out.2.2
  have bx0_z := bx0.out.1
  have bg_c := bg.out.2.1
  have bg_d := bg.out.2.2
  have bg_z := bg.out.1
  go_wp2_with fail
  refine (eqP_any _ rm rm _ _ _ _ (og.out.keep (by (repeat (first | assumption | exact Below.refl _ _ | refine Below.alloc ?_ (by first | omega | (simp; done) | (simp; omega)) _ | refine Below.setCell ?_ (by first | omega | (simp; done) | (simp; omega)) _ | refine below_drewN ?_ _)))).rd (ow.out.keep (by (repeat (first | assumption | exact Below.refl _ _ | refine Below.alloc ?_ (by first | omega | (simp; done) | (simp; omega)) _ | refine Below.setCell ?_ (by first | omega | (simp; done) | (simp; omega)) _ | refine below_drewN ?_ _)))).rd).mono ?_
  rintro e w11 ⟨rfl, hb11⟩
  clear b0_c b0_d b0_z
  clear bw_c bw_d bw_z
  clear bx0_c bx0_d bx0_z
  clear bg_c bg_d bg_z
  have R : Below w10.heap.size w10 w11 := Below.trans (by (repeat (first | assumption | exact Below.refl _ _ | refine Below.alloc ?_ (by first | omega | (simp; done) | (simp; omega)) _ | refine Below.setCell ?_ (by first | omega | (simp; done) | (simp; omega)) _ | refine below_drewN ?_ _))) (hb11.mono (by first | exact Nat.le_refl _ | (simp; done) | (simp; omega)))
  have s11 : w10.heap.size ≤ w11.heap.size := R.size
  have K11 : Hid (Below w.heap.size w w11) := K10.out.trans (R.mono (by omega))
  replace b0 : Hid (Bx w11 w.heap.size (.int .i64 m0) (.slice A0 xs0.length c0)) := b0.out.keep R
  replace bw : Hid (Bx w11 w4.heap.size (.int .i64 rm) (.slice A_ow rl.length c_ow)) := bw.out.keep R
  replace bx0 : Hid (Bx w11 w5.heap.size (.int .i64 m0) (.slice A_x0 xs0.length c_x0)) := bx0.out.keep R
  replace bg : Hid (Bx w11 w6.heap.size (.int .i64 rm) (.slice A_og rl.length c_og)) := bg.out.keep R
  replace ow : Hid (OwnP w11 w3.heap.size w4.heap.size (.slice A_ow rl.length c_ow) rl) := ow.out.keep R
  replace x0 : Hid (OwnB w11 (w4.heap.size + 1) w5.heap.size (.slice A_x0 xs0.length c_x0) (marks (1) xs0.length)) := x0.out.keep R
  replace og : Hid (OwnP w11 (w5.heap.size + 1) w6.heap.size (.slice A_og rl.length c_og) rl) := og.out.keep R
  clear R hb11
  have b0_c := b0.out.2.1
  have b0_d := b0.out.2.2
  have b0_z := b0.out.1
  have bw_c := bw.out.2.1
  have bw_d := bw.out.2.2
  have bw_z := bw.out.1
  have bx0_c := bx0.out.2.1
  have bx0_d := bx0.out.2.2
  have bx0_z := bx0.out.1
  have bg_c := bg.out.2.1
  have bg_d := bg.out.2.2
  have bg_z := bg.out.1
  go_wp2_with fail
  refine (markPB_any _ (w5.heap.size + 1) w6.heap.size rm _ rl (1) (og.out.keep (by (repeat (first | assumption | exact Below.refl _ _ | refine Below.alloc ?_ (by first | omega | (simp; done) | (simp; omega)) _ | refine Below.setCell ?_ (by first | omega | (simp; done) | (simp; omega)) _ | refine below_drewN ?_ _)))) (by omega) (by omega) (by omega)).mono ?_
  rintro e w12 ⟨rfl, o_m, hg12⟩
  clear b0_c b0_d b0_z
  clear bw_c bw_d bw_z
  clear bx0_c bx0_d bx0_z
  clear bg_c bg_d bg_z
  have R : Within (w5.heap.size + 1) w6.heap.size w11 w12 := Within.behind (by (repeat (first | assumption | exact Below.refl _ _ | refine Below.alloc ?_ (by first | omega | (simp; done) | (simp; omega)) _ | refine Below.setCell ?_ (by first | omega | (simp; done) | (simp; omega)) _ | refine below_drewN ?_ _))) hg12
  have s12 : w11.heap.size ≤ w12.heap.size := R.2.2.2.1
  have K12 : Hid (Below w.heap.size w w12) := R.below K11.out (by omega) (by omega)
  replace b0 : Hid (Bx w12 w.heap.size (.int .i64 m0) (.slice A0 xs0.length c0)) := b0.out.within R (by omega)
  replace bw : Hid (Bx w12 w4.heap.size (.int .i64 rm) (.slice A_ow rl.length c_ow)) := bw.out.within R (by omega)
  replace bx0 : Hid (Bx w12 w5.heap.size (.int .i64 m0) (.slice A_x0 xs0.length c_x0)) := bx0.out.within R (by omega)
  replace bg : Hid (Bx w12 w6.heap.size (.int .i64 rm) (.slice A_og rl.length c_og)) := bg.out.within R (by omega)
  replace ow : Hid (OwnP w12 w3.heap.size w4.heap.size (.slice A_ow rl.length c_ow) rl) := ow.out.within R (by omega)
  replace x0 : Hid (OwnB w12 (w4.heap.size + 1) w5.heap.size (.slice A_x0 xs0.length c_x0) (marks (1) xs0.length)) := x0.out.within R (by omega)
  clear R hg12
  replace og : Hid (OwnP w12 (w5.heap.size + 1) w6.heap.size (.slice A_og rl.length c_og) (mkP (1) rl)) := o_m
  clear o_m
  have b0_c := b0.out.2.1
  have b0_d := b0.out.2.2
  have b0_z := b0.out.1
  have bw_c := bw.out.2.1
  have bw_d := bw.out.2.2
  have bw_z := bw.out.1
  have bx0_c := bx0.out.2.1
  have bx0_d := bx0.out.2.2
  have bx0_z := bx0.out.1
  have bg_c := bg.out.2.1
  have bg_d := bg.out.2.2
  have bg_z := bg.out.1
  go_wp2_with fail
  refine (heldPB_any _ (w5.heap.size + 1) w6.heap.size rm _ rl (1) (og.out.keep (by (repeat (first | assumption | exact Below.refl _ _ | refine Below.alloc ?_ (by first | omega | (simp; done) | (simp; omega)) _ | refine Below.setCell ?_ (by first | omega | (simp; done) | (simp; omega)) _ | refine below_drewN ?_ _)))) (by omega) (by omega) (by omega)).mono ?_
  rintro e w13 ⟨rfl, hb13⟩
  clear b0_c b0_d b0_z
  clear bw_c bw_d bw_z
  clear bx0_c bx0_d bx0_z
  clear bg_c bg_d bg_z
  have R : Below w12.heap.size w12 w13 := Below.trans (by (repeat (first | assumption | exact Below.refl _ _ | refine Below.alloc ?_ (by first | omega | (simp; done) | (simp; omega)) _ | refine Below.setCell ?_ (by first | omega | (simp; done) | (simp; omega)) _ | refine below_drewN ?_ _))) (hb13.mono (by first | exact Nat.le_refl _ | (simp; done) | (simp; omega)))
  have s13 : w12.heap.size ≤ w13.heap.size := R.size
  have K13 : Hid (Below w.heap.size w w13) := K12.out.trans (R.mono (by omega))
  replace b0 : Hid (Bx w13 w.heap.size (.int .i64 m0) (.slice A0 xs0.length c0)) := b0.out.keep R
  replace bw : Hid (Bx w13 w4.heap.size (.int .i64 rm) (.slice A_ow rl.length c_ow)) := bw.out.keep R
  replace bx0 : Hid (Bx w13 w5.heap.size (.int .i64 m0) (.slice A_x0 xs0.length c_x0)) := bx0.out.keep R
  replace bg : Hid (Bx w13 w6.heap.size (.int .i64 rm) (.slice A_og rl.length c_og)) := bg.out.keep R
  replace ow : Hid (OwnP w13 w3.heap.size w4.heap.size (.slice A_ow rl.length c_ow) rl) := ow.out.keep R
  replace x0 : Hid (OwnB w13 (w4.heap.size + 1) w5.heap.size (.slice A_x0 xs0.length c_x0) (marks (1) xs0.length)) := x0.out.keep R
  replace og : Hid (OwnP w13 (w5.heap.size + 1) w6.heap.size (.slice A_og rl.length c_og) (mkP (1) rl)) := og.out.keep R
  clear R hb13
  have b0_c := b0.out.2.1
  have b0_d := b0.out.2.2
  have b0_z := b0.out.1
  have bw_c := bw.out.2.1
  have bw_d := bw.out.2.2
  have bw_z := bw.out.1
  have bx0_c := bx0.out.2.1
  have bx0_d := bx0.out.2.2
  have bx0_z := bx0.out.1
  have bg_c := bg.out.2.1
  have bg_d := bg.out.2.2
  have bg_z := bg.out.1
  go_wp2_with fail
  refine (toS_any _ m0 _ xs0 (hv0.below K13.out) (by omega)).mono ?_
  rintro e w14 ⟨A_y0, c_y0, rfl, o_y0, hb14⟩
  clear b0_c b0_d b0_z
  clear bw_c bw_d bw_z
  clear bx0_c bx0_d bx0_z
  clear bg_c bg_d bg_z
  have o_y0' := (o_y0.toB).mono (show w13.heap.size ≤ _ from by first | exact Nat.le_refl _ | (simp; done) | (simp; omega)) (Nat.le_refl _)
  clear o_y0
  have R : Below w13.heap.size w13 w14 := Below.trans (by (repeat (first | assumption | exact Below.refl _ _ | refine Below.alloc ?_ (by first | omega | (simp; done) | (simp; omega)) _ | refine Below.setCell ?_ (by first | omega | (simp; done) | (simp; omega)) _ | refine below_drewN ?_ _))) (hb14.mono (by first | exact Nat.le_refl _ | (simp; done) | (simp; omega)))
  have s14 : w13.heap.size ≤ w14.heap.size := R.size
  have K14 : Hid (Below w.heap.size w w14) := K13.out.trans (R.mono (by omega))
  replace b0 : Hid (Bx w14 w.heap.size (.int .i64 m0) (.slice A0 xs0.length c0)) := b0.out.keep R
  replace bw : Hid (Bx w14 w4.heap.size (.int .i64 rm) (.slice A_ow rl.length c_ow)) := bw.out.keep R
  replace bx0 : Hid (Bx w14 w5.heap.size (.int .i64 m0) (.slice A_x0 xs0.length c_x0)) := bx0.out.keep R
  replace bg : Hid (Bx w14 w6.heap.size (.int .i64 rm) (.slice A_og rl.length c_og)) := bg.out.keep R
  replace ow : Hid (OwnP w14 w3.heap.size w4.heap.size (.slice A_ow rl.length c_ow) rl) := ow.out.keep R
  replace x0 : Hid (OwnB w14 (w4.heap.size + 1) w5.heap.size (.slice A_x0 xs0.length c_x0) (marks (1) xs0.length)) := x0.out.keep R
  replace og : Hid (OwnP w14 (w5.heap.size + 1) w6.heap.size (.slice A_og rl.length c_og) (mkP (1) rl)) := og.out.keep R
  clear R hb14
  have y0 : Hid (OwnB w14 w13.heap.size w14.heap.size (.slice A_y0 xs0.length c_y0) xs0) := o_y0'
  clear o_y0'
  have b0_c := b0.out.2.1
  have b0_d := b0.out.2.2
  have b0_z := b0.out.1
  have bw_c := bw.out.2.1
  have bw_d := bw.out.2.2
  have bw_z := bw.out.1
  have bx0_c := bx0.out.2.1
  have bx0_d := bx0.out.2.2
  have bx0_z := bx0.out.1
  have bg_c := bg.out.2.1
  have bg_d := bg.out.2.2
  have bg_z := bg.out.1
  go_wp2_with fail
  refine (iPlaneOfSeriesR_any _ m0 (.slice A_y0 xs0.length c_y0) xs0 a1 w13.heap.size (y0.out.keep (by (repeat (first | assumption | exact Below.refl _ _ | refine Below.alloc ?_ (by first | omega | (simp; done) | (simp; omega)) _ | refine Below.setCell ?_ (by first | omega | (simp; done) | (simp; omega)) _ | refine below_drewN ?_ _)))).1 (by omega)).mono ?_
  rintro e w15 h_r
  replace h_r := h_r.of HR
  obtain ⟨A_oh, c_oh, rfl, o_oh, hb15⟩ := h_r
  have o_oh' := (o_oh).mono (show w14.heap.size ≤ _ from by first | exact Nat.le_refl _ | (simp; done) | (simp; omega)) (Nat.le_refl _)
  clear o_oh
  clear b0_c b0_d b0_z
  clear bw_c bw_d bw_z
  clear bx0_c bx0_d bx0_z
  clear bg_c bg_d bg_z
  have R : Below w14.heap.size w14 w15 := Below.trans (by (repeat (first | assumption | exact Below.refl _ _ | refine Below.alloc ?_ (by first | omega | (simp; done) | (simp; omega)) _ | refine Below.setCell ?_ (by first | omega | (simp; done) | (simp; omega)) _ | refine below_drewN ?_ _))) (hb15.mono (by first | exact Nat.le_refl _ | (simp; done) | (simp; omega)))
  have s15 : w14.heap.size ≤ w15.heap.size := R.size
  have K15 : Hid (Below w.heap.size w w15) := K14.out.trans (R.mono (by omega))
  replace b0 : Hid (Bx w15 w.heap.size (.int .i64 m0) (.slice A0 xs0.length c0)) := b0.out.keep R
  replace bw : Hid (Bx w15 w4.heap.size (.int .i64 rm) (.slice A_ow rl.length c_ow)) := bw.out.keep R
  replace bx0 : Hid (Bx w15 w5.heap.size (.int .i64 m0) (.slice A_x0 xs0.length c_x0)) := bx0.out.keep R
  replace bg : Hid (Bx w15 w6.heap.size (.int .i64 rm) (.slice A_og rl.length c_og)) := bg.out.keep R
  replace ow : Hid (OwnP w15 w3.heap.size w4.heap.size (.slice A_ow rl.length c_ow) rl) := ow.out.keep R
  replace x0 : Hid (OwnB w15 (w4.heap.size + 1) w5.heap.size (.slice A_x0 xs0.length c_x0) (marks (1) xs0.length)) := x0.out.keep R
  replace og : Hid (OwnP w15 (w5.heap.size + 1) w6.heap.size (.slice A_og rl.length c_og) (mkP (1) rl)) := og.out.keep R
  replace y0 : Hid (OwnB w15 w13.heap.size w14.heap.size (.slice A_y0 xs0.length c_y0) xs0) := y0.out.keep R
  clear R hb15
  have oh : Hid (OwnP w15 w14.heap.size w15.heap.size (.slice A_oh rl.length c_oh) rl) := o_oh'
  clear o_oh'
  have b0_c := b0.out.2.1
  have b0_d := b0.out.2.2
  have b0_z := b0.out.1
  have bw_c := bw.out.2.1
  have bw_d := bw.out.2.2
  have bw_z := bw.out.1
  have bx0_c := bx0.out.2.1
  have bx0_d := bx0.out.2.2
  have bx0_z := bx0.out.1
  have bg_c := bg.out.2.1
  have bg_d := bg.out.2.2
  have bg_z := bg.out.1
  go_wp2_with fail
  refine (eqP_any _ rm rm _ _ _ _ (oh.out.keep (by (repeat (first | assumption | exact Below.refl _ _ | refine Below.alloc ?_ (by first | omega | (simp; done) | (simp; omega)) _ | refine Below.setCell ?_ (by first | omega | (simp; done) | (simp; omega)) _ | refine below_drewN ?_ _)))).rd (ow.out.keep (by (repeat (first | assumption | exact Below.refl _ _ | refine Below.alloc ?_ (by first | omega | (simp; done) | (simp; omega)) _ | refine Below.setCell ?_ (by first | omega | (simp; done) | (simp; omega)) _ | refine below_drewN ?_ _)))).rd).mono ?_
  rintro e w16 ⟨rfl, hb16⟩
  clear b0_c b0_d b0_z
  clear bw_c bw_d bw_z
  clear bx0_c bx0_d bx0_z
  clear bg_c bg_d bg_z
  have R : Below w15.heap.size w15 w16 := Below.trans (by (repeat (first | assumption | exact Below.refl _ _ | refine Below.alloc ?_ (by first | omega | (simp; done) | (simp; omega)) _ | refine Below.setCell ?_ (by first | omega | (simp; done) | (simp; omega)) _ | refine below_drewN ?_ _))) (hb16.mono (by first | exact Nat.le_refl _ | (simp; done) | (simp; omega)))
  have s16 : w15.heap.size ≤ w16.heap.size := R.size
  have K16 : Hid (Below w.heap.size w w16) := K15.out.trans (R.mono (by omega))
  replace b0 : Hid (Bx w16 w.heap.size (.int .i64 m0) (.slice A0 xs0.length c0)) := b0.out.keep R
  replace bw : Hid (Bx w16 w4.heap.size (.int .i64 rm) (.slice A_ow rl.length c_ow)) := bw.out.keep R
  replace bx0 : Hid (Bx w16 w5.heap.size (.int .i64 m0) (.slice A_x0 xs0.length c_x0)) := bx0.out.keep R
  replace bg : Hid (Bx w16 w6.heap.size (.int .i64 rm) (.slice A_og rl.length c_og)) := bg.out.keep R
  replace ow : Hid (OwnP w16 w3.heap.size w4.heap.size (.slice A_ow rl.length c_ow) rl) := ow.out.keep R
  replace x0 : Hid (OwnB w16 (w4.heap.size + 1) w5.heap.size (.slice A_x0 xs0.length c_x0) (marks (1) xs0.length)) := x0.out.keep R
  replace og : Hid (OwnP w16 (w5.heap.size + 1) w6.heap.size (.slice A_og rl.length c_og) (mkP (1) rl)) := og.out.keep R
  replace y0 : Hid (OwnB w16 w13.heap.size w14.heap.size (.slice A_y0 xs0.length c_y0) xs0) := y0.out.keep R
  replace oh : Hid (OwnP w16 w14.heap.size w15.heap.size (.slice A_oh rl.length c_oh) rl) := oh.out.keep R
  have bh : Hid (Bx w16 w15.heap.size (.int .i64 rm) (.slice A_oh rl.length c_oh)) := ⟨by have := hb16.size; simp at this; omega, by rw [hb16.cell (by first | (simp; done) | (simp; omega))]; simp, by rw [hb16.cell (by first | (simp; done) | (simp; omega))]; simp⟩
  clear R hb16
  have b0_c := b0.out.2.1
  have b0_d := b0.out.2.2
  have b0_z := b0.out.1
  have bw_c := bw.out.2.1
  have bw_d := bw.out.2.2
  have bw_z := bw.out.1
  have bx0_c := bx0.out.2.1
  have bx0_d := bx0.out.2.2
  have bx0_z := bx0.out.1
  have bg_c := bg.out.2.1
  have bg_d := bg.out.2.2
  have bg_z := bg.out.1
  have bh_c := bh.out.2.1
  have bh_d := bh.out.2.2
  have bh_z := bh.out.1
  go_wp2_with fail
  refine (heldPB_any _ (w5.heap.size + 1) w6.heap.size rm _ rl (1) (og.out.keep (by (repeat (first | assumption | exact Below.refl _ _ | refine Below.alloc ?_ (by first | omega | (simp; done) | (simp; omega)) _ | refine Below.setCell ?_ (by first | omega | (simp; done) | (simp; omega)) _ | refine below_drewN ?_ _)))) (by omega) (by omega) (by omega)).mono ?_
  rintro e w17 ⟨rfl, hb17⟩
  clear b0_c b0_d b0_z
  clear bw_c bw_d bw_z
  clear bx0_c bx0_d bx0_z
  clear bg_c bg_d bg_z
  clear bh_c bh_d bh_z
  have R : Below w16.heap.size w16 w17 := Below.trans (by (repeat (first | assumption | exact Below.refl _ _ | refine Below.alloc ?_ (by first | omega | (simp; done) | (simp; omega)) _ | refine Below.setCell ?_ (by first | omega | (simp; done) | (simp; omega)) _ | refine below_drewN ?_ _))) (hb17.mono (by first | exact Nat.le_refl _ | (simp; done) | (simp; omega)))
  have s17 : w16.heap.size ≤ w17.heap.size := R.size
  have K17 : Hid (Below w.heap.size w w17) := K16.out.trans (R.mono (by omega))
  replace b0 : Hid (Bx w17 w.heap.size (.int .i64 m0) (.slice A0 xs0.length c0)) := b0.out.keep R
  replace bw : Hid (Bx w17 w4.heap.size (.int .i64 rm) (.slice A_ow rl.length c_ow)) := bw.out.keep R
  replace bx0 : Hid (Bx w17 w5.heap.size (.int .i64 m0) (.slice A_x0 xs0.length c_x0)) := bx0.out.keep R
  replace bg : Hid (Bx w17 w6.heap.size (.int .i64 rm) (.slice A_og rl.length c_og)) := bg.out.keep R
  replace bh : Hid (Bx w17 w15.heap.size (.int .i64 rm) (.slice A_oh rl.length c_oh)) := bh.out.keep R
  replace ow : Hid (OwnP w17 w3.heap.size w4.heap.size (.slice A_ow rl.length c_ow) rl) := ow.out.keep R
  replace x0 : Hid (OwnB w17 (w4.heap.size + 1) w5.heap.size (.slice A_x0 xs0.length c_x0) (marks (1) xs0.length)) := x0.out.keep R
  replace og : Hid (OwnP w17 (w5.heap.size + 1) w6.heap.size (.slice A_og rl.length c_og) (mkP (1) rl)) := og.out.keep R
  replace y0 : Hid (OwnB w17 w13.heap.size w14.heap.size (.slice A_y0 xs0.length c_y0) xs0) := y0.out.keep R
  replace oh : Hid (OwnP w17 w14.heap.size w15.heap.size (.slice A_oh rl.length c_oh) rl) := oh.out.keep R
  clear R hb17
  have b0_c := b0.out.2.1
  have b0_d := b0.out.2.2
  have b0_z := b0.out.1
  have bw_c := bw.out.2.1
  have bw_d := bw.out.2.2
  have bw_z := bw.out.1
  have bx0_c := bx0.out.2.1
  have bx0_d := bx0.out.2.2
  have bx0_z := bx0.out.1
  have bg_c := bg.out.2.1
  have bg_d := bg.out.2.2
  have bg_z := bg.out.1
  have bh_c := bh.out.2.1
  have bh_d := bh.out.2.2
  have bh_z := bh.out.1
  go_wp2
  go_ret
  exact ⟨rfl, K17.out⟩


end Go.Proofs.Ytenofgofcioffaa
