/- Contracts over this seat's translation. Condition: each contract's own. -/
import Derived.Test.YtmppmnmkhfcoaaaG
import Derived.ProofKit
import Derived.Laws.Bits64b
import Derived.Lib.Mul64
import Derived.OpenShut
import Derived.Below
import Derived.ChangeSame
import Derived.Deep.Modes
import Derived.Lib.SmallJoins
import Derived.ChangeSlices
import Derived.WalkKit
import Derived.WalkSpells
import Derived.WalkLawsBesides
import Derived.Deep.QuietTactic
import Derived.BigQuiet
import Derived.Deep.RegionHeld3
import Derived.Deep.RegionWith
import Derived.Deep.RegionLaw
import Derived.Deep.AppendLies
import Derived.Laws.CopyOwn
import Derived.Deep.DeepCutAuto
import Derived.Deep.OwnRows
import Derived.Deep.LoopGhost
import Derived.Deep.DeepFit
import Derived.Deep.DeepMust
import Derived.Deep.Draws
import Derived.Deep.CutRange
import Derived.Maps.AppendAt
import Derived.Lib.Hide
import Derived.StillTailTactics
import Derived.Laws.MakeOwn
import Derived.Deep.Matrix
set_option linter.unusedVariables false
open Go Go.RowKit
namespace Go.Proofs.Ytmppmnmkhfcoaaa
theorem iDegree_any (m : Int) (A : Option Addr) (n c : Nat) (w : World) (hn : n ≤ 1000000000) : Calls Try.prog 147 #[.agg #[.int .i64 m, .slice A n c]] w fun e w' => e = .returned (.int .i64 ((n : Int) - 1)) ∧ Below w.heap.size w w' := by
  go_enter Try.func147, Try.ntmps147
  go_wp2
  go_ret
  exact ⟨rfl, by (repeat (first | assumption | exact Below.refl _ _ | refine Below.alloc ?_ (by first | omega | (simp; done) | (simp; omega)) _ | refine Below.setCell ?_ (by first | omega | (simp; done) | (simp; omega)) _ | refine below_drewN ?_ _))⟩

theorem Num2.tab {m : Int} (hm : 0 < m) (n : Nat) (f : Nat → Nat → Int) (h : ∀ i j, 0 ≤ f i j ∧ f i j < m) : Num2 m (tab n f) := fun i j => by
  unfold co2
  rcases Nat.lt_or_ge i n with hi | hi
  · rw [getD_tab f hi]
    exact NumL.lst hm (fun k _ => h i k) j
  · rw [show (Go.Proofs.Ytmppmnmkhfcoaaa.tab n f).getD i [] = [] by rw [List.getD_eq_getElem?_getD, List.getElem?_eq_none (by rw [length_tab]; omega)]; rfl]
    simp [co]
    omega

/-! ### A series on an axis -/
theorem co_lst' {d : Nat} {g : Nat → Int} {k : Nat} (h : k < d) : co (lst d g) k = g k := getD_lst _ _ _ h
def varL (n : Nat) : List Int := lst n fun k => if k = 1 then 1 else 0
theorem length_varL (n : Nat) : (varL n).length = n := length_lst _ _
theorem var_set (n : Nat) : (List.replicate n (0 : Int)).set 1 1 = varL n := by
  rw [replicate_lst, set_lst]
  rfl
def axF (xs : List Int) (k : Int) (i j : Nat) : Int := if k = 0 then (if j = 0 then co xs i else 0) else if i = 0 then co xs j else 0
def axTo (xs : List Int) (k : Int) (q i j : Nat) : Int := if (if k = 0 then i else j) < q then axF xs k i j else 0
theorem axTo_zero (xs : List Int) (k : Int) (n : Nat) : (tab n fun _ _ => 0) = tab n (axTo xs k 0) := tab_congr fun i j _ => by simp [axTo]
theorem axTo_all (xs : List Int) (k : Int) (n : Nat) : tab n (axTo xs k n) = tab n (axF xs k) := tab_congr fun i j _ => by
  unfold axTo
  rw [if_pos]
  split <;> omega
theorem axTo_step0 (xs : List Int) (k : Int) (n q : Nat) (hk : k = 0) : tab n (upd2 (axTo xs k q) q 0 (co xs q)) = tab n (axTo xs k (q + 1)) := tab_congr fun i j _ => by
  subst hk
  simp only [upd2, axTo, axF, if_true]
  by_cases h1 : i = q
  · subst h1
    by_cases h2 : j = 0 <;> simp [h2]
  · by_cases h3 : i < q
    · simp [h1, h3, show i < q + 1 by omega]
    · simp [h1, h3, show ¬ i < q + 1 by omega]
theorem axTo_step1 (xs : List Int) (k : Int) (n q : Nat) (hk : ¬ k = 0) : tab n (upd2 (axTo xs k q) 0 q (co xs q)) = tab n (axTo xs k (q + 1)) := tab_congr fun i j _ => by
  simp only [upd2, axTo, axF, if_neg hk]
  by_cases h1 : j = q
  · subst h1
    by_cases h2 : i = 0 <;> simp [h2]
  · by_cases h3 : j < q
    · simp [h1, h3, show j < q + 1 by omega]
    · simp [h1, h3, show ¬ j < q + 1 by omega]
theorem variable_any (w : World) (m d : Int) (n : Nat) (hd : d + 1 = (n : Int)) (hn2 : 2 ≤ n) (hn : n ≤ 1000000) : Calls Try.prog 128 #[.int .i64 m, .int .i64 d] w (NewS w m (varL n)) := by
  have hd2 : d = (n : Int) - 1 := by omega
  subst hd2
  have HL : Hid ((varL n).length = n) := length_varL n
  clear hd
  go_enter Try.func128, Try.ntmps128
  go_wp2_with (go_at_call 83; refine (zero_any _ m _ n (by omega) (by omega)).mono ?_; rintro e w1 ⟨g, rfl, hg, hr, hb1⟩; obtain ⟨P1, K1⟩ := Bf.first1 hb1; have p1a := P1.1.2.1; have p1b := P1.1.2.2; have z1 := P1.1.1; have p1c := P1.2.1; have p1d := P1.2.2; have hg2 : w.heap.size + 1 ≤ g := (by simpa using hg); have hd0 := hr.cell (k := 1) (by simp; omega); have hf0 := hr.free 1; have HR := Lib.hid hr; clear hr; have hk1 : (1 : Int) < (n : Int) := (by omega); have hk2 : 1 < n := (by omega); have hk3 : ¬ n ≤ 1 := (by omega); have zg := HR.out.lt; have B1 := Bf.alloc1 w1 (.int .i64 m) (.slice (some ⟨g, 0, none⟩) n n) 78; have b1a := B1.1.2.1; have b1b := B1.1.2.2; have hd1 := ((Lib.hid (HR.out.alloc (.cells #[.int .i64 m, .slice (some ⟨g, 0, none⟩) n n] 78))).out).cell (k := 1) (by simp; omega); have hf1 := ((Lib.hid (HR.out.alloc (.cells #[.int .i64 m, .slice (some ⟨g, 0, none⟩) n n] 78))).out).free 1)
  have B3 := ((P1.setCell (p := ⟨g, 1, none⟩) (by simp; omega) (.int .i64 1)).store2 (x' := .int .i64 m) (y' := .slice (some ⟨g, 0, none⟩) n n)).alloc (.cells #[.int .i64 m, .slice (some ⟨g, 0, none⟩) n n] 78)
  have b3a := B3.1.2.1
  have b3b := B3.1.2.2
  have HR2 := (((HR.out.set_ 1 1).far (p := ⟨w.heap.size, 0, none⟩) (by simp; omega) (.int .i64 m)).far (p := ⟨w.heap.size, 1, none⟩) (by simp; omega) (.slice (some ⟨g, 0, none⟩) n n)).alloc (.cells #[.int .i64 m, .slice (some ⟨g, 0, none⟩) n n] 78)
  rw [var_set] at HR2
  exact bodyPost_ret (v := .agg #[.int .i64 m, .slice (some ⟨g, 0, none⟩) n n]) (by simp [results, Try.results128, go_sem, b3a, b3b]) rfl ⟨some ⟨g, 0, none⟩, n, by rw [HL.out], by rw [HL.out]; exact HR2.own' (by omega) HL.out, (((K1.setCell (by simp; omega) _).setCell (by simp) _).setCell (by simp) _).alloc (by simp [World.setCell]; omega) _⟩
set_option maxRecDepth 8000 in
set_option maxHeartbeats 4000000 in
theorem onAxis_any (w : World) (m : Int) (v : Value) (xs : List Int) (zss : List (List Int)) (n : Nat) (k0 : Int) (B : Nat) (hv : OwnI w B v xs) (hx : xs.length = n) (hn1 : 1 ≤ n) (hn : n ≤ 1000) (hz : tab n (axF xs k0) = zss) :
    Calls Try.prog 87 #[.agg #[.int .i64 m, v], .int .i64 k0] w (NewPl w m zss) := by
  obtain ⟨A, cp, e0, hc1, hc2, hA⟩ := hv.open_
  rw [hx] at e0 hc1 hA
  subst e0
  have HZ := Lib.hid hz
  have HX := Lib.hid hx
  have HA := Lib.hid hA
  clear hz hx hA hv
  go_enter Try.func87, Try.ntmps87
  go_upto_region 1 with fail
  go_cut [5] from 8 to 13 (fun s wx => ∃ (bo : Nat) (A' : Option Addr) (c' : Nat), s = .pointer (some ⟨bo, 0, none⟩) ∧ w.heap.size + 2 ≤ bo ∧ bo < wx.heap.size ∧ Hid (Bf wx bo (.int .i64 m) (.slice A' n c')) ∧ Hid (OwnPx wx (w.heap.size + 2) bo (.slice A' n c') (tab n fun _ _ => 0)) ∧ Hid (Bf wx w.heap.size (.int .i64 m) (.slice A n cp)) ∧ Hid (Bf wx (w.heap.size + 1) (.int .i64 0) (.slice none 0 0)) ∧ Hid (Below w.heap.size w wx))
  case first =>
    go_region_held3 (fun w' => w'.cell? ⟨w.heap.size, 0, none⟩ = some (.int .i64 m) ∧ w'.cell? ⟨w.heap.size, 1, none⟩ = some (.slice A n cp))
      (first | exact ⟨p2a, p2b⟩ | exact ⟨p1a, p1b⟩ | go_keep | (refine (fun (h : Bf _ w.heap.size (.int .i64 m) (.slice A n cp)) => ⟨h.1.2.1, h.1.2.2⟩) ((Bf.alloc1 w _ _ 78).keep ?_); (repeat (first | assumption | exact Below.refl _ _ | (refine Below.alloc ?_ ?_ _; rotate_left; (focus (first | exact Nat.le_refl _ | omega | (simp; done) | (simp; omega)))) | (refine Below.setCell ?_ ?_ _; rotate_left; (focus (first | exact Nat.le_refl _ | omega | (simp; done) | (simp; omega)))) | refine below_drew ?_ | refine below_drewN ?_ _ | (refine Below.trans ?_ (Below.mono hb2 ?_); rotate_left; (focus (first | exact Nat.le_refl _ | omega | (simp; done) | (simp; omega)))) | (refine Below.trans ?_ (Below.mono hb1 ?_); rotate_left; (focus (first | exact Nat.le_refl _ | omega | (simp; done) | (simp; omega))))))))
      (first | (go_at_call 147; refine (iDegree_any m A n cp _ (by omega)).mono ?_; rintro e w1 ⟨rfl, hb1⟩; have P1 : Bf w1 w.heap.size (.int .i64 m) (.slice A n cp) := ((Bf.alloc1 w _ _ 78).keep (by (repeat (first | assumption | exact Below.refl _ _ | (refine Below.alloc ?_ ?_ _; rotate_left; (focus (first | exact Nat.le_refl _ | omega | (simp; done) | (simp; omega)))) | (refine Below.setCell ?_ ?_ _; rotate_left; (focus (first | exact Nat.le_refl _ | omega | (simp; done) | (simp; omega)))) | refine below_drew ?_ | refine below_drewN ?_ _ | (refine Below.trans ?_ (Below.mono hb1 ?_); rotate_left; (focus (first | exact Nat.le_refl _ | omega | (simp; done) | (simp; omega)))))))); have p1a := P1.1.2.1; have p1b := P1.1.2.2; obtain ⟨hc1, hf1⟩ := bcell hb1; have z1 := hb1.size; (try simp at z1); have z1p : w.heap.size < w1.heap.size := (by omega); (first | (have y1 : w.heap.size + 2 < w1.heap.size := (by omega)) | skip)) | (go_at_call 131; refine (emptyPlane_any _ m _ n (by omega) (by omega)).mono ?_; rintro e w2 ⟨A9, c9, rfl, hr2, hb2⟩; rw [length_tab] at hr2 ⊢; have P2 : Bf w2 w.heap.size (.int .i64 m) (.slice A n cp) := ((Bf.alloc1 w _ _ 78).keep (by (repeat (first | assumption | exact Below.refl _ _ | (refine Below.alloc ?_ ?_ _; rotate_left; (focus (first | exact Nat.le_refl _ | omega | (simp; done) | (simp; omega)))) | (refine Below.setCell ?_ ?_ _; rotate_left; (focus (first | exact Nat.le_refl _ | omega | (simp; done) | (simp; omega)))) | refine below_drew ?_ | refine below_drewN ?_ _ | (refine Below.trans ?_ (Below.mono hb2 ?_); rotate_left; (focus (first | exact Nat.le_refl _ | omega | (simp; done) | (simp; omega)))) | (refine Below.trans ?_ (Below.mono hb1 ?_); rotate_left; (focus (first | exact Nat.le_refl _ | omega | (simp; done) | (simp; omega)))))))); have p2a := P2.1.2.1; have p2b := P2.1.2.2; obtain ⟨hc2, hf2⟩ := bcell hb2; have z2 := hb2.size; (try simp at z2); have z2p : w.heap.size < w2.heap.size := (by omega)))
    all_goals
      go_wp2_with fail
      go_meet
      have KK : Hid (Below w.heap.size w w2) := by (repeat (first | assumption | exact Below.refl _ _ | (refine Below.alloc ?_ ?_ _; rotate_left; (focus (first | exact Nat.le_refl _ | omega | (simp; done) | (simp; omega)))) | (refine Below.setCell ?_ ?_ _; rotate_left; (focus (first | exact Nat.le_refl _ | omega | (simp; done) | (simp; omega)))) | refine below_drew ?_ | refine below_drewN ?_ _ | (refine Below.trans ?_ (Below.mono hb2 ?_); rotate_left; (focus (first | exact Nat.le_refl _ | omega | (simp; done) | (simp; omega)))) | (refine Below.trans ?_ (Below.mono hb1 ?_); rotate_left; (focus (first | exact Nat.le_refl _ | omega | (simp; done) | (simp; omega))))))
      refine ⟨_, A9, c9, rfl, ?_, ?_, ?_, ?_, ?_, ?_, ?_⟩
      · first | omega | (simp; done) | (simp; omega)
      · first | omega | (simp; done) | (simp; omega) | (simp [World.setCell]; omega)
      · unfold Hid
        first | exact Bf.alloc1 w2 _ _ _ | exact ((Bf.alloc1 w1 _ _ _).keep hb2).store2 | exact (((Bf.q3 (w := w)).keep (below_undrew hb1)).keep hb2).store2
      · unfold Hid
        first | (refine OwnPx.of (hr2.alloc _) ?_ ?_ ?_ <;> (first | omega | (simp; done) | (simp; omega) | (right; omega) | (right; simp; done) | (right; simp; omega) | (left; omega) | (left; simp; done) | (left; simp; omega) | (simp [World.setCell]; done) | (simp [World.setCell]; omega)); done) | (refine OwnPx.of ((hr2.far ?_ _).far ?_ _) ?_ ?_ ?_ <;> (first | omega | (simp; done) | (simp; omega) | (right; omega) | (right; simp; done) | (right; simp; omega) | (left; omega) | (left; simp; done) | (left; simp; omega) | (simp [World.setCell]; done) | (simp [World.setCell]; omega)); done)
      · exact (Bf.q1 (w := w) (t := 78)).keep (by (repeat (first | assumption | exact Below.refl _ _ | (refine Below.alloc ?_ ?_ _; rotate_left; (focus (first | exact Nat.le_refl _ | omega | (simp; done) | (simp; omega)))) | (refine Below.setCell ?_ ?_ _; rotate_left; (focus (first | exact Nat.le_refl _ | omega | (simp; done) | (simp; omega)))) | refine below_drew ?_ | refine below_drewN ?_ _ | (refine Below.trans ?_ (Below.mono hb2 ?_); rotate_left; (focus (first | exact Nat.le_refl _ | omega | (simp; done) | (simp; omega)))) | (refine Below.trans ?_ (Below.mono hb1 ?_); rotate_left; (focus (first | exact Nat.le_refl _ | omega | (simp; done) | (simp; omega)))))))
      · exact (Bf.q2 (w := w) (t := 78) (t' := 24)).keep (by (repeat (first | assumption | exact Below.refl _ _ | (refine Below.alloc ?_ ?_ _; rotate_left; (focus (first | exact Nat.le_refl _ | omega | (simp; done) | (simp; omega)))) | (refine Below.setCell ?_ ?_ _; rotate_left; (focus (first | exact Nat.le_refl _ | omega | (simp; done) | (simp; omega)))) | refine below_drew ?_ | refine below_drewN ?_ _ | (refine Below.trans ?_ (Below.mono hb2 ?_); rotate_left; (focus (first | exact Nat.le_refl _ | omega | (simp; done) | (simp; omega)))) | (refine Below.trans ?_ (Below.mono hb1 ?_); rotate_left; (focus (first | exact Nat.le_refl _ | omega | (simp; done) | (simp; omega)))))))
      · (repeat (first | assumption | exact Below.refl _ _ | (refine Below.alloc ?_ ?_ _; rotate_left; (focus (first | exact Nat.le_refl _ | omega | (simp; done) | (simp; omega)))) | (refine Below.setCell ?_ ?_ _; rotate_left; (focus (first | exact Nat.le_refl _ | omega | (simp; done) | (simp; omega)))) | refine below_drew ?_ | refine below_drewN ?_ _ | (refine Below.trans ?_ (Below.mono hb2 ?_); rotate_left; (focus (first | exact Nat.le_refl _ | omega | (simp; done) | (simp; omega)))) | (refine Below.trans ?_ (Below.mono hb1 ?_); rotate_left; (focus (first | exact Nat.le_refl _ | omega | (simp; done) | (simp; omega))))))
  case rest =>
    obtain ⟨bo, A', c', rfl, hbo1, hbo2, HO, HT, HP, HQ, HB⟩ := hcut
    obtain ⟨lo, hi, hlo, hbo3, hhi, ht⟩ := HT.out
    obtain ⟨g, c2, -, -, e0, hg1, hg2, hg3, -⟩ := ht.row (k := 0) (by rw [length_tab]; omega)
    rw [length_tab] at e0
    simp only [Value.slice.injEq] at e0
    obtain ⟨rfl, -, rfl⟩ := e0
    have HT0 := Lib.hid ht
    clear ht HT
    have ht1 := HT0.out
    rw [axTo_zero xs k0] at ht1
    have HT1 := Lib.hid ht1
    clear ht1 HT0
    have p1 := HP.out.1.2.1
    have p2 := HP.out.1.2.2
    go_wp2
    clear p1 p2
    go_loopw [16] (fun i wr => ∃ q : Nat, q ≤ n ∧ i = .int .i64 q ∧ Hid (Bf wr bo (.int .i64 m) (.slice (some ⟨g, 0, none⟩) n c')) ∧ Hid (OwnP wr lo hi (.slice (some ⟨g, 0, none⟩) n c') (tab n (axTo xs k0 q))) ∧ Hid (Bf wr w.heap.size (.int .i64 m) (.slice A n cp)) ∧ Hid (Bf wr (w.heap.size + 1) (.int .i64 0) (.slice none 0 0)) ∧ Hid (Below w.heap.size w wr)) (fun i _ => n - (intOf i).toNat)
    case atStart => exact ⟨0, Nat.zero_le _, rfl, HO, HT1, HP, HQ, HB⟩
    case round =>
      clear HO HT1 HP HQ HB
      obtain ⟨q, hq, rfl, HO, HT, HP, HQ, HB⟩ := hrel
      have o1 := HO.out.1.2.1
      have o2 := HO.out.1.2.2
      have q1 := HQ.out.1.2.1
      have q2 := HQ.out.1.2.2
      have q3 := HQ.out.2.1
      have q4 := HQ.out.2.2
      have zO := HO.out.1.1
      have zP := HP.out.1.1
      by_cases hlt : q < n
      · obtain ⟨b, rfl, hb1, hb2, hcell0, hfr0⟩ := HA.out q hlt
        have hc0 := (HB.out.cell (p := ⟨b, q, none⟩) hb2).trans hcell0
        change _ = some (Value.int .i64 (co xs q)) at hc0
        obtain ⟨x, hxq⟩ : ∃ x, x = co xs q := ⟨_, rfl⟩
        rw [← hxq] at hc0
        have HXQ := Lib.hid hxq
        clear hcell0 hfr0 hxq
        have hq0 : (0 : Int) ≤ (q : Int) := by omega
        have hq1 : (q : Int) < (n : Int) := by omega
        have hn0 : (0 : Int) < (n : Int) := by omega
        have hn00 : 0 < n := by omega
        have hn01 : ¬ n = 0 := by omega
        by_cases hk0 : k0 = 0
        · have hkb : (k0 == 0) = true := by simpa using hk0
          obtain ⟨Ar, cr, hcell⟩ := HT.out.cell (k := q) (by rw [length_tab]; omega)
          rw [getD_tab _ (by omega), length_lst] at hcell
          obtain ⟨r, hr⟩ : ∃ r, r = n - q := ⟨_, rfl⟩
          rw [← hr] at hcell
          obtain ⟨-, hl2, hl3, hw⟩ := HT.out.rowW (i := q) (by rw [length_tab]; omega) hcell
          obtain ⟨gr, rfl, hne, hgl, hgh, hgz, hd0, hf0, hset⟩ := hw 0 (by omega)
          have HSET := Lib.hid hset
          have hst := axTo_step0 xs k0 n q hk0
          rw [← HXQ.out] at hst
          have HST := Lib.hid hst
          generalize co2 (tab n (axTo xs k0 q)) q 0 = y0 at hd0
          have hr0 : (0 : Int) < (r : Int) := by omega
          have hr00 : 0 < r := by omega
          have hr01 : ¬ r = 0 := by omega
          have hr1 : 0 < r := by omega
          clear hset hw hst hr hk0
          go_wp2
          go_roundw
          case rel =>
            refine ⟨q + 1, by omega, by go_num, HO.out.setCell (by simp; omega) _, ?_, HP.out.setCell (by simp; omega) _, HQ.out.setCell (by simp; omega) _, HB.out.setCell (by simp; omega) _⟩
            unfold Hid
            rw [← HST.out, ← set_tab' _ _ _ _ _ (by omega)]
            exact HSET.out x
          case measure => simp [intOf]; omega
        · have hkb : (k0 == 0) = false := by simpa using hk0
          obtain ⟨Ar, cr, hcell⟩ := HT.out.cell (k := 0) (by rw [length_tab]; omega)
          rw [getD_tab _ (by omega), length_lst] at hcell
          obtain ⟨r, hr⟩ : ∃ r, r = n - 0 := ⟨_, rfl⟩
          rw [← hr] at hcell
          obtain ⟨-, hl2, hl3, hw⟩ := HT.out.rowW (i := 0) (by rw [length_tab]; omega) hcell
          obtain ⟨gr, rfl, hne, hgl, hgh, hgz, hd0, hf0, hset⟩ := hw q (by omega)
          have HSET := Lib.hid hset
          have hst := axTo_step1 xs k0 n q hk0
          rw [← HXQ.out] at hst
          have HST := Lib.hid hst
          generalize co2 (tab n (axTo xs k0 q)) 0 q = y0 at hd0
          have hr0 : (0 : Int) < (r : Int) := by omega
          have hr00 : 0 < r := by omega
          have hr01 : ¬ r = 0 := by omega
          have hr1 : (q : Int) < (r : Int) := by omega
          clear hset hw hst hr hk0
          go_wp2
          go_roundw
          case rel =>
            refine ⟨q + 1, by omega, by go_num, HO.out.setCell (by simp; omega) _, ?_, HP.out.setCell (by simp; omega) _, HQ.out.setCell (by simp; omega) _, HB.out.setCell (by simp; omega) _⟩
            unfold Hid
            rw [← HST.out, ← set_tab' _ _ _ _ _ (by omega)]
            exact HSET.out x
          case measure => simp [intOf]; omega
      · obtain rfl : q = n := by omega
        have hT := HT.out
        rw [axTo_all, HZ.out] at hT
        have HL : Hid (zss.length = q) := by unfold Hid; rw [← HZ.out, length_tab]
        have hd5 : decide ((q : Int) < (q : Int)) = false := by simp
        go_wp2
        refine bodyPost_ret (v := .agg #[.int .i64 m, .slice (some ⟨g, 0, none⟩) q c']) (by simp [results, Try.results87, go_sem, q1, q2]) rfl ⟨some ⟨g, 0, none⟩, c', by rw [HL.out], ?_, ?_⟩
        · rw [HL.out]
          have h9 := OwnP.mono (lo' := w.heap.size) (hT.hi_le.far2 (b := w.heap.size + 1) (x := .int .i64 m) (y := .slice (some ⟨g, 0, none⟩) q c') (.inl (by omega))) (by omega) (Nat.le_refl _)
          simpa [World.setCell] using h9
        · exact (HB.out.setCell (by simp) _).setCell (by simp) _

/-! ### Standard laws: conditions, variables, sums -/
def stdB (m d : Int) (xs : List Int) : Bool := isModB m && inB d 1 10 && numsB m xs
def stdN (m d : Int) (xs : List Int) : Int := if stdB m d xs = true then 0 else 2
theorem standard1_pred (w : World) (b : Nat) (m : Int) (hm : isModB m = true) (hb : w.cell? ⟨b, 0, none⟩ = some (.int .i64 m)) (hb' : b < w.heap.size) : Pred w 127 #[.pointer (some ⟨b, 0, none⟩)] (fun a => isNumB a m) := by
  refine ⟨Try.call127, fun W x hW => ?_⟩
  have hc := (hW.cell (p := ⟨b, 0, none⟩) hb').trans hb
  have HM := Lib.hid hm
  clear hW hb hm
  go_enter Try.func127, Try.ntmps127
  go_wp2_with (go_at_call 79; refine (isNumber_any _ _ _ HM.out).mono ?_; rintro e w' ⟨rfl, k', rfl⟩)
  go_ret
  exact ⟨rfl, _, rfl⟩
theorem standard_any (m d : Int) (w : World) (v : Value) (xs : List Int) (B : Nat) (hv : OwnI w B v xs) :
    Calls Try.prog 63 #[.int .i64 m, .int .i64 d, v] w fun e w' => e = .returned (.int .i64 (stdN m d xs)) ∧ Below w.heap.size w w' := by
  cases hm : isModB m
  · have HF : Hid (stdN m d xs = 2) := by simp [Hid, stdN, stdB, hm]
    have HM := Lib.hid hm
    clear hm
    go_enter Try.func63, Try.ntmps63
    go_wp2_with (go_at_call 44; refine (iIsModulus_any _ _).mono ?_; rintro e w' ⟨rfl, k', rfl⟩; rw [HM.out])
    go_ret
    exact ⟨by rw [HF.out]; rfl, by (repeat (first | assumption | exact Below.refl _ _ | refine Below.alloc ?_ (by first | omega | (simp; done) | (simp; omega)) _ | refine Below.setCell ?_ (by first | omega | (simp; done) | (simp; omega)) _ | refine below_drewN ?_ _))⟩
  · have HM := Lib.hid hm
    cases hd : inB d 1 10
    · have HF : Hid (stdN m d xs = 2) := by simp [Hid, stdN, stdB, hd]
      have HD := Lib.hid hd
      clear hm hd
      go_enter Try.func63, Try.ntmps63
      go_wp2_with (first | (go_at_call 44; refine (iIsModulus_any _ _).mono ?_; rintro e w' ⟨rfl, k', rfl⟩; rw [HM.out]) | (go_at_call 93; refine (in_any _ _ _ _).mono ?_; rintro e w' ⟨rfl, k'', rfl⟩; rw [HD.out]))
      go_ret
      exact ⟨by rw [HF.out]; rfl, by (repeat (first | assumption | exact Below.refl _ _ | refine Below.alloc ?_ (by first | omega | (simp; done) | (simp; omega)) _ | refine Below.setCell ?_ (by first | omega | (simp; done) | (simp; omega)) _ | refine below_drewN ?_ _))⟩
    · have HD := Lib.hid hd
      have HN : Hid (stdN m d xs = if numsB m xs = true then 0 else 2) := by simp [Hid, stdN, stdB, hm, hd]
      have HA : Hid (numsB m xs = xs.all fun a => isNumB a m) := rfl
      clear hm hd
      cases hn : numsB m xs
      all_goals
        rw [hn] at HN HA
        clear hn
        go_enter Try.func63, Try.ntmps63
        go_wp2_with (first | (go_at_call 44; refine (iIsModulus_any _ _).mono ?_; rintro e w' ⟨rfl, k', rfl⟩; rw [HM.out]) | (go_at_call 93; refine (in_any _ _ _ _).mono ?_; rintro e w' ⟨rfl, k'', rfl⟩; rw [HD.out]))
        refine (all_any _ v xs B (OwnI.drewN (hv.alloc _) _) _ _ _ (standard1_pred _ w.heap.size m HM.out (by simp) (by simp))).mono ?_
        rintro e w' ⟨rfl, hb⟩
        rw [← HA.out]
        go_wp2
        go_ret
        exact ⟨by rw [HN.out]; rfl, ((Below.refl _ _).alloc (Nat.le_refl _) _).trans ((below_drewN (Below.refl _ _) _).trans (hb.mono (by simp)))⟩
theorem l08Kind_any (m d : Int) (w : World) (v : Value) (xs : List Int) (B : Nat) (hv : OwnI w B v xs) :
    Calls Try.prog 60 #[.int .i64 m, .int .i64 d, v] w fun e w' => e = .returned (.bool (stdB m d xs)) ∧ Below w.heap.size w w' := by
  obtain ⟨A, c, rfl, hc1, hc2, hA⟩ := hv.open_
  clear hv
  unfold maxLen at hc2
  cases hm : isModB m
  · have HF : Hid (stdB m d xs = false) := by simp [Hid, stdB, hm]
    have HM : Hid (inB m 2 10000 = false) := hm
    clear hm hA
    go_enter Try.func60, Try.ntmps60
    go_wp2_with (go_at_call 75; refine (l01In_any _ _ _ _).mono ?_; rintro e w' ⟨rfl, k', rfl⟩; rw [HM.out])
    go_ret
    exact ⟨by rw [HF.out]; rfl, by (repeat (first | assumption | exact Below.refl _ _ | refine Below.alloc ?_ (by first | omega | (simp; done) | (simp; omega)) _ | refine Below.setCell ?_ (by first | omega | (simp; done) | (simp; omega)) _ | refine below_drewN ?_ _))⟩
  · have HM : Hid (inB m 2 10000 = true) := hm
    have hmb := isModB_true hm
    cases hd : inB d 1 10
    · have HF : Hid (stdB m d xs = false) := by simp [Hid, stdB, hd]
      have HD := Lib.hid hd
      clear hm hd hA
      go_enter Try.func60, Try.ntmps60
      go_wp2_with (go_at_call 75; refine (l01In_any _ _ _ _).mono ?_; rintro e w' ⟨rfl, k', rfl⟩; first | rw [HM.out] | rw [HD.out])
      go_ret
      exact ⟨by rw [HF.out]; rfl, by (repeat (first | assumption | exact Below.refl _ _ | refine Below.alloc ?_ (by first | omega | (simp; done) | (simp; omega)) _ | refine Below.setCell ?_ (by first | omega | (simp; done) | (simp; omega)) _ | refine below_drewN ?_ _))⟩
    · have HD := Lib.hid hd
      have HN : Hid (stdB m d xs = numsB m xs) := by simp [Hid, stdB, hm, hd]
      clear hm hd
      go_enter Try.func60, Try.ntmps60
      go_wp2_with (go_at_call 75; refine (l01In_any _ _ _ _).mono ?_; rintro e w' ⟨rfl, k', rfl⟩; first | rw [HM.out] | rw [HD.out])
      go_loopw [7] (fun i wr => ∃ k : Nat, k ≤ xs.length ∧ i = .int .i64 k ∧ Hid (numsB m (xs.take k) = true) ∧ ∃ n, wr = w.drewN n) (fun i _ => xs.length - (intOf i).toNat)
      case atStart => exact ⟨0, Nat.zero_le _, rfl, rfl, _, rfl⟩
      case round =>
        obtain ⟨k, hk, rfl, hn, n, rfl⟩ := hrel
        by_cases hlt : k < xs.length
        · obtain ⟨g, rfl, hg1, hg2, hcell, hfr⟩ := hA k hlt
          clear hA
          obtain ⟨x, hx⟩ : ∃ x, x = xs.getD k 0 := ⟨_, rfl⟩
          rw [← hx] at hcell
          have HX := Lib.hid hx
          clear hx
          cases hin : inB x 0 (m - 1)
          · have HF : Hid (numsB m xs = false) := all_false_of_take (fun a => isNumB a m) xs k hlt (by rw [← HX.out]; exact hin)
            have HI := Lib.hid hin
            clear hin
            go_wp2_with (go_at_call 75; refine (l01In_any _ _ _ _).mono ?_; rintro e w' ⟨rfl, k', rfl⟩; rw [HI.out])
            go_ret
            exact ⟨by rw [HN.out, HF.out]; rfl, by (repeat (first | assumption | exact Below.refl _ _ | refine Below.alloc ?_ (by first | omega | (simp; done) | (simp; omega)) _ | refine Below.setCell ?_ (by first | omega | (simp; done) | (simp; omega)) _ | refine below_drewN ?_ _))⟩
          · have HF : Hid (numsB m (xs.take (k + 1)) = true) := by
              have e := all_take_succ (fun a => isNumB a m) xs k hlt
              rw [← HX.out] at e
              unfold Hid numsB
              rw [e, Bool.and_eq_true]
              exact ⟨hn.out, hin⟩
            have HI := Lib.hid hin
            clear hin
            go_wp2_with (go_at_call 75; refine (l01In_any _ _ _ _).mono ?_; rintro e w' ⟨rfl, k', rfl⟩; rw [HI.out])
            go_roundw
            case rel => exact ⟨k + 1, by omega, by go_num, HF.out, _, rfl⟩
            case measure => simp [intOf]; omega
        · have HF : Hid (numsB m xs = true) := by
            have := hn.out
            rwa [List.take_of_length_le (by omega)] at this
          go_wp2
          go_ret
          exact ⟨by rw [HN.out, HF.out]; rfl, by (repeat (first | assumption | exact Below.refl _ _ | refine Below.alloc ?_ (by first | omega | (simp; done) | (simp; omega)) _ | refine Below.setCell ?_ (by first | omega | (simp; done) | (simp; omega)) _ | refine below_drewN ?_ _))⟩
def TwoPl (w : World) (m : Int) (n : Nat) (xs ys : List (List Int)) (e : Ending) (w' : World) : Prop :=
  ∃ A c A' c', e = .returned (.tuple #[.agg #[.int .i64 m, .slice A n c], .agg #[.int .i64 m, .slice A' n c']]) ∧ OwnP w' w.heap.size w'.heap.size (.slice A n c) xs ∧ OwnP w' w.heap.size w'.heap.size (.slice A' n c') ys ∧ Below w.heap.size w w'
theorem OwnP.top {w : World} {lo hi B : Nat} {v : Value} {xss : List (List Int)} (h : OwnP w lo hi v xss) (hB : B ≤ lo) : OwnP w B w.heap.size v xss := h.hi_le.mono hB (Nat.le_refl _)
set_option maxRecDepth 8000 in
set_option maxHeartbeats 2000000 in
theorem variables_any (w : World) (m d : Int) (n : Nat) (hd : d + 1 = (n : Int)) (hn2 : 2 ≤ n) (hn : n ≤ 1000) (xs ys : List (List Int)) (hx : tab n (axF (varL n) 0) = xs) (hy : tab n (axF (varL n) 1) = ys) : Calls Try.prog 64 #[.int .i64 m, .int .i64 d] w (TwoPl w m n xs ys) := by
  have hd2 : d = (n : Int) - 1 := by omega
  subst hd2
  have HX := Lib.hid hx
  have HY := Lib.hid hy
  have HXL : Hid (xs.length = n) := by unfold Hid; rw [← hx, length_tab]
  have HYL : Hid (ys.length = n) := by unfold Hid; rw [← hy, length_tab]
  have HVL : Hid ((varL n).length = n) := length_varL n
  clear hd hx hy
  go_enter Try.func64, Try.ntmps64
  go_wp2_with (go_at_call 128; refine (variable_any _ m _ n (by omega) (by omega) (by omega)).mono ?_; rintro e w4 ⟨A4, c4, rfl, o4, hb4⟩; rw [HVL.out] at o4 ⊢; obtain ⟨P4, Q4, K4⟩ := Bf.first2 hb4; have p4a := P4.1.2.1; have p4b := P4.1.2.2; have p4c := P4.2.1; have p4d := P4.2.2; have q4a := Q4.1.2.1; have q4b := Q4.1.2.2; have q4c := Q4.2.1; have q4d := Q4.2.2; have y4 := Q4.1.1; have O4 := Lib.hid o4; clear o4)
  obtain ⟨W, hW⟩ : ∃ W, W = w4.alloc (.cells #[.int .i64 m, .slice A4 n c4] 78) := ⟨_, rfl⟩
  rw [← hW]
  have PW : Bf W w.heap.size (.int .i64 0) (.slice none 0 0) := by rw [hW]; exact P4.alloc _
  have QW : Bf W (w.heap.size + 1) (.int .i64 0) (.slice none 0 0) := by rw [hW]; exact Q4.alloc _
  have SW : Bf W w4.heap.size (.int .i64 m) (.slice A4 n c4) := by rw [hW]; exact Bf.alloc1 w4 _ _ _
  have KW : Below w.heap.size w W := by rw [hW]; exact K4.alloc (by omega) _
  have OW : Hid (OwnI W (w.heap.size + 2) (.slice A4 n c4) (varL n)) := by unfold Hid; rw [hW]; exact (O4.out.alloc _).mono (by simp)
  have pW := SW.1.2.1
  have qW := SW.1.2.2
  have zW := SW.1.1
  have sb : w.heap.size + 1 < w4.heap.size := y4
  obtain ⟨bs, hbs⟩ : ∃ bs, bs = w4.heap.size := ⟨_, rfl⟩
  rw [← hbs] at SW pW qW zW sb ⊢
  clear P4 Q4 K4 p4a p4b p4c p4d q4a q4b q4c q4d y4 O4 hb4 hW hbs
  go_region_held3 (fun w' => w'.cell? ⟨bs, 0, none⟩ = some (.int .i64 m) ∧ w'.cell? ⟨bs, 1, none⟩ = some (.slice A4 n c4))
    (first | exact ⟨pW, qW⟩ | exact ⟨p5a, p5b⟩ | exact ⟨p6a, p6b⟩ | exact ⟨cell_store2 p6a (by omega), cell_store2 p6b (by omega)⟩ | exact ⟨cell_store2 (cell_store2 p6a (by omega)) (by omega), cell_store2 (cell_store2 p6b (by omega)) (by omega)⟩ | go_keep)
    (first | (go_at_call 87; have _h := H5; refine (onAxis_any _ m _ (varL n) _ n _ _ OW5.out HVL.out (by omega) (by omega) rfl).mono ?_; rintro e w6 ⟨A6, c6, rfl, o6, hb6⟩; rw [length_tab] at o6 ⊢; have S6 := S5.keep hb6; have p6a := S6.1.2.1; have p6b := S6.1.2.2; have P6 := P5.keep hb6; have Q6 := Q5.keep hb6; have p6c := P6.1.2.1; have p6d := P6.1.2.2; have p6e := P6.2.1; have p6f := P6.2.2; have q6a := Q6.1.2.1; have q6b := Q6.1.2.2; have q6c := Q6.2.1; have q6d := Q6.2.2; have z6 := hb6.size; have O6 := Lib.hid o6; clear o6) | (go_at_call 87; refine (onAxis_any _ m _ (varL n) _ n _ _ (OW.out.drewN 1) HVL.out (by omega) (by omega) rfl).mono ?_; rintro e w5 ⟨A5, c5, rfl, o5, hb5⟩; rw [length_tab] at o5 ⊢; have H5 : Below W.heap.size W w5 := below_undrew hb5; have S5 := SW.keep H5; have p5a := S5.1.2.1; have p5b := S5.1.2.2; have P5 := PW.keep H5; have Q5 := QW.keep H5; have z5 := H5.size; have OW5 := Lib.hid (OW.out.keep H5 (Nat.le_refl _)); have O5 := Lib.hid o5; clear o5))
  all_goals go_wp2
  all_goals first
    | exact bodyPost_ret (v := .tuple #[.agg #[.int .i64 m, .slice A5 n c5], .agg #[.int .i64 m, .slice A6 n c6]]) (by simp [results, Try.results64, go_sem, p6c, p6d, q6a, q6b]) rfl ⟨A5, c5, A6, c6, rfl, by rw [← HX.out]; exact (((O5.out.keep hb6).far2 (.inl (by show _ < W.heap.size; omega))).far2 (.inl (by show _ < W.heap.size; omega))).top (by show w.heap.size ≤ W.heap.size; omega), by rw [← HY.out]; exact ((O6.out.far2 (.inl (by omega))).far2 (.inl (by omega))).top (by omega), (((((KW.trans (H5.mono (by omega))).trans (hb6.mono (by omega))).setCell (by simp) _).setCell (by simp) _).setCell (by simp) _).setCell (by simp) _⟩
    | exact bodyPost_ret (v := .tuple #[.agg #[.int .i64 m, .slice A6 n c6], .agg #[.int .i64 m, .slice A5 n c5]]) (by simp [results, Try.results64, go_sem, p6c, p6d, q6a, q6b]) rfl ⟨A6, c6, A5, c5, rfl, by rw [← HX.out]; exact ((O6.out.far2 (.inl (by omega))).far2 (.inl (by omega))).top (by omega), by rw [← HY.out]; exact (((O5.out.keep hb6).far2 (.inl (by show _ < W.heap.size; omega))).far2 (.inl (by show _ < W.heap.size; omega))).top (by show w.heap.size ≤ W.heap.size; omega), (((((KW.trans (H5.mono (by omega))).trans (hb6.mono (by omega))).setCell (by simp) _).setCell (by simp) _).setCell (by simp) _).setCell (by simp) _⟩

/-! ### Sums of planes -/
theorem plus1_pred (w : World) (b b2 : Nat) (m : Int) (A A2 : Option Addr) (n c c2 lo hi lo2 hi2 : Nat) (xss yss : List (List Int)) (hb : w.cell? ⟨b, 1, none⟩ = some (.slice A n c)) (hb' : b < w.heap.size) (hb2 : w.cell? ⟨b2, 1, none⟩ = some (.slice A2 n c2)) (hb2' : b2 < w.heap.size)
    (hv : OwnP w lo hi (.slice A n c) xss) (ht : Tri n xss) (hq : Num2 m xss) (hv2 : OwnP w lo2 hi2 (.slice A2 n c2) yss) (ht2 : Tri n yss) (hq2 : Num2 m yss) (hm : m ≤ 3000000000) :
    Pred2 w 130 #[.pointer (some ⟨b, 0, none⟩), .pointer (some ⟨b2, 0, none⟩)] n (fun i j => co2 xss i j + co2 yss i j) := by
  refine ⟨Try.call130, fun W i j hW hij => ?_⟩
  have hc := (hW.cell (p := ⟨b, 1, none⟩) hb').trans hb
  have hc2 := (hW.cell (p := ⟨b2, 1, none⟩) hb2').trans hb2
  obtain ⟨g, gr, cr, rfl, h1, h2, h3, h4, -⟩ := hv.at2 (i := i) (j := j) (by rw [ht.1]; omega) (by rw [ht.2 i (by omega)]; omega)
  obtain ⟨g2, gr2, cr2, rfl, k1, k2, k3, k4, -⟩ := hv2.at2 (i := i) (j := j) (by rw [ht2.1]; omega) (by rw [ht2.2 i (by omega)]; omega)
  have h2' := (hW.cell (p := ⟨g, i, none⟩) h1).trans h2
  have h4' := (hW.cell (p := ⟨gr, j, none⟩) h3).trans h4
  have k2' := (hW.cell (p := ⟨g2, i, none⟩) k1).trans k2
  have k4' := (hW.cell (p := ⟨gr2, j, none⟩) k3).trans k4
  rw [ht.2 i (by omega)] at h2'
  rw [ht2.2 i (by omega)] at k2'
  obtain ⟨r, hr⟩ : ∃ r, r = n - i := ⟨_, rfl⟩
  rw [← hr] at h2' k2'
  have hx0 := hq i j
  have hy0 := hq2 i j
  obtain ⟨x, hx⟩ : ∃ x, x = co2 xss i j := ⟨_, rfl⟩
  obtain ⟨y, hy⟩ : ∃ y, y = co2 yss i j := ⟨_, rfl⟩
  rw [← hx] at h4' hx0
  rw [← hy] at k4' hy0
  have HX : Hid (co2 xss i j + co2 yss i j = x + y) := by rw [hx, hy]; exact rfl
  have hj0 : (0 : Int) ≤ (j : Int) := by omega
  have hj1 : (j : Int) < (r : Int) := by omega
  have hi0 : (0 : Int) ≤ (i : Int) := by omega
  have hi1 : (i : Int) < (n : Int) := by omega
  have hi2 : i < n := by omega
  have hj2 : j < r := by omega
  have v1 : IntKind.i64.wrap (x + y) = x + y := IntWalk.i64_in _ (by omega)
  clear hW hb hb2 h2 h4 k2 k4 hr hv ht hv2 ht2 hx hy hq hq2
  go_enter Try.func130, Try.ntmps130
  go_wp2
  go_quiet (fail)
  go_wp2
  go_ret
  exact ⟨by show _ = Ending.returned (.int .i64 (co2 xss i j + co2 yss i j)); rw [HX.out]; rfl, nq, rfl⟩
set_option maxHeartbeats 1000000 in
theorem pPlus_any (w : World) (m : Int) (v v2 : Value) (xss yss zss : List (List Int)) (n : Nat) (lo hi lo2 hi2 : Nat) (hv : OwnP w lo hi v xss) (ht : Tri n xss) (hq : Num2 m xss) (hv2 : OwnP w lo2 hi2 v2 yss) (ht2 : Tri n yss) (hq2 : Num2 m yss) (hm : 2 ≤ m) (hm' : m ≤ 3000000000) (hn1 : 1 ≤ n) (hn : n ≤ 1000) (hz : (tab n fun i j => (co2 xss i j + co2 yss i j) % m) = zss) :
    Calls Try.prog 65 #[.agg #[.int .i64 m, v], .agg #[.int .i64 m, v2]] w (NewPl w m zss) := by
  obtain ⟨A, cp, rfl, -, -⟩ := hv.form
  obtain ⟨A2, cp2, rfl, -, -⟩ := hv2.form
  rw [ht.1] at hv
  rw [ht2.1] at hv2
  have HXL : Hid (xss.length = n) := ht.1
  have HYL : Hid (yss.length = n) := ht2.1
  have HZ := Lib.hid hz
  have HT := Lib.hid ht
  have HT2 := Lib.hid ht2
  have HQ := Lib.hid hq
  have HQ2 := Lib.hid hq2
  have HV : Hid (OwnP (((w.alloc (.cells #[.int .i64 m, .slice A n cp] 24)).alloc (.cells #[.int .i64 m, .slice A2 n cp2] 24)).alloc (.cells #[.int .i64 0, .slice none 0 0] 24)) lo hi (.slice A n cp) xss) := ((hv.alloc _).alloc _).alloc _
  have HV2 : Hid (OwnP (((w.alloc (.cells #[.int .i64 m, .slice A n cp] 24)).alloc (.cells #[.int .i64 m, .slice A2 n cp2] 24)).alloc (.cells #[.int .i64 0, .slice none 0 0] 24)) lo2 hi2 (.slice A2 n cp2) yss) := ((hv2.alloc _).alloc _).alloc _
  have HZL : Hid (zss.length = n) := by unfold Hid; rw [← hz, length_tab]
  clear hz ht ht2 hq hq2 hv hv2
  go_enter Try.func65, Try.ntmps65
  rw [HXL.out, HYL.out]
  go_wp2_with fail
  have B1 : Bf (((w.alloc (.cells #[.int .i64 m, .slice A n cp] 24)).alloc (.cells #[.int .i64 m, .slice A2 n cp2] 24)).alloc (.cells #[.int .i64 0, .slice none 0 0] 24)) w.heap.size (.int .i64 m) (.slice A n cp) := ((Bf.alloc1 w _ _ _).alloc _).alloc _
  have B2 : Bf (((w.alloc (.cells #[.int .i64 m, .slice A n cp] 24)).alloc (.cells #[.int .i64 m, .slice A2 n cp2] 24)).alloc (.cells #[.int .i64 0, .slice none 0 0] 24)) (w.heap.size + 1) (.int .i64 m) (.slice A2 n cp2) := Bf.q2.alloc _
  refine (mapped_any _ m _ xss n lo hi HV.out HXL.out hm (by omega) hn1 hn _ _ _ (plus1_pred _ w.heap.size (w.heap.size + 1) m A A2 n cp cp2 lo hi lo2 hi2 xss yss B1.1.2.2 B1.1.1 B2.1.2.2 B2.1.1 HV.out HT.out HQ.out HV2.out HT2.out HQ2.out hm') zss HZ.out).mono ?_
  rintro e w1 ⟨A1, c1, rfl, o1, hb1⟩
  rw [HZL.out] at o1 ⊢
  have Q1 : Bf w1 (w.heap.size + 2) (.int .i64 0) (.slice none 0 0) := Bf.q3.keep hb1
  have K1 : Below w.heap.size w w1 := Below.trans (by (repeat (first | assumption | exact Below.refl _ _ | refine Below.alloc ?_ (by first | omega | (simp; done) | (simp; omega)) _ | refine Below.setCell ?_ (by first | omega | (simp; done) | (simp; omega)) _ | refine below_drewN ?_ _))) (hb1.mono (by simp; omega))
  have q1a := Q1.1.2.1
  have q1b := Q1.1.2.2
  have q1c := Q1.2.1
  have q1d := Q1.2.2
  go_wp2
  refine bodyPost_ret (v := .agg #[.int .i64 m, .slice A1 n c1]) (by simp [results, Try.results65, go_sem, q1a, q1b]) rfl ⟨A1, c1, by rw [HZL.out], ?_, ?_⟩
  · rw [HZL.out]
    have h9 := OwnP.mono (lo' := w.heap.size) (o1.far2 (b := w.heap.size + 2) (x := .int .i64 m) (y := .slice A1 n c1) (.inl (by first | (simp; done) | (simp; omega)))) (by first | (simp; done) | (simp; omega)) (Nat.le_refl _)
    simpa [World.setCell] using h9
  · exact (K1.setCell (by simp; omega) _).setCell (by simp; omega) _
/-! ### AdditiveLaw -/
def AdditiveLawR (m d : Int) : (Int × List (List Int)) × Int := if stdB m d [] = false then ((0, []), 2) else ((m, tab (d + 1).toNat fun i j => if (i = 1 ∧ j = 0) ∨ (i = 0 ∧ j = 1) then 1 else 0), 0)
theorem stdB_true {m d : Int} {xs : List Int} (h : stdB m d xs = true) : (2 ≤ m ∧ m ≤ 10000) ∧ (1 ≤ d ∧ d ≤ 10) ∧ numsB m xs = true := by
  simp only [stdB, Bool.and_eq_true] at h
  exact ⟨isModB_true h.1.1, inB_true.1 h.1.2, h.2⟩
theorem AdditiveLawR_len (m d : Int) : cntP (AdditiveLawR m d).1.2 ≤ 200 := by
  unfold AdditiveLawR
  cases h : stdB m d []
  · simp [cntP]
  · have := stdB_true h
    exact cntP_tab_100 _ (by omega)
theorem axF_var (n : Nat) (k : Int) (i j : Nat) (h : i + j < n) : axF (varL n) k i j = if k = 0 then (if i = 1 ∧ j = 0 then 1 else 0) else if i = 0 ∧ j = 1 then 1 else 0 := by
  have e : ∀ q, q < n → co (varL n) q = if q = 1 then 1 else 0 := fun q hq => by unfold varL; rw [co_lst' hq]
  simp only [axF]
  by_cases hk : k = 0
  · simp only [hk, if_true]
    rw [e i (by omega)]
    by_cases h1 : j = 0 <;> by_cases h2 : i = 1 <;> simp [h1, h2]
  · simp only [hk, if_false]
    rw [e j (by omega)]
    by_cases h1 : j = 1 <;> by_cases h2 : i = 0 <;> simp [h1, h2]
theorem xy_sum (m : Int) (n : Nat) (hm : 2 ≤ m) : (tab n fun i j => (co2 (tab n (axF (varL n) 0)) i j + co2 (tab n (axF (varL n) 1)) i j) % m) = tab n fun i j => if (i = 1 ∧ j = 0) ∨ (i = 0 ∧ j = 1) then 1 else 0 := tab_congr fun i j hij => by
  rw [co2_tab _ hij, co2_tab _ hij, axF_var n 0 i j hij, axF_var n 1 i j hij]
  have e1 : (1 : Int) % m = 1 := Int.emod_eq_of_lt (by omega) (by omega)
  by_cases h1 : i = 1
  · subst h1
    by_cases h2 : j = 0 <;> simp [h2, e1]
  · by_cases h2 : i = 0
    · subst h2
      by_cases h3 : j = 1 <;> simp [h3, e1]
    · simp [h1, h2]
theorem var_num2 (m : Int) (hm : 2 ≤ m) (n : Nat) (k : Int) : Num2 m (tab n (axF (varL n) k)) := fun i j => by
  rcases Nat.lt_or_ge (i + j) n with h | h
  · rw [co2_tab _ h, axF_var n k i j h]
    by_cases hk : k = 0
    · simp only [hk, if_true]; split <;> omega
    · simp only [hk, if_false]; split <;> omega
  · have : co2 (tab n (axF (varL n) k)) i j = 0 := by
      unfold co2
      rcases Nat.lt_or_ge i n with hi | hi
      · rw [getD_tab _ hi]
        unfold co
        exact getD_lst_ge _ _ _ (by omega)
      · rw [show (tab n (axF (varL n) k)).getD i [] = [] by rw [List.getD_eq_getElem?_getD, List.getElem?_eq_none (by rw [length_tab]; omega)]; rfl]
        rfl
    rw [this]
    omega
def mulF (m c : Int) (i j : Nat) : Int := if (i = 1 ∧ j = 0) ∨ (i = 0 ∧ j = 1) then 1 else if i = 1 ∧ j = 1 then c % m else 0
theorem mul_upd (m c : Int) (n : Nat) (_hn : 3 ≤ n) (hc : 0 ≤ c ∧ c < m) : tab n (upd2 (upd2 (upd2 (fun _ _ => 0) 1 0 1) 0 1 1) 1 1 c) = tab n (mulF m c) := tab_congr fun i j _ => by
  have e : c % m = c := Int.emod_eq_of_lt hc.1 hc.2
  unfold upd2 mulF
  by_cases h1 : i = 1
  · subst h1
    by_cases h2 : j = 1
    · subst h2; simp [e]
    · by_cases h3 : j = 0 <;> simp [h2, h3]
  · by_cases h4 : i = 0
    · subst h4
      by_cases h2 : j = 1 <;> simp [h2]
    · simp [h1, h4]
theorem mul_upd2 (m c : Int) (n : Nat) (hn : n = 2) : tab n (upd2 (upd2 (fun _ _ => 0) 1 0 1) 0 1 1) = tab n (mulF m c) := tab_congr fun i j hij => by
  unfold upd2 mulF
  by_cases h1 : i = 1
  · subst h1
    have : j = 0 := by omega
    subst this
    simp
  · have h4 : i = 0 := by omega
    subst h4
    by_cases h2 : j = 1 <;> simp [h2]
theorem mul_zero (m : Int) (n : Nat) : tab n (mulF m 0) = tab n fun i j => if (i = 1 ∧ j = 0) ∨ (i = 0 ∧ j = 1) then 1 else 0 := tab_congr fun i j _ => by
  unfold mulF
  simp
/-- A cell of a table, and what a store into it makes. -/
theorem OwnP.put {w : World} {lo hi : Nat} {g n c : Nat} {f : Nat → Nat → Int} (h : OwnP w lo hi (.slice (some ⟨g, 0, none⟩) n c) (tab n f)) {i j : Nat} (hij : i + j < n) :
    ∃ gr cr, w.cell? ⟨g, i, none⟩ = some (.slice (some ⟨gr, 0, none⟩) (n - i) cr) ∧ gr ≠ g ∧ lo ≤ gr ∧ gr < hi ∧ gr < w.heap.size ∧ w.cell? ⟨gr, j, none⟩ = some (.int .i64 (f i j)) ∧ w.frozen? ⟨gr, j, none⟩ = false ∧ ∀ y : Int, OwnP (w.setCell ⟨gr, j, none⟩ (.int .i64 y)) lo hi (.slice (some ⟨g, 0, none⟩) n c) (tab n (upd2 f i j y)) := by
  obtain ⟨Ar, cr, hcell⟩ := h.cell (k := i) (by rw [length_tab]; omega)
  rw [getD_tab _ (by omega), length_lst] at hcell
  obtain ⟨-, _, _, hw⟩ := h.rowW (i := i) (by rw [length_tab]; omega) hcell
  obtain ⟨gr, rfl, h1, h2, h3, h4, h5, h6, h7⟩ := hw j (by omega)
  rw [co2_tab f hij] at h5
  exact ⟨gr, cr, hcell, h1, h2, h3, h4, h5, h6, fun y => by rw [← set_tab' _ _ _ _ _ (by omega)]; exact h7 y⟩

/-! ### Products of planes: the plain law -/
def fT (f g : Nat → Nat → Int) (i j a b : Nat) : Int := if i ≤ a ∧ j ≤ b then f i j * g (a - i) (b - j) else 0
def rowS (f g : Nat → Nat → Int) (i J a b : Nat) : Int := sumN (fun j => fT f g i j a b) J
def allS (n : Nat) (f g : Nat → Nat → Int) (I a b : Nat) : Int := sumN (fun i => rowS f g i (n - i) a b) I
def stS (n : Nat) (f g : Nat → Nat → Int) (i j a b : Nat) : Int := allS n f g i a b + rowS f g i j a b
/-- Coefficient (a, b) of the product of two planes. -/
def tmF (m : Int) (n : Nat) (f g : Nat → Nat → Int) (a b : Nat) : Int := allS n f g n a b % m
/-- The table while the product is reckoned: behind place (i, j) of the first, at place (k, l) of the second. -/
def stP (m : Int) (n : Nat) (f g : Nat → Nat → Int) (i j k l a b : Nat) : Int := if i ≤ a ∧ j ≤ b ∧ (a - i < k ∨ (a - i = k ∧ b - j < l)) then stS n f g i (j + 1) a b % m else stS n f g i j a b % m
theorem stS_succ (n : Nat) (f g : Nat → Nat → Int) (i j a b : Nat) : stS n f g i (j + 1) a b = stS n f g i j a b + fT f g i j a b := by
  unfold stS rowS
  simp only [sumN]
  omega
theorem tP_zero (m : Int) (n : Nat) (f g : Nat → Nat → Int) : (tab n fun _ _ => 0) = tab n (stP m n f g 0 0 0 0) := tab_congr fun a b _ => by
  unfold stP
  rw [if_neg (by omega)]
  simp [stS, allS, rowS, sumN]
theorem stP_at (m : Int) (n : Nat) (f g : Nat → Nat → Int) (i j k l : Nat) : stP m n f g i j k l (i + k) (j + l) = stS n f g i j (i + k) (j + l) % m := by
  unfold stP
  rw [if_neg (by omega)]
theorem tP_step (m : Int) (n : Nat) (f g : Nat → Nat → Int) (i j k l : Nat) : tab n (upd2 (stP m n f g i j k l) (i + k) (j + l) ((stS n f g i j (i + k) (j + l) % m + f i j * g k l % m) % m)) = tab n (stP m n f g i j k (l + 1)) := tab_congr fun a b _ => by
  unfold upd2
  by_cases h : a = i + k ∧ b = j + l
  · obtain ⟨rfl, rfl⟩ := h
    rw [if_pos ⟨rfl, rfl⟩]
    unfold stP
    rw [if_pos (by omega), stS_succ]
    have e : fT f g i j (i + k) (j + l) = f i j * g k l := by
      unfold fT
      rw [if_pos (by omega), show i + k - i = k by omega, show j + l - j = l by omega]
    rw [e, Int.emod_add_emod, Int.add_emod_emod]
  · rw [if_neg h]
    unfold stP
    by_cases h2 : i ≤ a ∧ j ≤ b ∧ (a - i < k ∨ (a - i = k ∧ b - j < l))
    · rw [if_pos h2, if_pos (by omega)]
    · rw [if_neg h2, if_neg (by omega)]
theorem tP_step' (m : Int) (n : Nat) (f g : Nat → Nat → Int) (i j k l : Nat) : tab n (upd2 (stP m n f g i j k l) (i + k) (j + l) ((stS n f g i j (i + k) (j + l) % m + f i j * g k l) % m)) = tab n (stP m n f g i j k (l + 1)) := by
  rw [← tP_step, Int.add_emod_emod]
theorem tP_endl (m : Int) (n : Nat) (f g : Nat → Nat → Int) (i j k r : Nat) (hr : i + j + k + r = n) : tab n (stP m n f g i j k r) = tab n (stP m n f g i j (k + 1) 0) := tab_congr fun a b hab => by
  unfold stP
  by_cases h2 : i ≤ a ∧ j ≤ b ∧ (a - i < k ∨ (a - i = k ∧ b - j < r))
  · rw [if_pos h2, if_pos (by omega)]
  · rw [if_neg h2, if_neg (by omega)]
theorem fT_zero (f g : Nat → Nat → Int) (i j a b : Nat) (h : ¬ (i ≤ a ∧ j ≤ b)) : fT f g i j a b = 0 := by unfold fT; rw [if_neg h]
theorem tP_endk (m : Int) (n : Nat) (f g : Nat → Nat → Int) (i j k : Nat) (hk : i + j + k = n) : tab n (stP m n f g i j k 0) = tab n (stP m n f g i (j + 1) 0 0) := tab_congr fun a b hab => by
  have e : stP m n f g i (j + 1) 0 0 a b = stS n f g i (j + 1) a b % m := by unfold stP; rw [if_neg (by omega)]
  rw [e]
  unfold stP
  by_cases h2 : i ≤ a ∧ j ≤ b
  · rw [if_pos (by omega)]
  · rw [if_neg (by omega), stS_succ, fT_zero f g i j a b h2, Int.add_zero]
theorem tP_skip (m : Int) (n : Nat) (f g : Nat → Nat → Int) (i j : Nat) (h : f i j = 0) : tab n (stP m n f g i j 0 0) = tab n (stP m n f g i (j + 1) 0 0) := tab_congr fun a b hab => by
  have e : fT f g i j a b = 0 := by unfold fT; rw [h]; simp
  unfold stP
  rw [if_neg (by omega), if_neg (by omega), stS_succ, e, Int.add_zero]
theorem tP_endj (m : Int) (n : Nat) (f g : Nat → Nat → Int) (i j : Nat) (h : i + j = n) : tab n (stP m n f g i j 0 0) = tab n (stP m n f g (i + 1) 0 0 0) := tab_congr fun a b hab => by
  unfold stP
  rw [if_neg (by omega), if_neg (by omega)]
  unfold stS allS
  simp only [sumN]
  rw [show n - i = j by omega]
  simp [rowS, sumN]
theorem tP_all (m : Int) (n : Nat) (f g : Nat → Nat → Int) : tab n (stP m n f g n 0 0 0) = tab n (tmF m n f g) := tab_congr fun a b hab => by
  unfold stP
  rw [if_neg (by omega)]
  simp [stS, tmF, rowS, sumN]
theorem stS_bd {m : Int} (hm : 0 < m) (n : Nat) (f g : Nat → Nat → Int) (i j a b : Nat) : 0 ≤ stS n f g i j a b % m ∧ stS n f g i j a b % m < m := ⟨Int.emod_nonneg _ (by omega), Int.emod_lt_of_pos _ hm⟩
theorem tmF_bd {m : Int} (hm : 0 < m) (n : Nat) (f g : Nat → Nat → Int) (a b : Nat) : 0 ≤ tmF m n f g a b ∧ tmF m n f g a b < m := ⟨Int.emod_nonneg _ (by omega), Int.emod_lt_of_pos _ hm⟩

set_option maxRecDepth 16000 in
set_option maxHeartbeats 8000000 in
theorem pTimes_any (w : World) (m : Int) (v v2 : Value) (xss yss zss : List (List Int)) (n : Nat) (lo0 hi0 lo2 hi2 : Nat) (hv : OwnP w lo0 hi0 v xss) (ht : Tri n xss) (hq : Num2 m xss) (hv2 : OwnP w lo2 hi2 v2 yss) (ht2 : Tri n yss) (hq2 : Num2 m yss) (hm : 2 ≤ m) (hm' : m ≤ 3000000000) (hn1 : 1 ≤ n) (hn : n ≤ 1000) (hz : tab n (tmF m n (co2 xss) (co2 yss)) = zss) :
    Calls Try.prog 66 #[.agg #[.int .i64 m, v], .agg #[.int .i64 m, v2]] w (NewPl w m zss) := by
  obtain ⟨gA, cA, rfl, hcA1, hcA2, hgA, hA⟩ := hv.source n ht.1 hn1
  obtain ⟨gB, cB, rfl, hcB1, hcB2, hgB, hB⟩ := hv2.source n ht2.1 hn1
  have HZ := Lib.hid hz
  have HT := Lib.hid ht
  have HT2 := Lib.hid ht2
  have HQ := Lib.hid hq
  have HQ2 := Lib.hid hq2
  have HV := Lib.hid hv
  have HV2 := Lib.hid hv2
  have HZL : Hid (zss.length = n) := by unfold Hid; rw [← hz, length_tab]
  clear hz ht ht2 hq hq2 hv hv2 hA hB
  go_enter Try.func66, Try.ntmps66
  go_upto_region 1 with fail
  go_cut [5] from 14 to 19 (fun s wx => ∃ (bo : Nat) (A' : Option Addr) (c' : Nat), s = .pointer (some ⟨bo, 0, none⟩) ∧ w.heap.size + 3 ≤ bo ∧ bo < wx.heap.size ∧ Hid (Bf wx bo (.int .i64 m) (.slice A' n c')) ∧ Hid (OwnPx wx (w.heap.size + 3) bo (.slice A' n c') (tab n fun _ _ => 0)) ∧ Hid (Bf wx w.heap.size (.int .i64 m) (.slice (some ⟨gA, 0, none⟩) n cA)) ∧ Hid (Bf wx (w.heap.size + 1) (.int .i64 m) (.slice (some ⟨gB, 0, none⟩) n cB)) ∧ Hid (Bf wx (w.heap.size + 2) (.int .i64 0) (.slice none 0 0)) ∧ Hid (Below w.heap.size w wx))
  case first =>
    go_region_held3 (fun w' => w'.cell? ⟨w.heap.size, 0, none⟩ = some (.int .i64 m) ∧ w'.cell? ⟨w.heap.size, 1, none⟩ = some (.slice (some ⟨gA, 0, none⟩) n cA))
      (first | exact ⟨p2a, p2b⟩ | exact ⟨p1a, p1b⟩ | go_keep | (refine (fun (h : Bf _ w.heap.size (.int .i64 m) (.slice (some ⟨gA, 0, none⟩) n cA)) => ⟨h.1.2.1, h.1.2.2⟩) ((Bf.alloc1 w _ _ 24).keep ?_); (repeat (first | assumption | exact Below.refl _ _ | (refine Below.alloc ?_ ?_ _; rotate_left; (focus (first | exact Nat.le_refl _ | omega | (simp; done) | (simp; omega)))) | (refine Below.setCell ?_ ?_ _; rotate_left; (focus (first | exact Nat.le_refl _ | omega | (simp; done) | (simp; omega)))) | refine below_drew ?_ | refine below_drewN ?_ _ | (refine Below.trans ?_ (Below.mono hb2 ?_); rotate_left; (focus (first | exact Nat.le_refl _ | omega | (simp; done) | (simp; omega)))) | (refine Below.trans ?_ (Below.mono hb1 ?_); rotate_left; (focus (first | exact Nat.le_refl _ | omega | (simp; done) | (simp; omega))))))))
      (first | (go_at_call 132; refine (pDegree_any m (some ⟨gA, 0, none⟩) n cA _ (by omega)).mono ?_; rintro e w1 ⟨rfl, hb1⟩; have P1 : Bf w1 w.heap.size (.int .i64 m) (.slice (some ⟨gA, 0, none⟩) n cA) := ((Bf.alloc1 w _ _ 24).keep (by (repeat (first | assumption | exact Below.refl _ _ | (refine Below.alloc ?_ ?_ _; rotate_left; (focus (first | exact Nat.le_refl _ | omega | (simp; done) | (simp; omega)))) | (refine Below.setCell ?_ ?_ _; rotate_left; (focus (first | exact Nat.le_refl _ | omega | (simp; done) | (simp; omega)))) | refine below_drew ?_ | refine below_drewN ?_ _ | (refine Below.trans ?_ (Below.mono hb1 ?_); rotate_left; (focus (first | exact Nat.le_refl _ | omega | (simp; done) | (simp; omega)))))))); have p1a := P1.1.2.1; have p1b := P1.1.2.2; obtain ⟨hc1, hf1⟩ := bcell hb1; have z1 := hb1.size; (try simp at z1); have z1p : w.heap.size < w1.heap.size := (by omega); (first | (have y1 : w.heap.size + 3 < w1.heap.size := (by omega)) | skip)) | (go_at_call 131; refine (emptyPlane_any _ m _ n (by omega) (by omega)).mono ?_; rintro e w2 ⟨A9, c9, rfl, hr2, hb2⟩; rw [length_tab] at hr2 ⊢; have P2 : Bf w2 w.heap.size (.int .i64 m) (.slice (some ⟨gA, 0, none⟩) n cA) := ((Bf.alloc1 w _ _ 24).keep (by (repeat (first | assumption | exact Below.refl _ _ | (refine Below.alloc ?_ ?_ _; rotate_left; (focus (first | exact Nat.le_refl _ | omega | (simp; done) | (simp; omega)))) | (refine Below.setCell ?_ ?_ _; rotate_left; (focus (first | exact Nat.le_refl _ | omega | (simp; done) | (simp; omega)))) | refine below_drew ?_ | refine below_drewN ?_ _ | (refine Below.trans ?_ (Below.mono hb2 ?_); rotate_left; (focus (first | exact Nat.le_refl _ | omega | (simp; done) | (simp; omega)))) | (refine Below.trans ?_ (Below.mono hb1 ?_); rotate_left; (focus (first | exact Nat.le_refl _ | omega | (simp; done) | (simp; omega)))))))); have p2a := P2.1.2.1; have p2b := P2.1.2.2; obtain ⟨hc2, hf2⟩ := bcell hb2; have z2 := hb2.size; (try simp at z2); have z2p : w.heap.size < w2.heap.size := (by omega)))
    all_goals
      go_wp2_with fail
      go_meet
      have KK : Hid (Below w.heap.size w w2) := by (repeat (first | assumption | exact Below.refl _ _ | (refine Below.alloc ?_ ?_ _; rotate_left; (focus (first | exact Nat.le_refl _ | omega | (simp; done) | (simp; omega)))) | (refine Below.setCell ?_ ?_ _; rotate_left; (focus (first | exact Nat.le_refl _ | omega | (simp; done) | (simp; omega)))) | refine below_drew ?_ | refine below_drewN ?_ _ | (refine Below.trans ?_ (Below.mono hb2 ?_); rotate_left; (focus (first | exact Nat.le_refl _ | omega | (simp; done) | (simp; omega)))) | (refine Below.trans ?_ (Below.mono hb1 ?_); rotate_left; (focus (first | exact Nat.le_refl _ | omega | (simp; done) | (simp; omega))))))
      refine ⟨_, A9, c9, rfl, ?_, ?_, ?_, ?_, ?_, ?_, ?_, ?_⟩
      · first | omega | (simp; done) | (simp; omega)
      · first | omega | (simp; done) | (simp; omega) | (simp [World.setCell]; omega)
      · unfold Hid
        first | exact Bf.alloc1 w2 _ _ _ | exact ((Bf.alloc1 w1 _ _ _).keep hb2).store2 | exact (((Bf.q4 (w := w)).keep (below_undrew hb1)).keep hb2).store2
      · unfold Hid
        first | (refine OwnPx.of (hr2.alloc _) ?_ ?_ ?_ <;> (first | omega | (simp; done) | (simp; omega) | (right; omega) | (right; simp; done) | (right; simp; omega) | (left; omega) | (left; simp; done) | (left; simp; omega) | (simp [World.setCell]; done) | (simp [World.setCell]; omega)); done) | (refine OwnPx.of ((hr2.far ?_ _).far ?_ _) ?_ ?_ ?_ <;> (first | omega | (simp; done) | (simp; omega) | (right; omega) | (right; simp; done) | (right; simp; omega) | (left; omega) | (left; simp; done) | (left; simp; omega) | (simp [World.setCell]; done) | (simp [World.setCell]; omega)); done)
      · exact (Bf.q1 (w := w) (t := 24)).keep (by (repeat (first | assumption | exact Below.refl _ _ | (refine Below.alloc ?_ ?_ _; rotate_left; (focus (first | exact Nat.le_refl _ | omega | (simp; done) | (simp; omega)))) | (refine Below.setCell ?_ ?_ _; rotate_left; (focus (first | exact Nat.le_refl _ | omega | (simp; done) | (simp; omega)))) | refine below_drew ?_ | refine below_drewN ?_ _ | (refine Below.trans ?_ (Below.mono hb2 ?_); rotate_left; (focus (first | exact Nat.le_refl _ | omega | (simp; done) | (simp; omega)))) | (refine Below.trans ?_ (Below.mono hb1 ?_); rotate_left; (focus (first | exact Nat.le_refl _ | omega | (simp; done) | (simp; omega)))))))
      · exact (Bf.q2 (w := w) (t := 24) (t' := 24)).keep (by (repeat (first | assumption | exact Below.refl _ _ | (refine Below.alloc ?_ ?_ _; rotate_left; (focus (first | exact Nat.le_refl _ | omega | (simp; done) | (simp; omega)))) | (refine Below.setCell ?_ ?_ _; rotate_left; (focus (first | exact Nat.le_refl _ | omega | (simp; done) | (simp; omega)))) | refine below_drew ?_ | refine below_drewN ?_ _ | (refine Below.trans ?_ (Below.mono hb2 ?_); rotate_left; (focus (first | exact Nat.le_refl _ | omega | (simp; done) | (simp; omega)))) | (refine Below.trans ?_ (Below.mono hb1 ?_); rotate_left; (focus (first | exact Nat.le_refl _ | omega | (simp; done) | (simp; omega)))))))
      · exact (Bf.q3 (w := w) (t := 24) (t' := 24) (t2 := 24)).keep (by (repeat (first | assumption | exact Below.refl _ _ | (refine Below.alloc ?_ ?_ _; rotate_left; (focus (first | exact Nat.le_refl _ | omega | (simp; done) | (simp; omega)))) | (refine Below.setCell ?_ ?_ _; rotate_left; (focus (first | exact Nat.le_refl _ | omega | (simp; done) | (simp; omega)))) | refine below_drew ?_ | refine below_drewN ?_ _ | (refine Below.trans ?_ (Below.mono hb2 ?_); rotate_left; (focus (first | exact Nat.le_refl _ | omega | (simp; done) | (simp; omega)))) | (refine Below.trans ?_ (Below.mono hb1 ?_); rotate_left; (focus (first | exact Nat.le_refl _ | omega | (simp; done) | (simp; omega)))))))
      · (repeat (first | assumption | exact Below.refl _ _ | (refine Below.alloc ?_ ?_ _; rotate_left; (focus (first | exact Nat.le_refl _ | omega | (simp; done) | (simp; omega)))) | (refine Below.setCell ?_ ?_ _; rotate_left; (focus (first | exact Nat.le_refl _ | omega | (simp; done) | (simp; omega)))) | refine below_drew ?_ | refine below_drewN ?_ _ | (refine Below.trans ?_ (Below.mono hb2 ?_); rotate_left; (focus (first | exact Nat.le_refl _ | omega | (simp; done) | (simp; omega)))) | (refine Below.trans ?_ (Below.mono hb1 ?_); rotate_left; (focus (first | exact Nat.le_refl _ | omega | (simp; done) | (simp; omega))))))
  case rest =>
    obtain ⟨bo, A', c', rfl, hbo1, hbo2, HO, HR0, HP, HP2, HQR, HB⟩ := hcut
    obtain ⟨lo, hi, hlo, hbo3, hhi, hr0⟩ := HR0.out
    obtain ⟨g, _, _, -, e0, hg1, hg2, hg3, -⟩ := hr0.row (k := 0) (by rw [length_tab]; omega)
    rw [length_tab] at e0
    simp only [Value.slice.injEq] at e0
    obtain ⟨rfl, -, rfl⟩ := e0
    rw [tP_zero m n (co2 xss) (co2 yss)] at hr0
    have HR := Lib.hid hr0
    clear hr0 HR0
    have p1 := HP.out.1.2.1
    have p2 := HP.out.1.2.2
    go_wp2_with (go_at_call 132; refine (pDegree_any m (some ⟨gA, 0, none⟩) n cA _ (by omega)).mono ?_; rintro e w1 ⟨rfl, hb1⟩; have P1 := HP.out.keep hb1; have p1a := P1.1.2.1; have p1b := P1.1.2.2)
    have zB0 := HB.out.size
    have HO' := Lib.hid (HO.out.keep hb1)
    have HR' := Lib.hid (HR.out.keep hb1)
    have HP' := Lib.hid P1
    have HP2' := Lib.hid (HP2.out.keep hb1)
    have HQR' := Lib.hid (HQR.out.keep hb1)
    have HB' := Lib.hid (HB.out.trans (hb1.mono zB0))
    clear HO HR HP HP2 HQR HB P1 p1 p2 p1a p1b hb1
    go_loopw [24] (fun s wr => ∃ i : Nat, i ≤ n ∧ s = .int .i64 i ∧ Hid (Bf wr bo (.int .i64 m) (.slice (some ⟨g, 0, none⟩) n c')) ∧ Hid (OwnP wr lo hi (.slice (some ⟨g, 0, none⟩) n c') (tab n (stP m n (co2 xss) (co2 yss) i 0 0 0))) ∧ Hid (Bf wr w.heap.size (.int .i64 m) (.slice (some ⟨gA, 0, none⟩) n cA)) ∧ Hid (Bf wr (w.heap.size + 1) (.int .i64 m) (.slice (some ⟨gB, 0, none⟩) n cB)) ∧ Hid (Bf wr (w.heap.size + 2) (.int .i64 0) (.slice none 0 0)) ∧ Hid (Below w.heap.size w wr)) (fun s _ => n - (intOf s).toNat)
    case atStart => exact ⟨0, Nat.zero_le _, rfl, HO', HR', HP', HP2', HQR', HB'⟩
    case round =>
      clear HO' HR' HP' HP2' HQR' HB'
      obtain ⟨i, hin, rfl, HO, HR, HP, HP2, HQR, HB⟩ := hrel
      by_cases hlti : i < n
      · obtain ⟨gx, grx, crx, e1, hx1, hx2, hx3, -, hx5⟩ := HV.out.at2 (i := i) (j := 0) (by rw [HT.out.1]; exact hlti) (by rw [HT.out.2 i hlti]; omega)
        simp only [Option.some.injEq, Addr.mk.injEq] at e1
        obtain ⟨rfl, -⟩ := e1
        obtain ⟨ri, hri⟩ : ∃ ri, ri = n - i := ⟨_, rfl⟩
        rw [HT.out.2 i hlti, ← hri] at hx2 hx5
        have hri2 : i + ri = n := by omega
        have HRI := Lib.hid hri2
        have hri3 : i + ri ≤ n ∧ n ≤ i + ri := by omega
        clear hri hri2
        have hc1 := (HB.out.cell (p := ⟨gA, i, none⟩) hx1).trans hx2
        have hi0 : (0 : Int) ≤ (i : Int) := by omega
        have hi1 : (i : Int) < (n : Int) := by omega
        go_wp2
        clear hc1
        go_loopw [31] (fun s wr => ∃ j : Nat, j ≤ ri ∧ s = .int .i64 j ∧ Hid (Bf wr bo (.int .i64 m) (.slice (some ⟨g, 0, none⟩) n c')) ∧ Hid (OwnP wr lo hi (.slice (some ⟨g, 0, none⟩) n c') (tab n (stP m n (co2 xss) (co2 yss) i j 0 0))) ∧ Hid (Bf wr w.heap.size (.int .i64 m) (.slice (some ⟨gA, 0, none⟩) n cA)) ∧ Hid (Bf wr (w.heap.size + 1) (.int .i64 m) (.slice (some ⟨gB, 0, none⟩) n cB)) ∧ Hid (Bf wr (w.heap.size + 2) (.int .i64 0) (.slice none 0 0)) ∧ Hid (Below w.heap.size w wr)) (fun s _ => ri - (intOf s).toNat)
        case atStart => exact ⟨0, Nat.zero_le _, rfl, HO, HR, HP, HP2, HQR, HB⟩
        case round =>
          clear HO HR HP HP2 HQR HB
          obtain ⟨j, hj, rfl, HO, HR, HP, HP2, HQR, HB⟩ := hrel
          by_cases hltj : j < ri
          · obtain ⟨gx2, grx2, crx2, e1, -, hy2, hy3, hy4, -⟩ := HV.out.at2 (i := i) (j := j) (by rw [HT.out.1]; exact hlti) (by rw [HT.out.2 i hlti]; omega)
            simp only [Option.some.injEq, Addr.mk.injEq] at e1
            obtain ⟨rfl, -⟩ := e1
            rw [hx2] at hy2
            simp only [Option.some.injEq, Value.slice.injEq, Addr.mk.injEq] at hy2
            obtain ⟨⟨rfl, -⟩, -, -⟩ := hy2
            have hc2 := (HB.out.cell (p := ⟨grx, j, none⟩) hy3).trans hy4
            have hxb := HQ.out i j
            obtain ⟨x, hx⟩ : ∃ x, x = co2 xss i j := ⟨_, rfl⟩
            rw [← hx] at hc2 hxb
            have HX := Lib.hid hx
            clear hy4 hx
            have hj0 : (0 : Int) ≤ (j : Int) := by omega
            have hj1 : (j : Int) < (ri : Int) := by omega
            by_cases hx0 : x = 0
            · have hxz : (x == 0) = true := by simpa using hx0
              have hs := HR.out
              rw [tP_skip m n (co2 xss) (co2 yss) i j (by rw [← HX.out]; exact hx0)] at hs
              have HR' := Lib.hid hs
              clear hs hx0
              go_wp2
              go_roundw
              case rel => exact ⟨j + 1, by omega, by go_num, HO, HR', HP, HP2, HQR, HB⟩
              case measure => simp [intOf]; omega
            · have hxz : (x == 0) = false := by simpa using hx0
              clear hx0
              go_wp2
              clear hc2
              go_loopw [11] (fun s wr => ∃ k : Nat, i + j + k ≤ n ∧ s = .int .i64 k ∧ Hid (Bf wr bo (.int .i64 m) (.slice (some ⟨g, 0, none⟩) n c')) ∧ Hid (OwnP wr lo hi (.slice (some ⟨g, 0, none⟩) n c') (tab n (stP m n (co2 xss) (co2 yss) i j k 0))) ∧ Hid (Bf wr w.heap.size (.int .i64 m) (.slice (some ⟨gA, 0, none⟩) n cA)) ∧ Hid (Bf wr (w.heap.size + 1) (.int .i64 m) (.slice (some ⟨gB, 0, none⟩) n cB)) ∧ Hid (Bf wr (w.heap.size + 2) (.int .i64 0) (.slice none 0 0)) ∧ Hid (Below w.heap.size w wr)) (fun s _ => n + 1 - (intOf s).toNat)
              case atStart => exact ⟨0, by omega, rfl, HO, HR, HP, HP2, HQR, HB⟩
              case round =>
                clear HO HR HP HP2 HQR HB
                obtain ⟨k, hk, rfl, HO, HR, HP, HP2, HQR, HB⟩ := hrel
                have s1 := HP2.out.1.2.1
                have s2 := HP2.out.1.2.2
                by_cases hltk : i + j + k < n
                · obtain ⟨gy, gry, cry, e1, hw1, hw2, hw3, -, hw5⟩ := HV2.out.at2 (i := k) (j := 0) (by rw [HT2.out.1]; omega) (by rw [HT2.out.2 k (by omega)]; omega)
                  simp only [Option.some.injEq, Addr.mk.injEq] at e1
                  obtain ⟨rfl, -⟩ := e1
                  obtain ⟨rk, hrk⟩ : ∃ rk, rk = n - k := ⟨_, rfl⟩
                  rw [HT2.out.2 k (by omega), ← hrk] at hw2 hw5
                  obtain ⟨r, hr⟩ : ∃ r, i + j + k + r = n := ⟨n - (i + j + k), by omega⟩
                  have HRR := Lib.hid hr
                  have hr3 : i + j + k + r ≤ n ∧ n ≤ i + j + k + r ∧ r ≤ rk ∧ rk + k ≤ n ∧ n ≤ rk + k := by omega
                  clear hrk hr
                  have hc3 := (HB.out.cell (p := ⟨gB, k, none⟩) hw1).trans hw2
                  have hk0 : (0 : Int) ≤ (k : Int) := by omega
                  have hk1 : (k : Int) < (n : Int) := by omega
                  have hk2 : (i : Int) + (j : Int) + (k : Int) ≤ (n : Int) - 1 := by omega
                  have v1 : (n : Int) - 1 - (i : Int) - (j : Int) - (k : Int) + 1 = (r : Int) := by omega
                  have hw6 : (0 : Int) ≤ (r : Int) := by omega
                  have hw7 : (r : Int) ≤ (cry : Int) := by omega
                  go_wp2
                  clear v1 hc3 s1 s2
                  go_loopw [62] (fun s wr => ∃ l : Nat, l ≤ r ∧ s = .int .i64 l ∧ Hid (Bf wr bo (.int .i64 m) (.slice (some ⟨g, 0, none⟩) n c')) ∧ Hid (OwnP wr lo hi (.slice (some ⟨g, 0, none⟩) n c') (tab n (stP m n (co2 xss) (co2 yss) i j k l))) ∧ Hid (Bf wr w.heap.size (.int .i64 m) (.slice (some ⟨gA, 0, none⟩) n cA)) ∧ Hid (Bf wr (w.heap.size + 1) (.int .i64 m) (.slice (some ⟨gB, 0, none⟩) n cB)) ∧ Hid (Bf wr (w.heap.size + 2) (.int .i64 0) (.slice none 0 0)) ∧ Hid (Below w.heap.size w wr)) (fun s _ => r - (intOf s).toNat)
                  case atStart => exact ⟨0, Nat.zero_le _, rfl, HO, HR, HP, HP2, HQR, HB⟩
                  case round =>
                    clear HO HR HP HP2 HQR HB
                    obtain ⟨l, hl, rfl, HO, HR, HP, HP2, HQR, HB⟩ := hrel
                    have p1 := HP.out.1.2.1
                    have o2 := HO.out.1.2.2
                    have zO := HO.out.1.1
                    have zP := HP.out.1.1
                    by_cases hltl : l < r
                    · obtain ⟨gy2, gry2, cry2, e1, -, hu2, hu3, hu4, -⟩ := HV2.out.at2 (i := k) (j := l) (by rw [HT2.out.1]; omega) (by rw [HT2.out.2 k (by omega)]; omega)
                      simp only [Option.some.injEq, Addr.mk.injEq] at e1
                      obtain ⟨rfl, -⟩ := e1
                      rw [hw2] at hu2
                      simp only [Option.some.injEq, Value.slice.injEq, Addr.mk.injEq] at hu2
                      obtain ⟨⟨rfl, -⟩, -, -⟩ := hu2
                      have hc4 := (HB.out.cell (p := ⟨gry, l, none⟩) hu3).trans hu4
                      have hyb := HQ2.out k l
                      obtain ⟨gr, cr, hcr, hne, hgl, hgh, hgz, hd0, hf0, hset⟩ := HR.out.put (i := i + k) (j := j + l) (by omega)
                      rw [stP_at] at hd0
                      have hsb := stS_bd (show 0 < m by omega) n (co2 xss) (co2 yss) i j (i + k) (j + l)
                      have hst := tP_step' m n (co2 xss) (co2 yss) i j k l
                      rw [← HX.out] at hst
                      obtain ⟨y, hy⟩ : ∃ y, y = co2 yss k l := ⟨_, rfl⟩
                      rw [← hy] at hc4 hyb hst
                      have HST := Lib.hid hst
                      have HSET := Lib.hid hset
                      obtain ⟨q, hq⟩ : ∃ q, q = n - (i + k) := ⟨_, rfl⟩
                      rw [← hq] at hcr
                      have hq2 : q + (i + k) ≤ n ∧ n ≤ q + (i + k) := by omega
                      obtain ⟨s, hs⟩ : ∃ s, s = stS n (co2 xss) (co2 yss) i j (i + k) (j + l) % m := ⟨_, rfl⟩
                      rw [← hs] at hd0 hsb HST
                      clear hset hst hu4 hy hq hs
                      have hxy1 : 0 ≤ x * y % m := Int.emod_nonneg _ (by omega)
                      have hxy2 : x * y % m < m := Int.emod_lt_of_pos _ (by omega)
                      have hl0 : (0 : Int) ≤ (l : Int) := by omega
                      have hl1 : (l : Int) < (r : Int) := by omega
                      have v1 : IntKind.i64.wrap ((i : Int) + (k : Int)) = (i : Int) + (k : Int) := IntWalk.i64_in _ (by omega)
                      have v2 : IntKind.i64.wrap ((j : Int) + (l : Int)) = (j : Int) + (l : Int) := IntWalk.i64_in _ (by omega)
                      have v3 : IntKind.i64.wrap (s + x * y % m) = s + x * y % m := IntWalk.i64_in _ (by omega)
                      have v4 : (s + x * y % m).tmod m = (s + x * y % m) % m := Int.tmod_eq_emod_of_nonneg (by omega)
                      have v5 : (0 : Int) ≤ (i : Int) + (k : Int) := by omega
                      have v6 : (i : Int) + (k : Int) < (n : Int) := by omega
                      have v7 : ((i : Int) + (k : Int)).toNat = i + k := by omega
                      have v8 : (0 : Int) ≤ (j : Int) + (l : Int) := by omega
                      have v9 : (j : Int) + (l : Int) < (q : Int) := by omega
                      have v10 : ((j : Int) + (l : Int)).toNat = j + l := by omega
                      have v11 : (m == 0) = false := by simp; omega
                      have v12 : ¬ m = 0 := by omega
                      go_wp2
                      go_still_tail 32, (by kernel_rfl)
                      still_call ((mul_any m x y _ (by omega) (by omega) hxb.1 hxb.2 hyb.1 hyb.2).mono fun e w' h => ⟨h.1, h.2.symm⟩)
                      repeat still_step
                      refine wpStill_nil ?_
                      change wpList _ _ _ _ _ wr.drew
                      clear v1 v2 v3 v4 v5 v7 v8 v10
                      go_wp2
                      go_roundw
                      case rel =>
                        refine ⟨l + 1, by omega, by go_num, HO.out.setCell (by simp; omega) _, ?_, HP.out.setCell (by simp; omega) _, HP2.out.setCell (by simp; omega) _, HQR.out.setCell (by simp; omega) _, (below_drew HB.out).setCell (by simp; omega) _⟩
                        unfold Hid
                        rw [← HST.out]
                        exact HSET.out _
                      case measure => simp [intOf]; omega
                    · have hlr : l = r := by omega
                      have hs := HR.out
                      rw [hlr, tP_endl m n (co2 xss) (co2 yss) i j k r HRR.out] at hs
                      have HR' := Lib.hid hs
                      clear hs hlr
                      go_wp2
                      go_roundw
                      case rel => exact ⟨k + 1, by omega, by go_num, HO, HR', HP, HP2, HQR, HB⟩
                      case measure => simp [intOf]; omega
                · have hkn : i + j + k = n := by omega
                  have hs := HR.out
                  rw [tP_endk m n (co2 xss) (co2 yss) i j k hkn] at hs
                  have HR' := Lib.hid hs
                  have hd6 : decide ((i : Int) + (j : Int) + (k : Int) ≤ (n : Int) - 1) = false := by simp; omega
                  clear hs hkn
                  go_wp2
                  go_roundw
                  case rel => exact ⟨j + 1, by omega, by go_num, HO, HR', HP, HP2, HQR, HB⟩
                  case measure => simp [intOf]; omega
          · have hjr : j = ri := by omega
            have hs := HR.out
            rw [hjr, tP_endj m n (co2 xss) (co2 yss) i ri HRI.out] at hs
            have HR' := Lib.hid hs
            clear hs hjr
            go_wp2
            go_roundw
            case rel => exact ⟨i + 1, by omega, by go_num, HO, HR', HP, HP2, HQR, HB⟩
            case measure => simp [intOf]; omega
      · obtain rfl : i = n := by omega
        have hs := HR.out
        rw [tP_all, HZ.out] at hs
        have hd6 : decide ((i : Int) < (i : Int)) = false := by simp
        have o1 := HO.out.1.2.1
        have o2 := HO.out.1.2.2
        have q1 := HQR.out.1.2.1
        have q2 := HQR.out.1.2.2
        have q3 := HQR.out.2.1
        have q4 := HQR.out.2.2
        go_wp2
        refine bodyPost_ret (v := .agg #[.int .i64 m, .slice (some ⟨g, 0, none⟩) i c']) (by simp [results, Try.results66, go_sem, q1, q2]) rfl ⟨some ⟨g, 0, none⟩, c', by rw [HZL.out], ?_, ?_⟩
        · rw [HZL.out]
          have h9 := OwnP.mono (lo' := w.heap.size) (hs.hi_le.far2 (b := w.heap.size + 2) (x := .int .i64 m) (y := .slice (some ⟨g, 0, none⟩) i c') (.inl (by omega))) (by omega) (Nat.le_refl _)
          simpa [World.setCell] using h9
        · exact (HB.out.setCell (by simp; omega) _).setCell (by simp; omega) _

/-! ### MultiplicativeLaw -/
theorem sumN_single {f : Nat → Int} {n k : Nat} (hk : k < n) (h : ∀ j, j < n → j ≠ k → f j = 0) : sumN f n = f k := by
  induction n with
  | zero => omega
  | succ n ih =>
    simp only [sumN]
    by_cases hkn : k = n
    · subst hkn
      rw [sumN_congr (g := fun _ => 0) fun j hj => h j (by omega) (by omega), sumN_zero, Int.zero_add]
    · rw [ih (by omega) fun j hj hne => h j (by omega) hne, h n (by omega) (by omega), Int.add_zero]
theorem sumN_none {f : Nat → Int} {n : Nat} (h : ∀ j, j < n → f j = 0) : sumN f n = 0 := by
  rw [sumN_congr (g := fun _ => 0) h, sumN_zero]
/-- A product with a first factor that has one number alone. -/
theorem allS_single {n : Nat} {f g : Nat → Nat → Int} {p q a b : Nat} (hab : a + b < n) (hpq : p + q < n) (h : ∀ i j, i + j < n → ¬ (i = p ∧ j = q) → f i j = 0) : allS n f g n a b = if p ≤ a ∧ q ≤ b then f p q * g (a - p) (b - q) else 0 := by
  unfold allS
  rw [sumN_single (k := p) (by omega)]
  · unfold rowS
    rw [sumN_single (k := q) (by omega)]
    · rfl
    · intro j hj hne
      unfold fT
      split
      · rw [h p j (by omega) (by omega), Int.zero_mul]
      · rfl
  · intro i hi hne
    unfold rowS
    apply sumN_none
    intro j hj
    unfold fT
    split
    · rw [h i j (by omega) (by omega), Int.zero_mul]
    · rfl
theorem xy_prod (m : Int) (n : Nat) (hm : 2 ≤ m) (hn : 2 ≤ n) : tab n (tmF m n (co2 (tab n (axF (varL n) 0))) (co2 (tab n (axF (varL n) 1)))) = tab n fun i j => if i = 1 ∧ j = 1 then 1 else 0 := tab_congr fun a b hab => by
  unfold tmF
  rw [allS_single (p := 1) (q := 0) hab (by omega) fun i j hij hne => by rw [co2_tab _ hij, axF_var n 0 i j hij, if_pos rfl, if_neg hne]]
  rw [co2_tab _ (by omega), axF_var n 0 1 0 (by omega)]
  have e1 : (1 : Int) % m = 1 := Int.emod_eq_of_lt (by omega) (by omega)
  by_cases h1 : 1 ≤ a ∧ 0 ≤ b
  · rw [if_pos h1, co2_tab _ (by omega), axF_var n 1 _ _ (by omega)]
    by_cases h2 : a = 1
    · subst h2
      by_cases h3 : b = 1 <;> simp [h3, e1]
    · have h4 : ¬ a - 1 = 0 := by omega
      simp [h2, h4]
  · rw [if_neg h1]
    have h2 : ¬ a = 1 := by omega
    simp [h2]
def MultiplicativeLawR (m d c0 : Int) : (Int × List (List Int)) × Int := if stdB m d [c0] = false then ((0, []), 2) else ((m, tab (d + 1).toNat (mulF m c0)), 0)
theorem MultiplicativeLawR_len (m d c0 : Int) : cntP (MultiplicativeLawR m d c0).1.2 ≤ 200 := by
  unfold MultiplicativeLawR
  cases h : stdB m d [c0]
  · simp [cntP]
  · have := stdB_true h
    exact cntP_tab_100 _ (by omega)
theorem mul_join (m c0 : Int) (n : Nat) (hm : 2 ≤ m) : (tab n fun i j => (co2 (tab n fun i j => if (i = 1 ∧ j = 0) ∨ (i = 0 ∧ j = 1) then (1 : Int) else 0) i j + co2 (tab n fun i j => c0 % m * co2 (tab n fun i j => if i = 1 ∧ j = 1 then (1 : Int) else 0) i j % m) i j) % m) = tab n (mulF m c0) := tab_congr fun i j hij => by
  rw [co2_tab _ hij, co2_tab _ hij, co2_tab _ hij]
  have e1 : (1 : Int) % m = 1 := Int.emod_eq_of_lt (by omega) (by omega)
  unfold mulF
  by_cases h1 : i = 1
  · subst h1
    by_cases h2 : j = 1
    · subst h2; simp
    · by_cases h3 : j = 0 <;> simp [h2, h3, e1]
  · by_cases h4 : i = 0
    · subst h4
      by_cases h2 : j = 1 <;> simp [h2, e1]
    · simp [h1, h4]
theorem tmF_num2 {m : Int} (hm : 0 < m) (n : Nat) (f g : Nat → Nat → Int) : Num2 m (tab n (tmF m n f g)) := Num2.tab hm n _ fun i j => tmF_bd hm n f g i j
theorem mod_num2 {m : Int} (hm : 0 < m) (n : Nat) (f : Nat → Nat → Int) : Num2 m (tab n fun i j => f i j % m) := Num2.tab hm n _ fun i j => ⟨Int.emod_nonneg _ (by omega), Int.emod_lt_of_pos _ hm⟩

/-! ### Powers of a single term and the law of the tangent: the plain law -/
theorem allS_single2 {n : Nat} {f g : Nat → Nat → Int} {p q a b : Nat} (hab : a + b < n) (h : ∀ i j, i + j < n → ¬ (i = p ∧ j = q) → g i j = 0) : allS n f g n a b = if p ≤ a ∧ q ≤ b then f (a - p) (b - q) * g p q else 0 := by
  unfold allS
  by_cases h1 : p ≤ a ∧ q ≤ b
  · rw [if_pos h1, sumN_single (k := a - p) (by omega)]
    · unfold rowS
      rw [sumN_single (k := b - q) (by omega)]
      · unfold fT
        rw [if_pos (by omega), show a - (a - p) = p by omega, show b - (b - q) = q by omega]
      · intro j hj hne
        unfold fT
        split
        · rw [h _ _ (by omega) (by omega), Int.mul_zero]
        · rfl
    · intro i hi hne
      unfold rowS
      apply sumN_none
      intro j hj
      unfold fT
      split
      · rw [h _ _ (by omega) (by omega), Int.mul_zero]
      · rfl
  · rw [if_neg h1]
    apply sumN_none
    intro i hi
    unfold rowS
    apply sumN_none
    intro j hj
    unfold fT
    split
    · rw [h _ _ (by omega) (by omega), Int.mul_zero]
    · rfl
theorem sumN_add (f g : Nat → Int) (n : Nat) : sumN (fun i => f i + g i) n = sumN f n + sumN g n := by
  induction n with
  | zero => simp [sumN]
  | succ n ih => simp only [sumN]; rw [ih]; omega
theorem allS_add (n : Nat) (f f' g : Nat → Nat → Int) (I a b : Nat) : allS n (fun i j => f i j + f' i j) g I a b = allS n f g I a b + allS n f' g I a b := by
  unfold allS
  rw [← sumN_add]
  apply sumN_congr
  intro i _
  unfold rowS
  rw [← sumN_add]
  apply sumN_congr
  intro j _
  unfold fT
  split
  · rw [Int.add_mul]
  · rfl
theorem allS_congr {n : Nat} {f f' g g' : Nat → Nat → Int} {a b : Nat} (hab : a + b < n) (hf : ∀ i j, i + j < n → f i j = f' i j) (hg : ∀ i j, i + j < n → g i j = g' i j) : allS n f g n a b = allS n f' g' n a b := by
  unfold allS
  apply sumN_congr
  intro i hi
  unfold rowS
  apply sumN_congr
  intro j hj
  unfold fT
  split
  · rw [hf i j (by omega), hg _ _ (by omega)]
  · rfl
/-- The powers of a number. -/
def gp (m r : Int) : Nat → Int
  | 0 => 1 % m
  | k + 1 => gp m r k * r % m
theorem gp_bd {m : Int} (hm : 0 < m) (r : Int) (k : Nat) : 0 ≤ gp m r k ∧ gp m r k < m := by
  cases k <;> exact ⟨Int.emod_nonneg _ (by omega), Int.emod_lt_of_pos _ hm⟩
theorem gp_congr {m r s : Int} (h : r % m = s % m) (k : Nat) : gp m r k = gp m s k := by
  induction k with
  | zero => rfl
  | succ k ih => simp only [gp]; rw [ih, Int.mul_emod, h, ← Int.mul_emod]
def numF (m c : Int) (i j : Nat) : Int := if i = 0 ∧ j = 0 then c % m else 0
def sing (q : Nat) (r : Int) (i j : Nat) : Int := if i = q ∧ j = q then r else 0
/-- The sum of the powers up to k of r times the term at (q, q). -/
def geoF (m r : Int) (q k i j : Nat) : Int := if i = j ∧ i % q = 0 ∧ i / q ≤ k then gp m r (i / q) else 0
theorem geoF_bd {m : Int} (hm : 0 < m) (r : Int) (q k i j : Nat) : 0 ≤ geoF m r q k i j ∧ geoF m r q k i j < m := by
  unfold geoF
  split
  · exact gp_bd hm r _
  · omega
theorem geo_zero (m r : Int) (q n : Nat) : tab n (numF m 1) = tab n (geoF m r q 0) := tab_congr fun i j _ => by
  unfold numF geoF
  by_cases h : i = 0 ∧ j = 0
  · obtain ⟨rfl, rfl⟩ := h
    simp [gp]
  · rw [if_neg h, if_neg]
    rintro ⟨rfl, h1, h2⟩
    have := Nat.div_add_mod i q
    have h3 : i / q = 0 := Nat.le_zero.1 h2
    rw [h1, h3] at this
    simp at this
    omega
theorem geo_step (m r : Int) (q n k : Nat) (hq : 1 ≤ q) : (tab n fun i j => (co2 (tab n (tmF m n (co2 (tab n (geoF m r q k))) (co2 (tab n (sing q r))))) i j + co2 (tab n (numF m 1)) i j) % m) = tab n (geoF m r q (k + 1)) := tab_congr fun a b hab => by
  rw [co2_tab _ hab, co2_tab _ hab]
  unfold tmF
  rw [allS_single2 (p := q) (q := q) hab fun i j hij hne => by rw [co2_tab _ hij]; unfold sing; rw [if_neg hne]]
  by_cases h : q ≤ a ∧ q ≤ b
  · rw [if_pos h, co2_tab _ (by omega), co2_tab _ (by omega)]
    have e1 : sing q r q q = r := by simp [sing]
    have e2 : numF m 1 a b = 0 := by unfold numF; rw [if_neg (by omega)]
    obtain ⟨c, rfl⟩ : ∃ c, a = c + q := ⟨a - q, by omega⟩
    have e3 : (c + q) % q = c % q := Nat.add_mod_right _ _
    have e4 : (c + q) / q = c / q + 1 := Nat.add_div_right _ (by omega)
    rw [e1, e2, Int.add_zero, Int.emod_emod, Nat.add_sub_cancel]
    unfold geoF
    rw [e3, e4]
    by_cases h2 : c = b - q ∧ c % q = 0 ∧ c / q ≤ k
    · rw [if_pos h2, if_pos (by omega)]
      rfl
    · rw [if_neg h2, if_neg (by omega), Int.zero_mul, Int.zero_emod]
  · rw [if_neg h, Int.zero_emod, Int.zero_add]
    unfold numF geoF
    by_cases h2 : a = 0 ∧ b = 0
    · obtain ⟨rfl, rfl⟩ := h2
      simp [gp]
    · rw [if_neg h2, Int.zero_emod, if_neg]
      rintro ⟨rfl, h3, h4⟩
      have h5 : a % q = a := Nat.mod_eq_of_lt (by omega)
      omega
/-- Coefficient (i, j) of the law of the tangent. -/
def tanF (m r : Int) (i j : Nat) : Int := if i = j + 1 then gp m r j else if j = i + 1 then gp m r i else 0
theorem tan_join (m r : Int) (n : Nat) (hm : 0 < m) : tab n (tmF m n (co2 (tab n fun i j => if (i = 1 ∧ j = 0) ∨ (i = 0 ∧ j = 1) then (1 : Int) else 0)) (co2 (tab n (geoF m r 1 (n - 1))))) = tab n (tanF m r) := tab_congr fun a b hab => by
  unfold tmF
  rw [allS_congr (f' := fun i j => (if i = 1 ∧ j = 0 then (1 : Int) else 0) + (if i = 0 ∧ j = 1 then (1 : Int) else 0)) (g' := geoF m r 1 (n - 1)) hab (fun i j hij => by
    rw [co2_tab _ hij]
    by_cases h1 : i = 1 ∧ j = 0
    · obtain ⟨rfl, rfl⟩ := h1; simp
    · by_cases h2 : i = 0 ∧ j = 1
      · obtain ⟨rfl, rfl⟩ := h2; simp
      · rw [if_neg (by omega), if_neg h1, if_neg h2]; rfl) (fun i j hij => co2_tab _ hij)]
  rw [allS_add]
  have g1 : ∀ i j, i + j < n → geoF m r 1 (n - 1) i j = if i = j then gp m r i else 0 := by
    intro i j hij
    unfold geoF
    rw [Nat.div_one, Nat.mod_one]
    by_cases h : i = j
    · rw [if_pos ⟨h, rfl, by omega⟩, if_pos h]
    · rw [if_neg (by simp [h]), if_neg h]
  unfold tanF
  by_cases hn : 2 ≤ n
  · rw [allS_single (p := 1) (q := 0) hab (by omega) fun i j _ hne => if_neg hne, allS_single (p := 0) (q := 1) hab (by omega) fun i j _ hne => if_neg hne]
    have u1 : (if (1 : Nat) = 1 ∧ (0 : Nat) = 0 then (1 : Int) else 0) = 1 := by simp
    have u2 : (if (0 : Nat) = 0 ∧ (1 : Nat) = 1 then (1 : Int) else 0) = 1 := by simp
    rw [u1, u2, Int.one_mul, Int.one_mul]
    by_cases h1 : a = b + 1
    · subst h1
      rw [if_pos (by omega), g1 _ _ (by omega), if_pos (by omega), if_pos rfl]
      have e : (if 0 ≤ b + 1 ∧ 1 ≤ b then geoF m r 1 (n - 1) (b + 1 - 0) (b - 1) else 0) = 0 := by
        split
        · rw [g1 _ _ (by omega), if_neg (by omega)]
        · rfl
      rw [e, Int.add_zero, Nat.add_sub_cancel]
      exact Int.emod_eq_of_lt (gp_bd hm r b).1 (gp_bd hm r b).2
    · rw [if_neg h1]
      have e : (if 1 ≤ a ∧ 0 ≤ b then geoF m r 1 (n - 1) (a - 1) (b - 0) else 0) = 0 := by
        split
        · rw [g1 _ _ (by omega), if_neg (by omega)]
        · rfl
      rw [e, Int.zero_add]
      by_cases h2 : b = a + 1
      · subst h2
        rw [if_pos (by omega), if_pos rfl, g1 _ _ (by omega), if_pos (by omega)]
        exact Int.emod_eq_of_lt (gp_bd hm r _).1 (gp_bd hm r _).2
      · rw [if_neg h2]
        have e2 : (if 0 ≤ a ∧ 1 ≤ b then geoF m r 1 (n - 1) (a - 0) (b - 1) else 0) = 0 := by
          split
          · rw [g1 _ _ (by omega), if_neg (by omega)]
          · rfl
        rw [e2, Int.zero_emod]
  · have ha : a = 0 := by omega
    have hb : b = 0 := by omega
    subst ha hb
    have e : ∀ f : Nat → Nat → Int, f 0 0 = 0 → allS n f (geoF m r 1 (n - 1)) n 0 0 = 0 := by
      intro f hf
      unfold allS
      apply sumN_none
      intro i hi
      unfold rowS
      apply sumN_none
      intro j hj
      unfold fT
      have hi0 : i = 0 := by omega
      have hj0 : j = 0 := by omega
      subst hi0 hj0
      rw [hf, Int.zero_mul]
      split <;> rfl
    rw [e _ (by simp), e _ (by simp)]
    simp
/-- The law of the tangent as the reference fills it in. -/
def tanTo (m r : Int) (k i j : Nat) : Int := if i = j + 1 ∧ j < k then gp m r j else if j = i + 1 ∧ i < k then gp m r i else 0
theorem tanTo_zero (m r : Int) (n : Nat) : (tab n fun _ _ => 0) = tab n (tanTo m r 0) := tab_congr fun i j _ => by simp [tanTo]
theorem tanTo_step (m r : Int) (n k : Nat) : tab n (upd2 (upd2 (tanTo m r k) (k + 1) k (gp m r k)) k (k + 1) (gp m r k)) = tab n (tanTo m r (k + 1)) := tab_congr fun i j _ => by
  unfold upd2 tanTo
  by_cases h1 : i = k ∧ j = k + 1
  · obtain ⟨rfl, rfl⟩ := h1
    rw [if_pos ⟨rfl, rfl⟩, if_neg (by omega), if_pos (by omega)]
  · rw [if_neg h1]
    by_cases h2 : i = k + 1 ∧ j = k
    · obtain ⟨rfl, rfl⟩ := h2
      rw [if_pos ⟨rfl, rfl⟩, if_pos (by omega)]
    · rw [if_neg h2]
      by_cases h3 : i = j + 1 ∧ j < k
      · rw [if_pos h3, if_pos (by omega)]
      · have h3' : ¬ (i = j + 1 ∧ j < k + 1) := by omega
        rw [if_neg h3, if_neg h3']
        by_cases h4 : j = i + 1 ∧ i < k
        · have h4' : j = i + 1 ∧ i < k + 1 := by omega
          rw [if_pos h4, if_pos h4']
        · have h4' : ¬ (j = i + 1 ∧ i < k + 1) := by omega
          rw [if_neg h4, if_neg h4']
theorem tanTo_all (m r : Int) (n k : Nat) (h : n < 2 * k + 2) : tab n (tanTo m r k) = tab n (tanF m r) := tab_congr fun i j hij => by
  unfold tanTo tanF
  by_cases h3 : i = j + 1
  · rw [if_pos ⟨h3, by omega⟩, if_pos h3]
  · rw [if_neg (by omega), if_neg h3]
    by_cases h4 : j = i + 1
    · rw [if_pos ⟨h4, by omega⟩, if_pos h4]
    · rw [if_neg (by omega), if_neg h4]
theorem tan_rest (m c : Int) (n : Nat) (hm : 2 ≤ m) (XY : List (List Int)) (hXY : XY = tab n fun i j => if i = 1 ∧ j = 1 then 1 else 0) (q : Nat → Nat → Int) (hq : ∀ i j, i + j < n → q i j = (co2 (tab n (numF m 1)) i j + co2 (tab n fun i j => c % m * co2 XY i j % m) i j) % m) :
    (tab n fun i j => (co2 (tab n (numF m 1)) i j - co2 (tab n q) i j) % m) = tab n (sing 1 ((m - c) % m)) := tab_congr fun i j hij => by
  subst hXY
  rw [co2_tab _ hij, co2_tab _ hij, hq i j hij, co2_tab _ hij, co2_tab _ hij, co2_tab _ hij]
  unfold numF sing
  have e1 : (1 : Int) % m = 1 := Int.emod_eq_of_lt (by omega) (by omega)
  by_cases h1 : i = 1 ∧ j = 1
  · obtain ⟨rfl, rfl⟩ := h1
    rw [if_neg (by omega), if_pos ⟨rfl, rfl⟩, if_pos ⟨rfl, rfl⟩, Int.mul_one, Int.zero_add, Int.emod_emod, Int.emod_emod, Int.zero_sub]
    rw [Int.emod_def c m, show -(c - m * (c / m)) = (m - c) + m * (c / m - 1) by rw [Int.mul_sub]; omega, Int.add_mul_emod_self_left]
  · rw [if_neg h1, if_neg h1, Int.mul_zero, Int.zero_emod, Int.add_zero]
    by_cases h0 : i = 0 ∧ j = 0
    · rw [if_pos h0, e1, e1, Int.sub_self, Int.zero_emod]
    · rw [if_neg h0, Int.zero_emod, Int.sub_self, Int.zero_emod]

/-! ### Differences, numbers as planes, inverses -/
theorem minus1_pred (w : World) (b b2 : Nat) (m : Int) (A A2 : Option Addr) (n c c2 lo hi lo2 hi2 : Nat) (xss yss : List (List Int)) (hb : w.cell? ⟨b, 1, none⟩ = some (.slice A n c)) (hb' : b < w.heap.size) (hb2 : w.cell? ⟨b2, 1, none⟩ = some (.slice A2 n c2)) (hb2' : b2 < w.heap.size)
    (hv : OwnP w lo hi (.slice A n c) xss) (ht : Tri n xss) (hq : Num2 m xss) (hv2 : OwnP w lo2 hi2 (.slice A2 n c2) yss) (ht2 : Tri n yss) (hq2 : Num2 m yss) (hm : m ≤ 3000000000) :
    Pred2 w 149 #[.pointer (some ⟨b, 0, none⟩), .pointer (some ⟨b2, 0, none⟩)] n (fun i j => co2 xss i j - co2 yss i j) := by
  refine ⟨Try.call149, fun W i j hW hij => ?_⟩
  have hc := (hW.cell (p := ⟨b, 1, none⟩) hb').trans hb
  have hc2 := (hW.cell (p := ⟨b2, 1, none⟩) hb2').trans hb2
  obtain ⟨g, gr, cr, rfl, h1, h2, h3, h4, -⟩ := hv.at2 (i := i) (j := j) (by rw [ht.1]; omega) (by rw [ht.2 i (by omega)]; omega)
  obtain ⟨g2, gr2, cr2, rfl, k1, k2, k3, k4, -⟩ := hv2.at2 (i := i) (j := j) (by rw [ht2.1]; omega) (by rw [ht2.2 i (by omega)]; omega)
  have h2' := (hW.cell (p := ⟨g, i, none⟩) h1).trans h2
  have h4' := (hW.cell (p := ⟨gr, j, none⟩) h3).trans h4
  have k2' := (hW.cell (p := ⟨g2, i, none⟩) k1).trans k2
  have k4' := (hW.cell (p := ⟨gr2, j, none⟩) k3).trans k4
  rw [ht.2 i (by omega)] at h2'
  rw [ht2.2 i (by omega)] at k2'
  obtain ⟨r, hr⟩ : ∃ r, r = n - i := ⟨_, rfl⟩
  rw [← hr] at h2' k2'
  have hx0 := hq i j
  have hy0 := hq2 i j
  obtain ⟨x, hx⟩ : ∃ x, x = co2 xss i j := ⟨_, rfl⟩
  obtain ⟨y, hy⟩ : ∃ y, y = co2 yss i j := ⟨_, rfl⟩
  rw [← hx] at h4' hx0
  rw [← hy] at k4' hy0
  have HX : Hid (co2 xss i j - co2 yss i j = x - y) := by rw [hx, hy]; exact rfl
  have hj0 : (0 : Int) ≤ (j : Int) := by omega
  have hj1 : (j : Int) < (r : Int) := by omega
  have hi0 : (0 : Int) ≤ (i : Int) := by omega
  have hi1 : (i : Int) < (n : Int) := by omega
  have hi2 : i < n := by omega
  have hj2 : j < r := by omega
  have v1 : IntKind.i64.wrap (x - y) = x - y := IntWalk.i64_in _ (by omega)
  clear hW hb hb2 h2 h4 k2 k4 hr hv ht hv2 ht2 hx hy hq hq2
  go_enter Try.func149, Try.ntmps149
  go_wp2
  go_quiet (fail)
  go_wp2
  go_ret
  exact ⟨by show _ = Ending.returned (.int .i64 (co2 xss i j - co2 yss i j)); rw [HX.out]; rfl, nq, rfl⟩
set_option maxHeartbeats 1000000 in
theorem pMinus_any (w : World) (m : Int) (v v2 : Value) (xss yss zss : List (List Int)) (n : Nat) (lo hi lo2 hi2 : Nat) (hv : OwnP w lo hi v xss) (ht : Tri n xss) (hq : Num2 m xss) (hv2 : OwnP w lo2 hi2 v2 yss) (ht2 : Tri n yss) (hq2 : Num2 m yss) (hm : 2 ≤ m) (hm' : m ≤ 3000000000) (hn1 : 1 ≤ n) (hn : n ≤ 1000) (hz : (tab n fun i j => (co2 xss i j - co2 yss i j) % m) = zss) :
    Calls Try.prog 88 #[.agg #[.int .i64 m, v], .agg #[.int .i64 m, v2]] w (NewPl w m zss) := by
  obtain ⟨A, cp, rfl, -, -⟩ := hv.form
  obtain ⟨A2, cp2, rfl, -, -⟩ := hv2.form
  rw [ht.1] at hv
  rw [ht2.1] at hv2
  have HXL : Hid (xss.length = n) := ht.1
  have HYL : Hid (yss.length = n) := ht2.1
  have HZ := Lib.hid hz
  have HT := Lib.hid ht
  have HT2 := Lib.hid ht2
  have HQ := Lib.hid hq
  have HQ2 := Lib.hid hq2
  have HV : Hid (OwnP (((w.alloc (.cells #[.int .i64 m, .slice A n cp] 24)).alloc (.cells #[.int .i64 m, .slice A2 n cp2] 24)).alloc (.cells #[.int .i64 0, .slice none 0 0] 24)) lo hi (.slice A n cp) xss) := ((hv.alloc _).alloc _).alloc _
  have HV2 : Hid (OwnP (((w.alloc (.cells #[.int .i64 m, .slice A n cp] 24)).alloc (.cells #[.int .i64 m, .slice A2 n cp2] 24)).alloc (.cells #[.int .i64 0, .slice none 0 0] 24)) lo2 hi2 (.slice A2 n cp2) yss) := ((hv2.alloc _).alloc _).alloc _
  have HZL : Hid (zss.length = n) := by unfold Hid; rw [← hz, length_tab]
  clear hz ht ht2 hq hq2 hv hv2
  go_enter Try.func88, Try.ntmps88
  rw [HXL.out, HYL.out]
  go_wp2_with fail
  have B1 : Bf (((w.alloc (.cells #[.int .i64 m, .slice A n cp] 24)).alloc (.cells #[.int .i64 m, .slice A2 n cp2] 24)).alloc (.cells #[.int .i64 0, .slice none 0 0] 24)) w.heap.size (.int .i64 m) (.slice A n cp) := ((Bf.alloc1 w _ _ _).alloc _).alloc _
  have B2 : Bf (((w.alloc (.cells #[.int .i64 m, .slice A n cp] 24)).alloc (.cells #[.int .i64 m, .slice A2 n cp2] 24)).alloc (.cells #[.int .i64 0, .slice none 0 0] 24)) (w.heap.size + 1) (.int .i64 m) (.slice A2 n cp2) := Bf.q2.alloc _
  refine (mapped_any _ m _ xss n lo hi HV.out HXL.out hm (by omega) hn1 hn _ _ _ (minus1_pred _ w.heap.size (w.heap.size + 1) m A A2 n cp cp2 lo hi lo2 hi2 xss yss B1.1.2.2 B1.1.1 B2.1.2.2 B2.1.1 HV.out HT.out HQ.out HV2.out HT2.out HQ2.out hm') zss HZ.out).mono ?_
  rintro e w1 ⟨A1, c1, rfl, o1, hb1⟩
  rw [HZL.out] at o1 ⊢
  have Q1 : Bf w1 (w.heap.size + 2) (.int .i64 0) (.slice none 0 0) := Bf.q3.keep hb1
  have K1 : Below w.heap.size w w1 := Below.trans (by (repeat (first | assumption | exact Below.refl _ _ | refine Below.alloc ?_ (by first | omega | (simp; done) | (simp; omega)) _ | refine Below.setCell ?_ (by first | omega | (simp; done) | (simp; omega)) _ | refine below_drewN ?_ _))) (hb1.mono (by simp; omega))
  have q1a := Q1.1.2.1
  have q1b := Q1.1.2.2
  have q1c := Q1.2.1
  have q1d := Q1.2.2
  go_wp2
  refine bodyPost_ret (v := .agg #[.int .i64 m, .slice A1 n c1]) (by simp [results, Try.results88, go_sem, q1a, q1b]) rfl ⟨A1, c1, by rw [HZL.out], ?_, ?_⟩
  · rw [HZL.out]
    have h9 := OwnP.mono (lo' := w.heap.size) (o1.far2 (b := w.heap.size + 2) (x := .int .i64 m) (y := .slice A1 n c1) (.inl (by first | (simp; done) | (simp; omega)))) (by first | (simp; done) | (simp; omega)) (Nat.le_refl _)
    simpa [World.setCell] using h9
  · exact (K1.setCell (by simp; omega) _).setCell (by simp; omega) _

theorem num_upd (m c0 : Int) (n : Nat) : tab n (upd2 (fun _ _ => 0) 0 0 (c0 % m)) = tab n (numF m c0) := tab_congr fun i j _ => by
  unfold upd2 numF
  rfl
set_option maxRecDepth 8000 in
set_option maxHeartbeats 4000000 in
theorem number_any (w : World) (m : Int) (v : Value) (xss zss : List (List Int)) (c0 : Int) (n : Nat) (lo0 hi0 : Nat) (hv : OwnP w lo0 hi0 v xss) (hx : xss.length = n) (hm : 2 ≤ m) (hm' : m ≤ 3000000000) (hn1 : 1 ≤ n) (hn : n ≤ 1000) (hz : tab n (numF m c0) = zss) :
    Calls Try.prog 67 #[.agg #[.int .i64 m, v], .int .i64 c0] w (NewPl w m zss) := by
  obtain ⟨A, cp, e0, -, -⟩ := hv.form
  rw [hx] at e0
  subst e0
  have HZ := Lib.hid hz
  have HZL : Hid (zss.length = n) := by unfold Hid; rw [← hz, length_tab]
  clear hz hv hx
  go_enter Try.func67, Try.ntmps67
  go_upto_region 1 with fail
  go_cut [5] from 6 to 11 (fun s wx => ∃ (bo : Nat) (A' : Option Addr) (c' : Nat), s = .pointer (some ⟨bo, 0, none⟩) ∧ w.heap.size + 2 ≤ bo ∧ bo < wx.heap.size ∧ Hid (Bf wx bo (.int .i64 m) (.slice A' n c')) ∧ Hid (OwnPx wx (w.heap.size + 2) bo (.slice A' n c') (tab n fun _ _ => 0)) ∧ Hid (Bf wx w.heap.size (.int .i64 m) (.slice A n cp)) ∧ Hid (Bf wx (w.heap.size + 1) (.int .i64 0) (.slice none 0 0)) ∧ Hid (Below w.heap.size w wx))
  case first =>
    go_region_held3 (fun w' => w'.cell? ⟨w.heap.size, 0, none⟩ = some (.int .i64 m) ∧ w'.cell? ⟨w.heap.size, 1, none⟩ = some (.slice A n cp))
      (first | exact ⟨p2a, p2b⟩ | exact ⟨p1a, p1b⟩ | go_keep | (refine (fun (h : Bf _ w.heap.size (.int .i64 m) (.slice A n cp)) => ⟨h.1.2.1, h.1.2.2⟩) ((Bf.alloc1 w _ _ 24).keep ?_); (repeat (first | assumption | exact Below.refl _ _ | (refine Below.alloc ?_ ?_ _; rotate_left; (focus (first | exact Nat.le_refl _ | omega | (simp; done) | (simp; omega)))) | (refine Below.setCell ?_ ?_ _; rotate_left; (focus (first | exact Nat.le_refl _ | omega | (simp; done) | (simp; omega)))) | refine below_drew ?_ | refine below_drewN ?_ _ | (refine Below.trans ?_ (Below.mono hb2 ?_); rotate_left; (focus (first | exact Nat.le_refl _ | omega | (simp; done) | (simp; omega)))) | (refine Below.trans ?_ (Below.mono hb1 ?_); rotate_left; (focus (first | exact Nat.le_refl _ | omega | (simp; done) | (simp; omega))))))))
      (first | (go_at_call 132; refine (pDegree_any m A n cp _ (by omega)).mono ?_; rintro e w1 ⟨rfl, hb1⟩; have P1 : Bf w1 w.heap.size (.int .i64 m) (.slice A n cp) := ((Bf.alloc1 w _ _ 24).keep (by (repeat (first | assumption | exact Below.refl _ _ | (refine Below.alloc ?_ ?_ _; rotate_left; (focus (first | exact Nat.le_refl _ | omega | (simp; done) | (simp; omega)))) | (refine Below.setCell ?_ ?_ _; rotate_left; (focus (first | exact Nat.le_refl _ | omega | (simp; done) | (simp; omega)))) | refine below_drew ?_ | refine below_drewN ?_ _ | (refine Below.trans ?_ (Below.mono hb1 ?_); rotate_left; (focus (first | exact Nat.le_refl _ | omega | (simp; done) | (simp; omega)))))))); have p1a := P1.1.2.1; have p1b := P1.1.2.2; obtain ⟨hc1, hf1⟩ := bcell hb1; have z1 := hb1.size; (try simp at z1); have z1p : w.heap.size < w1.heap.size := (by omega); (first | (have y1 : w.heap.size + 2 < w1.heap.size := (by omega)) | skip)) | (go_at_call 131; refine (emptyPlane_any _ m _ n (by omega) (by omega)).mono ?_; rintro e w2 ⟨A9, c9, rfl, hr2, hb2⟩; rw [length_tab] at hr2 ⊢; have P2 : Bf w2 w.heap.size (.int .i64 m) (.slice A n cp) := ((Bf.alloc1 w _ _ 24).keep (by (repeat (first | assumption | exact Below.refl _ _ | (refine Below.alloc ?_ ?_ _; rotate_left; (focus (first | exact Nat.le_refl _ | omega | (simp; done) | (simp; omega)))) | (refine Below.setCell ?_ ?_ _; rotate_left; (focus (first | exact Nat.le_refl _ | omega | (simp; done) | (simp; omega)))) | refine below_drew ?_ | refine below_drewN ?_ _ | (refine Below.trans ?_ (Below.mono hb2 ?_); rotate_left; (focus (first | exact Nat.le_refl _ | omega | (simp; done) | (simp; omega)))) | (refine Below.trans ?_ (Below.mono hb1 ?_); rotate_left; (focus (first | exact Nat.le_refl _ | omega | (simp; done) | (simp; omega)))))))); have p2a := P2.1.2.1; have p2b := P2.1.2.2; obtain ⟨hc2, hf2⟩ := bcell hb2; have z2 := hb2.size; (try simp at z2); have z2p : w.heap.size < w2.heap.size := (by omega)))
    all_goals
      go_wp2_with fail
      go_meet
      have KK : Hid (Below w.heap.size w w2) := by (repeat (first | assumption | exact Below.refl _ _ | (refine Below.alloc ?_ ?_ _; rotate_left; (focus (first | exact Nat.le_refl _ | omega | (simp; done) | (simp; omega)))) | (refine Below.setCell ?_ ?_ _; rotate_left; (focus (first | exact Nat.le_refl _ | omega | (simp; done) | (simp; omega)))) | refine below_drew ?_ | refine below_drewN ?_ _ | (refine Below.trans ?_ (Below.mono hb2 ?_); rotate_left; (focus (first | exact Nat.le_refl _ | omega | (simp; done) | (simp; omega)))) | (refine Below.trans ?_ (Below.mono hb1 ?_); rotate_left; (focus (first | exact Nat.le_refl _ | omega | (simp; done) | (simp; omega))))))
      refine ⟨_, A9, c9, rfl, ?_, ?_, ?_, ?_, ?_, ?_, ?_⟩
      · first | omega | (simp; done) | (simp; omega)
      · first | omega | (simp; done) | (simp; omega) | (simp [World.setCell]; omega)
      · unfold Hid
        first | exact Bf.alloc1 w2 _ _ _ | exact ((Bf.alloc1 w1 _ _ _).keep hb2).store2 | exact (((Bf.q3 (w := w)).keep (below_undrew hb1)).keep hb2).store2
      · unfold Hid
        first | (refine OwnPx.of (hr2.alloc _) ?_ ?_ ?_ <;> (first | omega | (simp; done) | (simp; omega) | (right; omega) | (right; simp; done) | (right; simp; omega) | (left; omega) | (left; simp; done) | (left; simp; omega) | (simp [World.setCell]; done) | (simp [World.setCell]; omega)); done) | (refine OwnPx.of ((hr2.far ?_ _).far ?_ _) ?_ ?_ ?_ <;> (first | omega | (simp; done) | (simp; omega) | (right; omega) | (right; simp; done) | (right; simp; omega) | (left; omega) | (left; simp; done) | (left; simp; omega) | (simp [World.setCell]; done) | (simp [World.setCell]; omega)); done)
      · exact (Bf.q1 (w := w) (t := 24)).keep (by (repeat (first | assumption | exact Below.refl _ _ | (refine Below.alloc ?_ ?_ _; rotate_left; (focus (first | exact Nat.le_refl _ | omega | (simp; done) | (simp; omega)))) | (refine Below.setCell ?_ ?_ _; rotate_left; (focus (first | exact Nat.le_refl _ | omega | (simp; done) | (simp; omega)))) | refine below_drew ?_ | refine below_drewN ?_ _ | (refine Below.trans ?_ (Below.mono hb2 ?_); rotate_left; (focus (first | exact Nat.le_refl _ | omega | (simp; done) | (simp; omega)))) | (refine Below.trans ?_ (Below.mono hb1 ?_); rotate_left; (focus (first | exact Nat.le_refl _ | omega | (simp; done) | (simp; omega)))))))
      · exact (Bf.q2 (w := w) (t := 24) (t' := 24)).keep (by (repeat (first | assumption | exact Below.refl _ _ | (refine Below.alloc ?_ ?_ _; rotate_left; (focus (first | exact Nat.le_refl _ | omega | (simp; done) | (simp; omega)))) | (refine Below.setCell ?_ ?_ _; rotate_left; (focus (first | exact Nat.le_refl _ | omega | (simp; done) | (simp; omega)))) | refine below_drew ?_ | refine below_drewN ?_ _ | (refine Below.trans ?_ (Below.mono hb2 ?_); rotate_left; (focus (first | exact Nat.le_refl _ | omega | (simp; done) | (simp; omega)))) | (refine Below.trans ?_ (Below.mono hb1 ?_); rotate_left; (focus (first | exact Nat.le_refl _ | omega | (simp; done) | (simp; omega)))))))
      · (repeat (first | assumption | exact Below.refl _ _ | (refine Below.alloc ?_ ?_ _; rotate_left; (focus (first | exact Nat.le_refl _ | omega | (simp; done) | (simp; omega)))) | (refine Below.setCell ?_ ?_ _; rotate_left; (focus (first | exact Nat.le_refl _ | omega | (simp; done) | (simp; omega)))) | refine below_drew ?_ | refine below_drewN ?_ _ | (refine Below.trans ?_ (Below.mono hb2 ?_); rotate_left; (focus (first | exact Nat.le_refl _ | omega | (simp; done) | (simp; omega)))) | (refine Below.trans ?_ (Below.mono hb1 ?_); rotate_left; (focus (first | exact Nat.le_refl _ | omega | (simp; done) | (simp; omega))))))
  case rest =>
    obtain ⟨bo, A', c', rfl, hbo1, hbo2, HO, HT, HP, HQ, HB⟩ := hcut
    obtain ⟨lo, hi, hlo, hbo3, hhi, ht⟩ := HT.out
    obtain ⟨g, c2, -, -, e0, hg1, hg2, hg3, -⟩ := ht.row (k := 0) (by rw [length_tab]; omega)
    rw [length_tab] at e0
    simp only [Value.slice.injEq] at e0
    obtain ⟨rfl, -, rfl⟩ := e0
    have HT0 := Lib.hid ht
    clear ht HT
    have p1 := HP.out.1.2.1
    have o1 := HO.out.1.2.1
    have o2 := HO.out.1.2.2
    have q1 := HQ.out.1.2.1
    have q2 := HQ.out.1.2.2
    have q3 := HQ.out.2.1
    have q4 := HQ.out.2.2
    obtain ⟨gr, cr, hcr, hne, hgl, hgh, hgz, hd0, hf0, hset⟩ := HT0.out.put (i := 0) (j := 0) (by omega)
    have HSET := Lib.hid hset
    obtain ⟨r, hr⟩ : ∃ r, r = n - 0 := ⟨_, rfl⟩
    rw [← hr] at hcr
    have hr1 : 0 < r := by omega
    have hr2 : (0 : Int) < (r : Int) := by omega
    have hr3 : ¬ r = 0 := by omega
    have hn3 : 0 < n := by omega
    have hn4 : (0 : Int) < (n : Int) := by omega
    have hn5 : ¬ n = 0 := by omega
    clear hset hr
    have ne1 : (⟨gr, 0, none⟩ : Addr) ≠ ⟨w.heap.size, 0, none⟩ := by first | (simp; done) | (simp; omega)
    have ne2 : (⟨gr, 0, none⟩ : Addr) ≠ ⟨bo, 1, none⟩ := by first | (simp; done) | (simp; omega)
    have ne3 : (⟨gr, 0, none⟩ : Addr) ≠ ⟨g, 0, none⟩ := by first | (simp; done) | (simp; omega)
    go_wp2
    go_region_held3 (fun w' => w'.cell? ⟨w.heap.size, 0, none⟩ = some (.int .i64 m) ∧ w'.cell? ⟨bo, 1, none⟩ = some (.slice (some ⟨g, 0, none⟩) n c') ∧ w'.cell? ⟨g, 0, none⟩ = some (.slice (some ⟨gr, 0, none⟩) r cr))
      ((first | exact ⟨p1, o2, hcr⟩ | exact ⟨(World.cell?_setCell_other _ _ _ _ ne1).trans p1, (World.cell?_setCell_other _ _ _ _ ne2).trans o2, (World.cell?_setCell_other _ _ _ _ ne3).trans hcr⟩ | go_keep))
      (first | (go_at_call 85; refine (mod_any c0 m _ (by omega) (by omega)).mono ?_; rintro e w1 ⟨rfl, k1, rfl⟩))
    all_goals
      have hR := HSET.out (c0 % m)
      rw [num_upd, HZ.out] at hR
      have hQ := HQ.out.setCell (p := ⟨gr, 0, none⟩) (by simp; omega) (.int .i64 (c0 % m))
      have hK := HB.out.setCell (p := ⟨gr, 0, none⟩) (by simp; omega) (.int .i64 (c0 % m))
      go_wp2
      refine bodyPost_ret (v := .agg #[.int .i64 m, .slice (some ⟨g, 0, none⟩) n c']) (by simp [results, Try.results67, go_sem, q1, q2]) rfl ⟨some ⟨g, 0, none⟩, c', by rw [HZL.out], ?_, ?_⟩
      · rw [HZL.out]
        exact OwnP.mono (lo' := w.heap.size) (hR.hi_le.far2 (b := w.heap.size + 1) (x := .int .i64 m) (y := .slice (some ⟨g, 0, none⟩) n c') (.inl (by omega))) (by omega) (by first | (simp; done) | (simp; omega))
      · (repeat (first | exact HB.out | refine below_drewN ?_ _ | refine below_drew ?_ | (refine Below.setCell ?_ ?_ _; rotate_left; focus (first | omega | (simp; done) | (simp; omega)))))

end Go.Proofs.Ytmppmnmkhfcoaaa
