/- Contracts over this seat's translation. Condition: each contract's own. -/
import Derived.Test.YtmppmnmkhfcoaaaH
import Derived.ProofKit
import Derived.Laws.Bits64b
import Derived.Lib.Mul64
import Derived.OpenShut
import Derived.Below
import Derived.ChangeSame
import Derived.Deep.Modes
import Derived.Lib.SmallJoins
import Derived.ChangeSlices
import Derived.WalkKit
import Derived.WalkSpells
import Derived.WalkLawsBesides
import Derived.Deep.QuietTactic
import Derived.BigQuiet
import Derived.Deep.RegionHeld3
import Derived.Deep.RegionWith
import Derived.Deep.RegionLaw
import Derived.Deep.AppendLies
import Derived.Laws.CopyOwn
import Derived.Deep.DeepCutAuto
import Derived.Deep.OwnRows
import Derived.Deep.LoopGhost
import Derived.Deep.DeepFit
import Derived.Deep.DeepMust
import Derived.Deep.Draws
import Derived.Deep.CutRange
import Derived.Maps.AppendAt
import Derived.Lib.Hide
import Derived.StillTailTactics
import Derived.Laws.MakeOwn
import Derived.Deep.Matrix
set_option linter.unusedVariables false
open Go Go.RowKit
namespace Go.Proofs.Ytmppmnmkhfcoaaa
/-! ### The inverse of a plane -/
theorem OwnPx.ex {wx : World} {B bo : Nat} {v : Value} {xss : List (List Int)} (h : ∃ lo hi, OwnP wx lo hi v xss ∧ B ≤ lo ∧ (bo < lo ∨ hi ≤ bo) ∧ hi ≤ wx.heap.size) : OwnPx wx B bo v xss := by
  obtain ⟨lo, hi, h1, h2, h3, h4⟩ := h
  exact ⟨lo, hi, h2, h3, h4, h1⟩
theorem Bf.allocAt {w : World} {b : Nat} {x y : Value} {t : TypeId} (h : b = w.heap.size) : Bf (w.alloc (.cells #[x, y] t)) b x y := by subst h; exact Bf.alloc1 w x y t
theorem Bf.drew2 {w : World} {b : Nat} {x y : Value} (h : Bf w b x y) : Bf w.drew b x y := h
set_option maxRecDepth 16000 in
set_option maxHeartbeats 8000000 in
theorem inverted_any (w : World) (m r : Int) (v : Value) (xss zss : List (List Int)) (q n lo0 hi0 : Nat) (hv : OwnP w lo0 hi0 v xss) (ht : Tri n xss) (hq : Num2 m xss) (hm : 2 ≤ m) (hm' : m ≤ 3000000000) (hn1 : 1 ≤ n) (hn : n ≤ 1000) (hq1 : 1 ≤ q) (hr : (tab n fun i j => (co2 (tab n (numF m 1)) i j - co2 xss i j) % m) = tab n (sing q r)) (hz : tab n (geoF m r q (n - 1)) = zss) :
    Calls Try.prog 69 #[.agg #[.int .i64 m, v]] w (NewPl w m zss) := by
  obtain ⟨A, cp, rfl, -, -⟩ := hv.form
  rw [ht.1] at hv
  have HXL : Hid (xss.length = n) := ht.1
  have HZ := Lib.hid hz
  have HZL : Hid (zss.length = n) := by unfold Hid; rw [← hz, length_tab]
  obtain ⟨ON, hON⟩ : ∃ ON, tab n (numF m 1) = ON := ⟨_, rfl⟩
  obtain ⟨RT, hRT⟩ : ∃ RT, tab n (sing q r) = RT := ⟨_, rfl⟩
  have hONb : Num2 m ON := by rw [← hON]; exact Num2.tab (by omega) n _ fun i j => by unfold numF; split <;> first | exact ⟨Int.emod_nonneg _ (by omega), Int.emod_lt_of_pos _ (by omega)⟩ | omega
  have hONt : Tri n ON := by rw [← hON]; exact Tri.tab _ _
  have hRTb : Num2 m RT := by
    rw [← hRT, ← hr]
    exact Num2.tab (by omega) n _ fun i j => ⟨Int.emod_nonneg _ (by omega), Int.emod_lt_of_pos _ (by omega)⟩
  have hRTt : Tri n RT := by rw [← hRT]; exact Tri.tab _ _
  rw [hON, hRT] at hr
  have HON := Lib.hid hON
  have HRT := Lib.hid hRT
  have HR := Lib.hid hr
  have HT := Lib.hid ht
  have HQ := Lib.hid hq
  have HONB := Lib.hid hONb
  have HONT := Lib.hid hONt
  have HRTB := Lib.hid hRTb
  have HRTT := Lib.hid hRTt
  have HONL : Hid (ON.length = n) := hONt.1
  have HRTL : Hid (RT.length = n) := hRTt.1
  have HV := Lib.hid hv
  clear hz hON hRT hr ht hq hv hONb hONt hRTb hRTt
  go_enter Try.func69, Try.ntmps69
  rw [HXL.out]
  go_upto_region 1 with fail
  go_cut [3, 4] from 5 to 11 (fun s3 s4 wx => ∃ (b3 b4 : Nat) (A3 A4 : Option Addr) (c3 c4 : Nat), s3 = .pointer (some ⟨b3, 0, none⟩) ∧ s4 = .pointer (some ⟨b4, 0, none⟩) ∧ w.heap.size + 2 ≤ b3 ∧ w.heap.size + 2 ≤ b4 ∧ b3 < wx.heap.size ∧ b4 < wx.heap.size ∧ b3 ≠ b4 ∧ Hid (Bf wx b3 (.int .i64 m) (.slice A3 n c3)) ∧ Hid (Bf wx b4 (.int .i64 m) (.slice A4 n c4)) ∧ Hid (OwnPx wx (w.heap.size + 2) b4 (.slice A3 n c3) RT) ∧ Hid (OwnPx wx (w.heap.size + 2) b4 (.slice A4 n c4) ON) ∧ Hid (Bf wx w.heap.size (.int .i64 m) (.slice A n cp)) ∧ Hid (Bf wx (w.heap.size + 1) (.int .i64 0) (.slice none 0 0)) ∧ Hid (Below w.heap.size w wx))
  case first =>
    go_region_held3 (fun w' => w'.cell? ⟨w.heap.size, 0, none⟩ = some (.int .i64 m) ∧ w'.cell? ⟨w.heap.size, 1, none⟩ = some (.slice A n cp))
      (first | with_reducible exact ⟨p3a, p3b⟩ | with_reducible exact ⟨p2a, p2b⟩ | with_reducible exact ⟨p1a, p1b⟩ | go_keep | (refine (fun (h : Bf _ w.heap.size (.int .i64 m) (.slice A n cp)) => ⟨h.1.2.1, h.1.2.2⟩) ((Bf.alloc1 w _ _ 24).keep ?_); (repeat (first | with_reducible assumption | with_reducible exact Below.refl _ _ | (with_reducible refine Below.alloc ?_ ?_ _; rotate_left; (focus (first | exact Nat.le_refl _ | omega | (simp; done) | (simp; omega)))) | (with_reducible refine Below.setCell ?_ ?_ _; rotate_left; (focus (first | exact Nat.le_refl _ | omega | (simp; done) | (simp; omega)))) | with_reducible refine below_drew ?_ | with_reducible refine below_drewN ?_ _ | (with_reducible refine Below.trans ?_ (Below.mono hb3 ?_); rotate_left; (focus (first | exact Nat.le_refl _ | omega | (simp; done) | (simp; omega)))) | (with_reducible refine Below.trans ?_ (Below.mono hb2 ?_); rotate_left; (focus (first | exact Nat.le_refl _ | omega | (simp; done) | (simp; omega)))) | (with_reducible refine Below.trans ?_ (Below.mono hb1 ?_); rotate_left; (focus (first | exact Nat.le_refl _ | omega | (simp; done) | (simp; omega))))))))
      (first | (go_at_call 88; refine (pMinus_any _ m _ _ ON xss RT n _ _ _ _ (o1.out.keep (by (repeat (first | with_reducible assumption | with_reducible exact Below.refl _ _ | (with_reducible refine Below.alloc ?_ ?_ _; rotate_left; (focus (first | exact Nat.le_refl _ | omega | (simp; done) | (simp; omega)))) | (with_reducible refine Below.setCell ?_ ?_ _; rotate_left; (focus (first | exact Nat.le_refl _ | omega | (simp; done) | (simp; omega)))) | with_reducible refine below_drew ?_ | with_reducible refine below_drewN ?_ _ | (with_reducible refine Below.trans ?_ (Below.mono hb3 ?_); rotate_left; (focus (first | exact Nat.le_refl _ | omega | (simp; done) | (simp; omega)))) | (with_reducible refine Below.trans ?_ (Below.mono hb2 ?_); rotate_left; (focus (first | exact Nat.le_refl _ | omega | (simp; done) | (simp; omega)))) | (with_reducible refine Below.trans ?_ (Below.mono hb1 ?_); rotate_left; (focus (first | exact Nat.le_refl _ | omega | (simp; done) | (simp; omega)))))))) HONT.out HONB.out (HV.out.keep (by (repeat (first | with_reducible assumption | with_reducible exact Below.refl _ _ | (with_reducible refine Below.alloc ?_ ?_ _; rotate_left; (focus (first | exact Nat.le_refl _ | omega | (simp; done) | (simp; omega)))) | (with_reducible refine Below.setCell ?_ ?_ _; rotate_left; (focus (first | exact Nat.le_refl _ | omega | (simp; done) | (simp; omega)))) | with_reducible refine below_drew ?_ | with_reducible refine below_drewN ?_ _ | (with_reducible refine Below.trans ?_ (Below.mono hb3 ?_); rotate_left; (focus (first | exact Nat.le_refl _ | omega | (simp; done) | (simp; omega)))) | (with_reducible refine Below.trans ?_ (Below.mono hb2 ?_); rotate_left; (focus (first | exact Nat.le_refl _ | omega | (simp; done) | (simp; omega)))) | (with_reducible refine Below.trans ?_ (Below.mono hb1 ?_); rotate_left; (focus (first | exact Nat.le_refl _ | omega | (simp; done) | (simp; omega)))))))) HT.out HQ.out hm hm' hn1 hn HR.out).mono ?_; rintro e w2 ⟨A2, c2, rfl, o2, hb2⟩; rw [HRTL.out] at o2 ⊢; have o2 := Lib.hid o2; have k2 : Below w.heap.size w w2 := (by (repeat (first | with_reducible assumption | with_reducible exact Below.refl _ _ | (with_reducible refine Below.alloc ?_ ?_ _; rotate_left; (focus (first | exact Nat.le_refl _ | omega | (simp; done) | (simp; omega)))) | (with_reducible refine Below.setCell ?_ ?_ _; rotate_left; (focus (first | exact Nat.le_refl _ | omega | (simp; done) | (simp; omega)))) | with_reducible refine below_drew ?_ | with_reducible refine below_drewN ?_ _ | (with_reducible refine Below.trans ?_ (Below.mono hb3 ?_); rotate_left; (focus (first | exact Nat.le_refl _ | omega | (simp; done) | (simp; omega)))) | (with_reducible refine Below.trans ?_ (Below.mono hb2 ?_); rotate_left; (focus (first | exact Nat.le_refl _ | omega | (simp; done) | (simp; omega)))) | (with_reducible refine Below.trans ?_ (Below.mono hb1 ?_); rotate_left; (focus (first | exact Nat.le_refl _ | omega | (simp; done) | (simp; omega))))))); have P2 : Bf w2 w.heap.size (.int .i64 m) (.slice A n cp) := ((Bf.alloc1 w _ _ 24).keep (by (repeat (first | with_reducible assumption | with_reducible exact Below.refl _ _ | (with_reducible refine Below.alloc ?_ ?_ _; rotate_left; (focus (first | exact Nat.le_refl _ | omega | (simp; done) | (simp; omega)))) | (with_reducible refine Below.setCell ?_ ?_ _; rotate_left; (focus (first | exact Nat.le_refl _ | omega | (simp; done) | (simp; omega)))) | with_reducible refine below_drew ?_ | with_reducible refine below_drewN ?_ _ | (with_reducible refine Below.trans ?_ (Below.mono hb3 ?_); rotate_left; (focus (first | exact Nat.le_refl _ | omega | (simp; done) | (simp; omega)))) | (with_reducible refine Below.trans ?_ (Below.mono hb2 ?_); rotate_left; (focus (first | exact Nat.le_refl _ | omega | (simp; done) | (simp; omega)))) | (with_reducible refine Below.trans ?_ (Below.mono hb1 ?_); rotate_left; (focus (first | exact Nat.le_refl _ | omega | (simp; done) | (simp; omega)))))))); have p2a := P2.1.2.1; have p2b := P2.1.2.2; obtain ⟨hc2, hf2⟩ := bcell hb2; have z2 := hb2.size; (try simp at z2); have z2p : w.heap.size + 1 < w2.heap.size := (by omega); (first | (have y2_0 : w.heap.size + 2 < w2.heap.size := (by omega)) | skip); (first | (have y2_1 : w.heap.size + 3 < w2.heap.size := (by omega)) | skip); (first | (have y2_2 : w1.heap.size < w2.heap.size := (by omega)) | skip); (first | (have y2_3 : w1.heap.size + 1 < w2.heap.size := (by omega)) | skip)) | (go_at_call 67; have _h := hb2; refine (number_any _ m _ xss ON 1 n _ _ (HV.out.keep (by (repeat (first | with_reducible assumption | with_reducible exact Below.refl _ _ | (with_reducible refine Below.alloc ?_ ?_ _; rotate_left; (focus (first | exact Nat.le_refl _ | omega | (simp; done) | (simp; omega)))) | (with_reducible refine Below.setCell ?_ ?_ _; rotate_left; (focus (first | exact Nat.le_refl _ | omega | (simp; done) | (simp; omega)))) | with_reducible refine below_drew ?_ | with_reducible refine below_drewN ?_ _ | (with_reducible refine Below.trans ?_ (Below.mono hb3 ?_); rotate_left; (focus (first | exact Nat.le_refl _ | omega | (simp; done) | (simp; omega)))) | (with_reducible refine Below.trans ?_ (Below.mono hb2 ?_); rotate_left; (focus (first | exact Nat.le_refl _ | omega | (simp; done) | (simp; omega)))) | (with_reducible refine Below.trans ?_ (Below.mono hb1 ?_); rotate_left; (focus (first | exact Nat.le_refl _ | omega | (simp; done) | (simp; omega)))))))) HXL.out hm hm' hn1 hn HON.out).mono ?_; rintro e w3 ⟨A3, c3, rfl, o3, hb3⟩; rw [HONL.out] at o3 ⊢; have o3 := Lib.hid o3; have P3 : Bf w3 w.heap.size (.int .i64 m) (.slice A n cp) := ((Bf.alloc1 w _ _ 24).keep (by (repeat (first | with_reducible assumption | with_reducible exact Below.refl _ _ | (with_reducible refine Below.alloc ?_ ?_ _; rotate_left; (focus (first | exact Nat.le_refl _ | omega | (simp; done) | (simp; omega)))) | (with_reducible refine Below.setCell ?_ ?_ _; rotate_left; (focus (first | exact Nat.le_refl _ | omega | (simp; done) | (simp; omega)))) | with_reducible refine below_drew ?_ | with_reducible refine below_drewN ?_ _ | (with_reducible refine Below.trans ?_ (Below.mono hb3 ?_); rotate_left; (focus (first | exact Nat.le_refl _ | omega | (simp; done) | (simp; omega)))) | (with_reducible refine Below.trans ?_ (Below.mono hb2 ?_); rotate_left; (focus (first | exact Nat.le_refl _ | omega | (simp; done) | (simp; omega)))) | (with_reducible refine Below.trans ?_ (Below.mono hb1 ?_); rotate_left; (focus (first | exact Nat.le_refl _ | omega | (simp; done) | (simp; omega)))))))); have p3a := P3.1.2.1; have p3b := P3.1.2.2; obtain ⟨hc3, hf3⟩ := bcell hb3; have z3 := hb3.size; (try simp at z3); have z3p : w.heap.size + 1 < w3.heap.size := (by omega); (first | (have y3_0 : w.heap.size + 2 < w3.heap.size := (by omega)) | skip); (first | (have y3_1 : w.heap.size + 3 < w3.heap.size := (by omega)) | skip); (first | (have y3_2 : w1.heap.size < w3.heap.size := (by omega)) | skip); (first | (have y3_3 : w1.heap.size + 1 < w3.heap.size := (by omega)) | skip); (first | (have y3_4 : w2.heap.size < w3.heap.size := (by omega)) | skip); (first | (have y3_5 : w2.heap.size + 1 < w3.heap.size := (by omega)) | skip)) | (go_at_call 67; refine (number_any _ m _ xss ON 1 n _ _ (HV.out.keep (by (repeat (first | with_reducible assumption | with_reducible exact Below.refl _ _ | (with_reducible refine Below.alloc ?_ ?_ _; rotate_left; (focus (first | exact Nat.le_refl _ | omega | (simp; done) | (simp; omega)))) | (with_reducible refine Below.setCell ?_ ?_ _; rotate_left; (focus (first | exact Nat.le_refl _ | omega | (simp; done) | (simp; omega)))) | with_reducible refine below_drew ?_ | with_reducible refine below_drewN ?_ _ | (with_reducible refine Below.trans ?_ (Below.mono hb3 ?_); rotate_left; (focus (first | exact Nat.le_refl _ | omega | (simp; done) | (simp; omega)))) | (with_reducible refine Below.trans ?_ (Below.mono hb2 ?_); rotate_left; (focus (first | exact Nat.le_refl _ | omega | (simp; done) | (simp; omega)))) | (with_reducible refine Below.trans ?_ (Below.mono hb1 ?_); rotate_left; (focus (first | exact Nat.le_refl _ | omega | (simp; done) | (simp; omega)))))))) HXL.out hm hm' hn1 hn HON.out).mono ?_; rintro e w1 ⟨A1, c1, rfl, o1, hb1⟩; rw [HONL.out] at o1 ⊢; have o1 := Lib.hid o1; have P1 : Bf w1 w.heap.size (.int .i64 m) (.slice A n cp) := ((Bf.alloc1 w _ _ 24).keep (by (repeat (first | with_reducible assumption | with_reducible exact Below.refl _ _ | (with_reducible refine Below.alloc ?_ ?_ _; rotate_left; (focus (first | exact Nat.le_refl _ | omega | (simp; done) | (simp; omega)))) | (with_reducible refine Below.setCell ?_ ?_ _; rotate_left; (focus (first | exact Nat.le_refl _ | omega | (simp; done) | (simp; omega)))) | with_reducible refine below_drew ?_ | with_reducible refine below_drewN ?_ _ | (with_reducible refine Below.trans ?_ (Below.mono hb3 ?_); rotate_left; (focus (first | exact Nat.le_refl _ | omega | (simp; done) | (simp; omega)))) | (with_reducible refine Below.trans ?_ (Below.mono hb2 ?_); rotate_left; (focus (first | exact Nat.le_refl _ | omega | (simp; done) | (simp; omega)))) | (with_reducible refine Below.trans ?_ (Below.mono hb1 ?_); rotate_left; (focus (first | exact Nat.le_refl _ | omega | (simp; done) | (simp; omega)))))))); have p1a := P1.1.2.1; have p1b := P1.1.2.2; obtain ⟨hc1, hf1⟩ := bcell hb1; have z1 := hb1.size; (try simp at z1); have z1p : w.heap.size + 1 < w1.heap.size := (by omega); (first | (have y1_0 : w.heap.size + 2 < w1.heap.size := (by omega)) | skip); (first | (have y1_1 : w.heap.size + 3 < w1.heap.size := (by omega)) | skip)))
    all_goals
      go_wp2_with fail
      go_meet
      refine ⟨_, _, A2, A3, c2, c3, rfl, rfl, ?_, ?_, ?_, ?_, ?_, ?_, ?_, ?_, ?_, ?_, ?_, ?_⟩
      · (first | omega | (simp; done) | (simp; omega) | (right; omega) | (right; simp; done) | (right; simp; omega) | (left; omega) | (left; simp; done) | (left; simp; omega) | (simp [World.setCell]; done) | (simp [World.setCell]; omega))
      · (first | omega | (simp; done) | (simp; omega) | (right; omega) | (right; simp; done) | (right; simp; omega) | (left; omega) | (left; simp; done) | (left; simp; omega) | (simp [World.setCell]; done) | (simp [World.setCell]; omega))
      · (first | omega | (simp; done) | (simp; omega) | (right; omega) | (right; simp; done) | (right; simp; omega) | (left; omega) | (left; simp; done) | (left; simp; omega) | (simp [World.setCell]; done) | (simp [World.setCell]; omega))
      · (first | omega | (simp; done) | (simp; omega) | (right; omega) | (right; simp; done) | (right; simp; omega) | (left; omega) | (left; simp; done) | (left; simp; omega) | (simp [World.setCell]; done) | (simp [World.setCell]; omega))
      · (first | omega | (simp; done) | (simp; omega) | (right; omega) | (right; simp; done) | (right; simp; omega) | (left; omega) | (left; simp; done) | (left; simp; omega) | (simp [World.setCell]; done) | (simp [World.setCell]; omega))
      · unfold Hid
        (repeat (first | with_reducible assumption | with_reducible exact P3 | with_reducible exact P2 | with_reducible exact P1 | with_reducible exact Bf.alloc1 _ _ _ _ | (with_reducible refine Bf.allocAt ?_; simp; done) | with_reducible exact Bf.q1 | with_reducible exact Bf.q2 | with_reducible exact Bf.q3 | with_reducible exact Bf.q4 | (with_reducible refine Bf.setCell ?_ ?_ _; rotate_left; (focus (first | (simp; done) | (simp; omega)))) | with_reducible refine Bf.store2 (x := .int .i64 0) (y := .slice none 0 0) ?_ | with_reducible refine Bf.alloc ?_ _ | with_reducible refine Bf.drew2 ?_ | with_reducible refine Bf.keep ?_ hb3 | with_reducible refine Bf.keep ?_ hb2 | with_reducible refine Bf.keep ?_ hb1))
      · unfold Hid
        (repeat (first | with_reducible assumption | with_reducible exact P3 | with_reducible exact P2 | with_reducible exact P1 | with_reducible exact Bf.alloc1 _ _ _ _ | (with_reducible refine Bf.allocAt ?_; simp; done) | with_reducible exact Bf.q1 | with_reducible exact Bf.q2 | with_reducible exact Bf.q3 | with_reducible exact Bf.q4 | (with_reducible refine Bf.setCell ?_ ?_ _; rotate_left; (focus (first | (simp; done) | (simp; omega)))) | with_reducible refine Bf.store2 (x := .int .i64 0) (y := .slice none 0 0) ?_ | with_reducible refine Bf.alloc ?_ _ | with_reducible refine Bf.drew2 ?_ | with_reducible refine Bf.keep ?_ hb3 | with_reducible refine Bf.keep ?_ hb2 | with_reducible refine Bf.keep ?_ hb1))
      · unfold Hid
        apply OwnPx.ex
        apply Exists.intro
        apply Exists.intro
        apply And.intro
        · (repeat (first | with_reducible exact o2.out | with_reducible exact o3.out | with_reducible apply OwnP.far | with_reducible apply OwnP.alloc | with_reducible apply OwnP.keep (R := hb3)))
          all_goals (first | omega | (simp; omega) | (simp; done) | (left; simp; omega) | (right; simp; omega) | (left; simp; done) | (right; simp; done) | (simp [World.setCell]; omega))
        · refine ⟨?_, ?_, ?_⟩ <;> (first | omega | (simp; omega) | (simp; done) | (left; simp; omega) | (right; simp; omega) | (left; simp; done) | (right; simp; done) | (simp [World.setCell]; omega))
      · unfold Hid
        apply OwnPx.ex
        apply Exists.intro
        apply Exists.intro
        apply And.intro
        · (repeat (first | with_reducible exact o2.out | with_reducible exact o3.out | with_reducible apply OwnP.far | with_reducible apply OwnP.alloc | with_reducible apply OwnP.keep (R := hb3)))
          all_goals (first | omega | (simp; omega) | (simp; done) | (left; simp; omega) | (right; simp; omega) | (left; simp; done) | (right; simp; done) | (simp [World.setCell]; omega))
        · refine ⟨?_, ?_, ?_⟩ <;> (first | omega | (simp; omega) | (simp; done) | (left; simp; omega) | (right; simp; omega) | (left; simp; done) | (right; simp; done) | (simp [World.setCell]; omega))
      · unfold Hid
        (repeat (first | with_reducible assumption | with_reducible exact P3 | with_reducible exact P2 | with_reducible exact P1 | with_reducible exact Bf.alloc1 _ _ _ _ | (with_reducible refine Bf.allocAt ?_; simp; done) | with_reducible exact Bf.q1 | with_reducible exact Bf.q2 | with_reducible exact Bf.q3 | with_reducible exact Bf.q4 | (with_reducible refine Bf.setCell ?_ ?_ _; rotate_left; (focus (first | (simp; done) | (simp; omega)))) | with_reducible refine Bf.store2 (x := .int .i64 0) (y := .slice none 0 0) ?_ | with_reducible refine Bf.alloc ?_ _ | with_reducible refine Bf.drew2 ?_ | with_reducible refine Bf.keep ?_ hb3 | with_reducible refine Bf.keep ?_ hb2 | with_reducible refine Bf.keep ?_ hb1))
      · unfold Hid
        (repeat (first | with_reducible assumption | with_reducible exact P3 | with_reducible exact P2 | with_reducible exact P1 | with_reducible exact Bf.alloc1 _ _ _ _ | (with_reducible refine Bf.allocAt ?_; simp; done) | with_reducible exact Bf.q1 | with_reducible exact Bf.q2 | with_reducible exact Bf.q3 | with_reducible exact Bf.q4 | (with_reducible refine Bf.setCell ?_ ?_ _; rotate_left; (focus (first | (simp; done) | (simp; omega)))) | with_reducible refine Bf.store2 (x := .int .i64 0) (y := .slice none 0 0) ?_ | with_reducible refine Bf.alloc ?_ _ | with_reducible refine Bf.drew2 ?_ | with_reducible refine Bf.keep ?_ hb3 | with_reducible refine Bf.keep ?_ hb2 | with_reducible refine Bf.keep ?_ hb1))
      · unfold Hid
        (repeat (first | with_reducible assumption | with_reducible exact Below.refl _ _ | (with_reducible refine Below.alloc ?_ ?_ _; rotate_left; (focus (first | exact Nat.le_refl _ | omega | (simp; done) | (simp; omega)))) | (with_reducible refine Below.setCell ?_ ?_ _; rotate_left; (focus (first | exact Nat.le_refl _ | omega | (simp; done) | (simp; omega)))) | with_reducible refine below_drew ?_ | with_reducible refine below_drewN ?_ _ | (with_reducible refine Below.trans ?_ (Below.mono hb3 ?_); rotate_left; (focus (first | exact Nat.le_refl _ | omega | (simp; done) | (simp; omega)))) | (with_reducible refine Below.trans ?_ (Below.mono hb2 ?_); rotate_left; (focus (first | exact Nat.le_refl _ | omega | (simp; done) | (simp; omega)))) | (with_reducible refine Below.trans ?_ (Below.mono hb1 ?_); rotate_left; (focus (first | exact Nat.le_refl _ | omega | (simp; done) | (simp; omega))))))
  case rest =>
    obtain ⟨b3, b4, A3, A4, c3, c4, rfl, rfl, hb3a, hb4a, hb3z, hb4z, hb34, HO3, HO4, HR3x, HN4x, HP, HQ, HB⟩ := hcut
    obtain ⟨lo3, hi3, hlo3, hx3, -, hr3⟩ := HR3x.out
    obtain ⟨lo4, hi4, hlo4, hx4, hhi4, hn4⟩ := HN4x.out
    have HR3 := Lib.hid hr3
    have HN4 := Lib.hid hn4
    clear hr3 hn4 HR3x HN4x
    have p1 := HP.out.1.2.1
    have p2 := HP.out.1.2.2
    go_wp2_with (go_at_call 132; refine (pDegree_any m A n cp _ (by omega)).mono ?_; rintro e w1 ⟨rfl, hb1⟩)
    have zB0 := HB.out.size
    have G0 : Hid (OwnP w1 lo4 hi4 (.slice A4 n c4) (tab n (geoF m r q 0))) := by
      unfold Hid
      rw [← geo_zero, HON.out]
      exact HN4.out.keep hb1
    have HO3' := Lib.hid (HO3.out.keep hb1)
    have HO4' := Lib.hid (HO4.out.keep hb1)
    have HR3' := Lib.hid (HR3.out.keep hb1)
    have HP' := Lib.hid (HP.out.keep hb1)
    have HQ' := Lib.hid (HQ.out.keep hb1)
    have HB' := Lib.hid (HB.out.trans (hb1.mono zB0))
    have hz1 := hb1.size
    clear HO3 HO4 HR3 HN4 HP HQ HB p1 p2 hb1 zB0
    go_loopw [13] (fun s wr => ∃ (k : Nat) (A' : Option Addr) (c' lo hi : Nat), k ≤ n - 1 ∧ s = .int .i64 k ∧ Hid (OwnP wr lo hi (.slice A' n c') (tab n (geoF m r q k))) ∧ w.heap.size + 2 ≤ lo ∧ (b4 < lo ∨ hi ≤ b4) ∧ hi ≤ wr.heap.size ∧ Hid (Bf wr b4 (.int .i64 m) (.slice A' n c')) ∧ Hid (Bf wr b3 (.int .i64 m) (.slice A3 n c3)) ∧ Hid (OwnP wr lo3 hi3 (.slice A3 n c3) RT) ∧ Hid (Bf wr w.heap.size (.int .i64 m) (.slice A n cp)) ∧ Hid (Bf wr (w.heap.size + 1) (.int .i64 0) (.slice none 0 0)) ∧ Hid (Below w.heap.size w wr)) (fun s _ => n - (intOf s).toNat)
    case atStart => exact ⟨0, A4, c4, lo4, hi4, Nat.zero_le _, rfl, G0, hlo4, hx4, by omega, HO4', HO3', HR3', HP', HQ', HB'⟩
    case round =>
      clear G0 HO4' HO3' HR3' HP' HQ' HB' hlo4 hx4 hhi4 hz1 hb3z hb4z
      obtain ⟨k, A', c', lo, hi, hk, rfl, HG, hlo, hx, hhi, HO4, HO3, HR3, HP, HQ, HB⟩ := hrel
      have zB := HB.out.size
      have z4 := HO4.out.1.1
      have zQ := HQ.out.1.1
      have q1 := HQ.out.1.2.1
      have q2 := HQ.out.1.2.2
      have q3 := HQ.out.2.1
      have q4 := HQ.out.2.2
      have o1 := HO4.out.1.2.1
      have o2 := HO4.out.1.2.2
      by_cases hlt : k < n - 1
      · have hlt1 : (k : Int) < (n : Int) - 1 := by omega
        obtain ⟨G, hG⟩ : ∃ G, tab n (geoF m r q k) = G := ⟨_, rfl⟩
        obtain ⟨TM, hTM⟩ : ∃ TM, tab n (tmF m n (co2 G) (co2 RT)) = TM := ⟨_, rfl⟩
        obtain ⟨NX, hNX⟩ : ∃ NX, tab n (geoF m r q (k + 1)) = NX := ⟨_, rfl⟩
        have hst := geo_step m r q n k hq1
        rw [hG, HRT.out, hTM, HON.out, hNX] at hst
        have HST := Lib.hid hst
        have HGT : Hid (Tri n G) := by unfold Hid; rw [← hG]; exact Tri.tab _ _
        have HGN : Hid (Num2 m G) := by unfold Hid; rw [← hG]; exact Num2.tab (by omega) n _ fun i j => geoF_bd (by omega) r q k i j
        have HTMT : Hid (Tri n TM) := by unfold Hid; rw [← hTM]; exact Tri.tab _ _
        have HTMN : Hid (Num2 m TM) := by unfold Hid; rw [← hTM]; exact tmF_num2 (by omega) _ _ _
        have HTML : Hid (TM.length = n) := HTMT.out.1
        have HNXL : Hid (NX.length = n) := by unfold Hid; rw [← hNX, length_tab]
        have HTM := Lib.hid hTM
        have HNX := Lib.hid hNX
        rw [hG] at HG
        have f1 := HO3.out.1.2.1
        have f2 := HO3.out.1.2.2
        have p1 := HP.out.1.2.1
        have p2 := HP.out.1.2.2
        clear hst hTM hNX hG
        go_wp2
        go_region_law ((first | (go_simp; go_at_call 66; refine (pTimes_any _ m _ _ G RT TM n _ _ _ _ (OwnP.drewN HG.out 1) HGT.out HGN.out (OwnP.drewN HR3.out 1) HRTT.out HRTB.out hm hm' hn1 hn HTM.out).mono ?_; rintro e w5 ⟨A5, c5, rfl, o5, hb5⟩; rw [HTML.out] at o5 ⊢; have H5 := Lib.hid o5; have R5 := Lib.hid (below_undrew hb5); have s5 : wr.heap.size ≤ w5.heap.size := hb5.size; clear o5 hb5; have p5a := (HP.out.keep R5.out).1.2.1; have p5b := (HP.out.keep R5.out).1.2.2) | (go_simp; go_at_call 67; refine (number_any _ m _ xss ON 1 n _ _ (HV.out.keep (HB.out.trans (R5.out.mono zB))) HXL.out hm hm' hn1 hn HON.out).mono ?_; rintro e w6 ⟨A6, c6, rfl, o6, hb6⟩; rw [HONL.out] at o6 ⊢; have H6 := Lib.hid o6; have R6 := Lib.hid hb6; have s6 : w5.heap.size ≤ w6.heap.size := hb6.size; clear o6 hb6) | (go_simp; go_at_call 65; refine (pPlus_any _ m _ _ TM ON NX n _ _ _ _ (H5.out.keep R6.out) HTMT.out HTMN.out H6.out HONT.out HONB.out hm hm' hn1 hn HST.out).mono ?_; rintro e w7 ⟨A7, c7, rfl, o7, hb7⟩; rw [HNXL.out] at o7 ⊢; have H7 := Lib.hid o7; have R7 := Lib.hid (R5.out.trans ((R6.out.mono s5).trans (hb7.mono (by omega)))); have s7 : w6.heap.size ≤ w7.heap.size := hb7.size; clear o7 hb7; have O7 := HO4.out.keep R7.out; have o7a := O7.1.2.1; have o7b := O7.1.2.2; have o7c := O7.2.1; have o7d := O7.2.2)))
        all_goals
          go_wp2
          go_roundw
          case rel =>
            refine ⟨k + 1, A7, c7, w6.heap.size, w7.heap.size, by omega, by go_num, ?_, by omega, .inl (by omega), by first | (simp; done) | (simp; omega), O7.store2, ((HO3.out.keep R7.out).setCell (by simp; omega) _).setCell (by simp; omega) _, (HR3.out.keep R7.out).far2 hx3, ((HP.out.keep R7.out).setCell (by simp; omega) _).setCell (by simp; omega) _, ((HQ.out.keep R7.out).setCell (by simp; omega) _).setCell (by simp; omega) _, ((HB.out.trans (R7.out.mono zB)).setCell (by simp; omega) _).setCell (by simp; omega) _⟩
            unfold Hid
            rw [HNX.out]
            exact H7.out.far2 (.inl (by omega))
          case measure => first | (simp [intOf]; done) | (simp [intOf]; omega)
      · have hkn : k = n - 1 := by omega
        have hR := HG.out
        rw [hkn, HZ.out] at hR
        have hd5 : decide ((k : Int) < (n : Int) - 1) = false := by simp; omega
        clear hkn
        go_wp2
        refine bodyPost_ret (v := .agg #[.int .i64 m, .slice A' n c']) (by simp [results, Try.results69, go_sem, q1, q2]) rfl ⟨A', c', by rw [HZL.out], ?_, ?_⟩
        · rw [HZL.out]
          have h9 := OwnP.mono (lo' := w.heap.size) (hR.hi_le.far2 (b := w.heap.size + 1) (x := .int .i64 m) (y := .slice A' n c') (.inl (by omega))) (by omega) (Nat.le_refl _)
          simpa [World.setCell] using h9
        · exact (HB.out.setCell (by first | (simp; done) | (simp; omega)) _).setCell (by first | (simp; done) | (simp; omega)) _

/-! ### The law of the tangent (spec) -/
set_option maxRecDepth 16000 in
set_option maxHeartbeats 4000000 in
theorem l08Tangent_any (w : World) (m d c0 : Int) (n : Nat) (zss : List (List Int)) (hd : d + 1 = (n : Int)) (hm : 2 ≤ m) (hm' : m ≤ 10000) (hn2 : 2 ≤ n) (hn : n ≤ 1000) (hc : 0 ≤ c0 ∧ c0 < m) (hz : tab n (tanF m (m - c0)) = zss) : Calls Try.prog 62 #[.int .i64 m, .int .i64 d, .int .i64 c0] w (NewP w zss) := by
  have hd2 : d = (n : Int) - 1 := by omega
  subst hd2
  have HL : Hid (zss.length = n) := by unfold Hid; rw [← hz, length_tab]
  have HZ := Lib.hid hz
  clear hd hz
  have h1m : (1 : Int) % m = 1 := Int.emod_eq_of_lt (by omega) (by omega)
  have h1t : (1 : Int).tmod m = 1 := by rw [Int.tmod_eq_emod_of_nonneg (by omega)]; exact h1m
  have hm0 : ¬ m = 0 := by omega
  have hm1 : (m == 0) = false := by simpa using hm0
  go_enter Try.func62, Try.ntmps62
  go_wp2_with (go_at_call 125; refine (l03Zero_any _ _ n (by omega) (by omega)).mono ?_; rintro e w1 ⟨A1, c1, rfl, o1, hb1⟩; rw [length_tab] at o1 ⊢; obtain ⟨g, _, _, -, e0, hg1, hg2, hg3, -⟩ := o1.row (k := 0) (by rw [length_tab]; omega); rw [length_tab] at e0; simp only [Value.slice.injEq] at e0; obtain ⟨rfl, -, rfl⟩ := e0)
  rw [tanTo_zero m (m - c0) n] at o1
  have zw := hb1.size
  go_loopw [8, 9] (fun p i wr => ∃ k : Nat, 2 * k ≤ n + 2 ∧ p = .int .i64 (gp m (m - c0) k) ∧ i = .int .i64 k ∧ Hid (OwnP wr w.heap.size w1.heap.size (.slice (some ⟨g, 0, none⟩) n c1) (tab n (tanTo m (m - c0) k))) ∧ Hid (Below w.heap.size w wr)) (fun _ i _ => n + 2 - (intOf i).toNat)
  case atStart => exact ⟨0, by omega, by simp only [gp]; first | rfl | rw [h1m], rfl, o1, hb1⟩
  case round =>
    clear o1 hb1
    obtain ⟨k, hk, rfl, rfl, HO, HB⟩ := hrel
    have hgb := gp_bd (show 0 < m by omega) (m - c0) k
    by_cases hlt : 2 * k + 2 ≤ n
    · have hnx : gp m (m - c0) k * (m - c0) % m = gp m (m - c0) (k + 1) := rfl
      have HNX := Lib.hid hnx
      have HST := Lib.hid (tanTo_step m (m - c0) n k)
      obtain ⟨p, hp⟩ : ∃ p, p = gp m (m - c0) k := ⟨_, rfl⟩
      rw [← hp] at hgb HNX HST ⊢
      clear hnx hp
      obtain ⟨g1, r1, hr1, hg1ne, hg1lo, hg1hi, hg1z, hd1, hf1, hset1⟩ := HO.out.put (i := k + 1) (j := k) (by omega)
      have O2 := Lib.hid (hset1 p)
      clear hset1
      obtain ⟨g0, r0, hr0, hg0ne, hg0lo, hg0hi, hg0z, hd0, hf0, hset0⟩ := O2.out.put (i := k) (j := k + 1) (by omega)
      have O3 := Lib.hid (hset0 p)
      clear hset0
      obtain ⟨a1, ha1⟩ : ∃ a1, a1 = n - (k + 1) := ⟨_, rfl⟩
      obtain ⟨a0, ha0⟩ : ∃ a0, a0 = n - k := ⟨_, rfl⟩
      rw [← ha1] at hr1
      rw [← ha0] at hr0
      have hA1 : k < a1 ∧ k + 1 < a0 := by omega
      clear ha1 ha0
      have hA2 : (k : Int) < (a1 : Int) := by omega
      have hA3 : (k : Int) + 1 < (a0 : Int) := by omega
      have hA4 : (k : Int) + 1 < (n : Int) := by omega
      have hA5 : (k : Int) < (n : Int) := by omega
      have hA6 : ((k : Int) + 1).toNat = k + 1 := by omega
      have hA7 : 2 * (k : Int) + 1 ≤ (n : Int) - 1 := by omega
      have hpm := mul_bd' hgb.1 (show p ≤ 10000 by omega) (show 0 ≤ m - c0 by omega) (show m - c0 ≤ 10000 by omega)
      have v2 : IntKind.i64.wrap (p * (m - c0)) = p * (m - c0) := IntWalk.i64_in _ (by omega)
      have v3 : (p * (m - c0)).tmod m = p * (m - c0) % m := Int.tmod_eq_emod_of_nonneg (by omega)
      have hA8 : k < n := by omega
      have hA9 : k + 1 < n := by omega
      go_wp2
      go_roundw
      case rel =>
        refine ⟨k + 1, by omega, by rw [HNX.out], by go_num, ?_, (HB.out.setCell (by omega) _).setCell (by omega) _⟩
        unfold Hid
        rw [← HST.out]
        exact O3.out
      case measure => simp [intOf]; omega
    · have hR := HO.out
      rw [tanTo_all m (m - c0) n k (by omega), HZ.out] at hR
      have hd5 : decide (2 * (k : Int) + 1 ≤ (n : Int) - 1) = false := by simp; omega
      go_wp2
      go_ret
      exact ⟨some ⟨g, 0, none⟩, c1, by rw [HL.out]; rfl, by rw [HL.out]; exact hR.top (Nat.le_refl _), HB.out⟩
def TangentLawR (m d c0 : Int) : (Int × List (List Int)) × Int := if stdB m d [c0] = false then ((0, []), 2) else ((m, tab (d + 1).toNat (tanF m (m - c0))), 0)
theorem TangentLawR_len (m d c0 : Int) : cntP (TangentLawR m d c0).1.2 ≤ 200 := by
  unfold TangentLawR
  cases h : stdB m d [c0]
  · simp [cntP]
  · have := stdB_true h
    exact cntP_tab_100 _ (by omega)
set_option maxHeartbeats 1000000 in
theorem sTangentLawR_any (w : World) (m d c0 : Int) : Calls Try.prog 9 #[.int .i64 m, .int .i64 d, .int .i64 c0] w (RetPI w (TangentLawR m d c0)) := by
  have HL1 : Hid (OwnI ((w.alloc (.cells #[.int .i64 0, .slice none 0 0] 24)).alloc (.cells #[.int .i64 c0] 2)) (w.heap.size + 1) (.slice (some ⟨w.heap.size + 1, 0, none⟩) 1 1) [c0]) := by
    have h := OwnI.lit1 (w.alloc (.cells #[.int .i64 0, .slice none 0 0] 24)) c0 (B := w.heap.size + 1) (by simp)
    unfold Hid
    simpa using h
  cases hs : stdB m d [c0]
  · have HF : TangentLawR m d c0 = ((0, []), 2) := by simp [TangentLawR, hs]
    rw [HF]
    have HS := Lib.hid hs
    clear HF hs
    go_enter Try.func9, Try.ntmps9
    go_wp2_with (go_at_call 60; refine (l08Kind_any m d _ _ [c0] (w.heap.size + 1) HL1.out).mono ?_; rintro e w1 ⟨rfl, hb1⟩; rw [HS.out]; have P1 : Bf w1 w.heap.size (.int .i64 0) (.slice none 0 0) := ((Bf.alloc1 w _ _ _).alloc _).keep hb1; have K1 : Below w.heap.size w w1 := Below.trans (by (repeat (first | assumption | exact Below.refl _ _ | refine Below.alloc ?_ (by first | omega | (simp; done) | (simp; omega)) _ | refine Below.setCell ?_ (by first | omega | (simp; done) | (simp; omega)) _ | refine below_drewN ?_ _))) (hb1.mono (by simp; omega)); have p1a := P1.1.2.1; have p1b := P1.1.2.2; have p1c := P1.2.1; have p1d := P1.2.2)
    exact bodyPost_ret (v := .tuple #[.agg #[.int .i64 0, .slice none 0 0], .int .i64 2]) (by simp [results, Try.results9, go_sem, p1a, p1b]) rfl (RetPI.zero ((K1.setCell (by simp) _).setCell (by simp) _))
  · obtain ⟨hm, hdb, hcb⟩ := stdB_true hs
    have hc : 0 ≤ c0 ∧ c0 < m := by
      have h := isNumB_true (show isNumB c0 m = true by simpa [numsB] using hcb)
      exact h
    clear hcb
    obtain ⟨n, hn⟩ : ∃ n : Nat, d + 1 = (n : Int) := ⟨(d + 1).toNat, by omega⟩
    obtain ⟨ys, hy⟩ : ∃ ys, tab n (tanF m (m - c0)) = ys := ⟨_, rfl⟩
    have HF : TangentLawR m d c0 = ((m, ys), 0) := by simp only [TangentLawR, hs, hn, Int.toNat_natCast, hy]; simp
    rw [HF]
    have HYL : Hid (ys.length = n) := by unfold Hid; rw [← hy, length_tab]
    have HY := Lib.hid hy
    have HS := Lib.hid hs
    have hd1 : d = (n : Int) - 1 := by omega
    subst hd1
    clear HF hs hy hn
    go_enter Try.func9, Try.ntmps9
    go_wp2_with (first | (go_at_call 60; refine (l08Kind_any m _ _ _ [c0] (w.heap.size + 1) HL1.out).mono ?_; rintro e w1 ⟨rfl, hb1⟩; rw [HS.out]; have P1 : Bf w1 w.heap.size (.int .i64 0) (.slice none 0 0) := ((Bf.alloc1 w _ _ _).alloc _).keep hb1; have K1 : Below w.heap.size w w1 := Below.trans (by (repeat (first | assumption | exact Below.refl _ _ | refine Below.alloc ?_ (by first | omega | (simp; done) | (simp; omega)) _ | refine Below.setCell ?_ (by first | omega | (simp; done) | (simp; omega)) _ | refine below_drewN ?_ _))) (hb1.mono (by simp; omega)); have p1a := P1.1.2.1; have p1b := P1.1.2.2; have y1 := P1.1.1) | (go_at_call 62; refine (l08Tangent_any _ m _ c0 n ys (by omega) hm.1 hm.2 (by omega) (by omega) hc HY.out).mono ?_; rintro e w2 ⟨A2, c2, rfl, o2, hb2⟩; rw [HYL.out] at o2 ⊢; have O2 := Lib.hid o2; clear o2; have R2 : Below w1.heap.size w1 w2 := (Below.trans (by (repeat (first | assumption | exact Below.refl _ _ | refine Below.alloc ?_ (by first | omega | (simp; done) | (simp; omega)) _ | refine Below.setCell ?_ (by first | omega | (simp; done) | (simp; omega)) _ | refine below_drewN ?_ _))) (hb2.mono (by first | exact Nat.le_refl _ | (simp; done) | (simp; omega)))); have s2 := R2.size; have K2 : Below w.heap.size w w2 := K1.trans (R2.mono K1.size); have P2 := P1.keep R2; have p2a := P2.1.2.1; have p2b := P2.1.2.2; have z2 := P2.1.1) | (go_at_call 61; refine (l03Make_any _ m A2 n c2).mono ?_; rintro e w3 ⟨rfl, hb3⟩; have O3 := Lib.hid (O2.out.keep hb3); have R3 : Below w2.heap.size w2 w3 := (Below.trans (by (repeat (first | assumption | exact Below.refl _ _ | refine Below.alloc ?_ (by first | omega | (simp; done) | (simp; omega)) _ | refine Below.setCell ?_ (by first | omega | (simp; done) | (simp; omega)) _ | refine below_drewN ?_ _))) (hb3.mono (by first | exact Nat.le_refl _ | (simp; done) | (simp; omega)))); have s3 := R3.size; have K3 : Below w.heap.size w w3 := K2.trans (R3.mono K2.size); have P3 := P2.keep R3; have p3a := P3.1.2.1; have p3b := P3.1.2.2; have z3 := P3.1.1; have p3c := P3.2.1; have p3d := P3.2.2))
    exact bodyPost_ret (v := .tuple #[.agg #[.int .i64 m, .slice A2 n c2], .int .i64 0]) (by simp [results, Try.results9, go_sem, p3a, p3b]) rfl (RetPI.mk (O3.out.far2 (b := w.heap.size) (.inl (by omega))) HYL.out (by omega) ((K3.setCell (by simp) _).setCell (by simp) _))

/-! ### TangentLaw (impl) -/
set_option maxRecDepth 8000 in
set_option maxHeartbeats 8000000 in
theorem iTangentLawR_any (w : World) (m d c0 : Int) : Calls Try.prog 10 #[.int .i64 m, .int .i64 d, .int .i64 c0] w (RetPI w (TangentLawR m d c0)) := by
  have HL1 : Hid (OwnI ((w.alloc (.cells #[.int .i64 0, .slice none 0 0] 24)).alloc (.cells #[.int .i64 c0] 2)) (w.heap.size + 1) (.slice (some ⟨w.heap.size + 1, 0, none⟩) 1 1) [c0]) := by
    have h := OwnI.lit1 (w.alloc (.cells #[.int .i64 0, .slice none 0 0] 24)) c0 (B := w.heap.size + 1) (by simp)
    unfold Hid
    simpa using h
  cases hs : stdB m d [c0]
  · have HF : TangentLawR m d c0 = ((0, []), 2) := by simp [TangentLawR, hs]
    rw [HF]
    have HS : Hid (stdN m d [c0] = 2) := by simp [Hid, stdN, hs]
    clear HF hs
    go_enter Try.func10, Try.ntmps10
    go_wp2_with (go_at_call 63; refine (standard_any m d _ _ [c0] (w.heap.size + 1) HL1.out).mono ?_; rintro e w1 ⟨rfl, hb1⟩; rw [HS.out]; have P1 : Bf w1 w.heap.size (.int .i64 0) (.slice none 0 0) := ((Bf.alloc1 w _ _ _).alloc _).keep hb1; have K1 : Below w.heap.size w w1 := Below.trans (by (repeat (first | assumption | exact Below.refl _ _ | refine Below.alloc ?_ (by first | omega | (simp; done) | (simp; omega)) _ | refine Below.setCell ?_ (by first | omega | (simp; done) | (simp; omega)) _ | refine below_drewN ?_ _))) (hb1.mono (by simp; omega)); have p1a := P1.1.2.1; have p1b := P1.1.2.2; have p1c := P1.2.1; have p1d := P1.2.2)
    exact bodyPost_ret (v := .tuple #[.agg #[.int .i64 0, .slice none 0 0], .int .i64 2]) (by simp [results, Try.results10, go_sem, p1a, p1b]) rfl (RetPI.zero ((K1.setCell (by simp) _).setCell (by simp) _))
  · obtain ⟨hm, hdb, -⟩ := stdB_true hs
    obtain ⟨n, hn⟩ : ∃ n : Nat, d + 1 = (n : Int) := ⟨(d + 1).toNat, by omega⟩
    obtain ⟨ys, hy⟩ : ∃ ys, tab n (tanF m (m - c0)) = ys := ⟨_, rfl⟩
    have HF : TangentLawR m d c0 = ((m, ys), 0) := by simp only [TangentLawR, hs, hn, Int.toNat_natCast, hy]; simp
    rw [HF]
    have HYL : Hid (ys.length = n) := by unfold Hid; rw [← hy, length_tab]
    have hd1 : d = (n : Int) - 1 := by omega
    subst hd1
    have HS : Hid (stdN m ((n : Int) - 1) [c0] = 0) := by simp [Hid, stdN, hs]
    obtain ⟨X, hX⟩ : ∃ X, tab n (axF (varL n) 0) = X := ⟨_, rfl⟩
    obtain ⟨Y, hY⟩ : ∃ Y, tab n (axF (varL n) 1) = Y := ⟨_, rfl⟩
    obtain ⟨SU, hSU⟩ : ∃ SU, (tab n fun i j => (co2 X i j + co2 Y i j) % m) = SU := ⟨_, rfl⟩
    obtain ⟨ON, hON⟩ : ∃ ON, tab n (numF m 1) = ON := ⟨_, rfl⟩
    obtain ⟨PR, hPR⟩ : ∃ PR, tab n (tmF m n (co2 X) (co2 Y)) = PR := ⟨_, rfl⟩
    obtain ⟨SC, hSC⟩ : ∃ SC, (tab n fun i j => c0 % m * co2 PR i j % m) = SC := ⟨_, rfl⟩
    obtain ⟨UN, hUN⟩ : ∃ UN, (tab n fun i j => (co2 ON i j + co2 SC i j) % m) = UN := ⟨_, rfl⟩
    obtain ⟨IV, hIV⟩ : ∃ IV, tab n (geoF m ((m - c0) % m) 1 (n - 1)) = IV := ⟨_, rfl⟩
    have HX := Lib.hid hX
    have HY := Lib.hid hY
    have HSU := Lib.hid hSU
    have HON := Lib.hid hON
    have HPR := Lib.hid hPR
    have HSC := Lib.hid hSC
    have HUN := Lib.hid hUN
    have HIV := Lib.hid hIV
    have HXT : Hid (Tri n X) := by unfold Hid; rw [← hX]; exact Tri.tab _ _
    have HYT : Hid (Tri n Y) := by unfold Hid; rw [← hY]; exact Tri.tab _ _
    have HSUT : Hid (Tri n SU) := by unfold Hid; rw [← hSU]; exact Tri.tab _ _
    have HONT : Hid (Tri n ON) := by unfold Hid; rw [← hON]; exact Tri.tab _ _
    have HPRT : Hid (Tri n PR) := by unfold Hid; rw [← hPR]; exact Tri.tab _ _
    have HSCT : Hid (Tri n SC) := by unfold Hid; rw [← hSC]; exact Tri.tab _ _
    have HUNT : Hid (Tri n UN) := by unfold Hid; rw [← hUN]; exact Tri.tab _ _
    have HIVT : Hid (Tri n IV) := by unfold Hid; rw [← hIV]; exact Tri.tab _ _
    have HXN : Hid (Num2 m X) := by unfold Hid; rw [← hX]; exact var_num2 m hm.1 n 0
    have HYN : Hid (Num2 m Y) := by unfold Hid; rw [← hY]; exact var_num2 m hm.1 n 1
    have HSUN : Hid (Num2 m SU) := by unfold Hid; rw [← hSU]; exact mod_num2 (by omega) _ _
    have HONN : Hid (Num2 m ON) := by unfold Hid; rw [← hON]; exact Num2.tab (by omega) n _ fun i j => by unfold numF; split <;> first | exact ⟨Int.emod_nonneg _ (by omega), Int.emod_lt_of_pos _ (by omega)⟩ | omega
    have HPRN : Hid (Num2 m PR) := by unfold Hid; rw [← hPR]; exact tmF_num2 (by omega) _ _ _
    have HSCN : Hid (Num2 m SC) := by unfold Hid; rw [← hSC]; exact mod_num2 (by omega) _ _
    have HUNN : Hid (Num2 m UN) := by unfold Hid; rw [← hUN]; exact mod_num2 (by omega) _ _
    have HIVN : Hid (Num2 m IV) := by unfold Hid; rw [← hIV]; exact Num2.tab (by omega) n _ fun i j => geoF_bd (by omega) _ _ _ i j
    have HRE : Hid ((tab n fun i j => (co2 (tab n (numF m 1)) i j - co2 UN i j) % m) = tab n (sing 1 ((m - c0) % m))) := by
      unfold Hid
      have h := tan_rest m c0 n hm.1 PR (by rw [← hPR, ← hX, ← hY]; exact xy_prod m n hm.1 (by omega)) (fun i j => (co2 ON i j + co2 SC i j) % m) (fun i j _ => by rw [← hON, ← hSC])
      rw [hUN] at h
      exact h
    have HD : Hid (tab n (tmF m n (co2 SU) (co2 IV)) = ys) := by
      unfold Hid
      rw [← hSU, ← hIV, ← hX, ← hY, xy_sum m n hm.1, tan_join m _ n (by omega), ← hy]
      apply tab_congr
      intro i j _
      unfold tanF
      rw [gp_congr (Int.emod_emod _ _) i, gp_congr (Int.emod_emod _ _) j]
    have hSUL : Hid (SU.length = n) := HSUT.out.1
    have hXL : Hid (X.length = n) := HXT.out.1
    have hONL : Hid (ON.length = n) := HONT.out.1
    have hPRL : Hid (PR.length = n) := HPRT.out.1
    have hSCL : Hid (SC.length = n) := HSCT.out.1
    have hUNL : Hid (UN.length = n) := HUNT.out.1
    have hIVL : Hid (IV.length = n) := HIVT.out.1
    clear HF hs hy hn hX hY hSU hON hPR hSC hUN hIV
    go_enter Try.func10, Try.ntmps10
    go_wp2_with (first | (go_at_call 63; refine (standard_any m _ _ _ [c0] (w.heap.size + 1) HL1.out).mono ?_; rintro e w1 ⟨rfl, hb1⟩; rw [HS.out]; have P1 : Bf w1 w.heap.size (.int .i64 0) (.slice none 0 0) := ((Bf.alloc1 w _ _ _).alloc _).keep hb1; have K1 : Below w.heap.size w w1 := Below.trans (by (repeat (first | assumption | exact Below.refl _ _ | refine Below.alloc ?_ (by first | omega | (simp; done) | (simp; omega)) _ | refine Below.setCell ?_ (by first | omega | (simp; done) | (simp; omega)) _ | refine below_drewN ?_ _))) (hb1.mono (by simp; omega)); have p1a := P1.1.2.1; have p1b := P1.1.2.2; have z1 := P1.1.1) | (go_at_call 64; refine (variables_any _ m _ n (by omega) (by omega) (by omega) X Y HX.out HY.out).mono ?_; rintro e w2 ⟨A2, c2, A3, c3, rfl, o2, o3, hb2⟩; have O2 := Lib.hid o2; have O3 := Lib.hid o3; clear o2 o3; have R2 : Below w1.heap.size w1 w2 := (Below.trans (by (repeat (first | assumption | exact Below.refl _ _ | refine Below.alloc ?_ (by first | omega | (simp; done) | (simp; omega)) _ | refine Below.setCell ?_ (by first | omega | (simp; done) | (simp; omega)) _ | refine below_drewN ?_ _))) (hb2.mono (by first | exact Nat.le_refl _ | (simp; done) | (simp; omega)))); have s2 := R2.size; have K2 : Below w.heap.size w w2 := K1.trans (R2.mono K1.size); have P2 := P1.keep R2; have p2a := P2.1.2.1; have p2b := P2.1.2.2; have z2 := P2.1.1))
    obtain ⟨W, hW⟩ : ∃ W, W = (w2.alloc (.cells #[.int .i64 m, .slice A2 n c2] 24)).alloc (.cells #[.int .i64 m, .slice A3 n c3] 24) := ⟨_, rfl⟩
    rw [← hW]
    have PW : Bf W w.heap.size (.int .i64 0) (.slice none 0 0) := by rw [hW]; exact (P2.alloc _).alloc _
    have SX : Bf W w2.heap.size (.int .i64 m) (.slice A2 n c2) := by rw [hW]; exact (Bf.alloc1 w2 _ _ _).alloc _
    have SY : Bf W (w2.heap.size + 1) (.int .i64 m) (.slice A3 n c3) := by rw [hW]; exact Bf.q2
    have KW : Below w.heap.size w W := by rw [hW]; exact (K2.alloc (by omega) _).alloc (by simp; omega) _
    have OX : Hid (OwnP W w1.heap.size w2.heap.size (.slice A2 n c2) X) := by unfold Hid; rw [hW]; exact (O2.out.alloc _).alloc _
    have OY : Hid (OwnP W w1.heap.size w2.heap.size (.slice A3 n c3) Y) := by unfold Hid; rw [hW]; exact (O3.out.alloc _).alloc _
    have sXa := SX.1.2.1
    have sXb := SX.1.2.2
    have sYa := SY.1.2.1
    have sYb := SY.1.2.2
    have zSY := SY.1.1
    have zW := KW.size
    obtain ⟨bx, hbx⟩ : ∃ bx, bx = w2.heap.size := ⟨_, rfl⟩
    rw [← hbx] at SX SY sXa sXb sYa sYb zSY OX OY ⊢
    have hbx2 : w.heap.size < bx := by omega
    clear P1 K1 p1a p1b P2 K2 p2a p2b hb1 hb2 R2 O2 O3 hW hbx
    go_region_held3 (fun w' => w'.cell? ⟨bx, 0, none⟩ = some (.int .i64 m) ∧ w'.cell? ⟨bx, 1, none⟩ = some (.slice A2 n c2) ∧ w'.cell? ⟨bx + 1, 0, none⟩ = some (.int .i64 m) ∧ w'.cell? ⟨bx + 1, 1, none⟩ = some (.slice A3 n c3))
      (first | exact ⟨sXa, sXb, sYa, sYb⟩ | exact ⟨cell_store2 dXa (by omega), cell_store2 dXb (by omega), cell_store2 dYa (by omega), cell_store2 dYb (by omega)⟩ | (refine (fun (h : Below W.heap.size W _) => ⟨(SX.keep h).1.2.1, (SX.keep h).1.2.2, (SY.keep h).1.2.1, (SY.keep h).1.2.2⟩) ?_; (repeat (first | assumption | exact Below.refl _ _ | (refine Below.alloc ?_ ?_ _; rotate_left; (focus (first | exact Nat.le_refl _ | omega | (simp; done) | (simp; omega)))) | (refine Below.setCell ?_ ?_ _; rotate_left; (focus (first | exact Nat.le_refl _ | omega | (simp; done) | (simp; omega)))) | refine below_drew ?_ | refine below_drewN ?_ _ | (refine Below.trans ?_ (Below.mono hbD ?_); rotate_left; (focus (first | exact Nat.le_refl _ | omega | (simp; done) | (simp; omega)))) | (refine Below.trans ?_ (Below.mono hbS ?_); rotate_left; (focus (first | exact Nat.le_refl _ | omega | (simp; done) | (simp; omega)))) | (refine Below.trans ?_ (Below.mono hbT ?_); rotate_left; (focus (first | exact Nat.le_refl _ | omega | (simp; done) | (simp; omega)))) | (refine Below.trans ?_ (Below.mono hbP ?_); rotate_left; (focus (first | exact Nat.le_refl _ | omega | (simp; done) | (simp; omega)))))); done) | go_keep)
      (first | (go_at_call 66; have _h := hbI; refine (pTimes_any _ m _ _ SU IV ys n _ _ _ _ OPI.out HSUT.out HSUN.out OI.out HIVT.out HIVN.out (by omega) (by omega) (by omega) (by omega) HD.out).mono ?_; (rintro e wD ⟨AD, cD, rfl, oD, hbD⟩; rw [HYL.out] at oD ⊢; have HWD : Below W.heap.size W wD := (by (repeat (first | with_reducible assumption | with_reducible exact Below.refl _ _ | (refine Below.alloc ?_ ?_ _; rotate_left; (focus (first | exact Nat.le_refl _ | omega | (simp; done) | (simp; omega)))) | (refine Below.setCell ?_ ?_ _; rotate_left; (focus (first | exact Nat.le_refl _ | omega | (simp; done) | (simp; omega)))) | refine below_drew ?_ | refine below_drewN ?_ _ | (refine Below.trans ?_ (Below.mono hbD ?_); rotate_left; (focus (first | exact Nat.le_refl _ | omega | (simp; done) | (simp; omega)))) | (refine Below.trans ?_ (Below.mono hbI ?_); rotate_left; (focus (first | exact Nat.le_refl _ | omega | (simp; done) | (simp; omega)))) | (refine Below.trans ?_ (Below.mono hbU ?_); rotate_left; (focus (first | exact Nat.le_refl _ | omega | (simp; done) | (simp; omega)))) | (refine Below.trans ?_ (Below.mono hbS ?_); rotate_left; (focus (first | exact Nat.le_refl _ | omega | (simp; done) | (simp; omega)))) | (refine Below.trans ?_ (Below.mono hbT ?_); rotate_left; (focus (first | exact Nat.le_refl _ | omega | (simp; done) | (simp; omega)))) | (refine Below.trans ?_ (Below.mono hbN ?_); rotate_left; (focus (first | exact Nat.le_refl _ | omega | (simp; done) | (simp; omega)))) | (refine Below.trans ?_ (Below.mono hbP ?_); rotate_left; (focus (first | exact Nat.le_refl _ | omega | (simp; done) | (simp; omega))))))); have dXa := (SX.keep HWD).1.2.1; have dXb := (SX.keep HWD).1.2.2; have dYa := (SY.keep HWD).1.2.1; have dYb := (SY.keep HWD).1.2.2; have PD := PW.keep HWD; have pDa := PD.1.2.1; have pDb := PD.1.2.2; have pDc := PD.2.1; have pDd := PD.2.2; have zD := HWD.size)) | (go_at_call 69; refine (inverted_any _ m ((m - c0) % m) _ UN IV 1 n _ _ OU.out HUNT.out HUNN.out (by omega) (by omega) (by omega) (by omega) (Nat.le_refl _) HRE.out HIV.out).mono ?_; (rintro e wI ⟨AI, cI, rfl, oI, hbI⟩; rw [hIVL.out] at oI ⊢; have OI := Lib.hid oI; clear oI; have KI : Below W.heap.size W wI := (by (repeat (first | with_reducible assumption | with_reducible exact Below.refl _ _ | (refine Below.alloc ?_ ?_ _; rotate_left; (focus (first | exact Nat.le_refl _ | omega | (simp; done) | (simp; omega)))) | (refine Below.setCell ?_ ?_ _; rotate_left; (focus (first | exact Nat.le_refl _ | omega | (simp; done) | (simp; omega)))) | refine below_drew ?_ | refine below_drewN ?_ _ | (refine Below.trans ?_ (Below.mono hbD ?_); rotate_left; (focus (first | exact Nat.le_refl _ | omega | (simp; done) | (simp; omega)))) | (refine Below.trans ?_ (Below.mono hbI ?_); rotate_left; (focus (first | exact Nat.le_refl _ | omega | (simp; done) | (simp; omega)))) | (refine Below.trans ?_ (Below.mono hbU ?_); rotate_left; (focus (first | exact Nat.le_refl _ | omega | (simp; done) | (simp; omega)))) | (refine Below.trans ?_ (Below.mono hbS ?_); rotate_left; (focus (first | exact Nat.le_refl _ | omega | (simp; done) | (simp; omega)))) | (refine Below.trans ?_ (Below.mono hbT ?_); rotate_left; (focus (first | exact Nat.le_refl _ | omega | (simp; done) | (simp; omega)))) | (refine Below.trans ?_ (Below.mono hbN ?_); rotate_left; (focus (first | exact Nat.le_refl _ | omega | (simp; done) | (simp; omega)))) | (refine Below.trans ?_ (Below.mono hbP ?_); rotate_left; (focus (first | exact Nat.le_refl _ | omega | (simp; done) | (simp; omega))))))); have zI := KI.size; have OPI := Lib.hid (OPU.out.keep hbI))) | (go_at_call 65; have _h := hbS; refine (pPlus_any _ m _ _ ON SC UN n _ _ _ _ ONS.out HONT.out HONN.out OS.out HSCT.out HSCN.out (by omega) (by omega) (by omega) (by omega) HUN.out).mono ?_; (rintro e wU ⟨AU, cU, rfl, oU, hbU⟩; rw [hUNL.out] at oU ⊢; have OU := Lib.hid oU; clear oU; have KU : Below W.heap.size W wU := (by (repeat (first | with_reducible assumption | with_reducible exact Below.refl _ _ | (refine Below.alloc ?_ ?_ _; rotate_left; (focus (first | exact Nat.le_refl _ | omega | (simp; done) | (simp; omega)))) | (refine Below.setCell ?_ ?_ _; rotate_left; (focus (first | exact Nat.le_refl _ | omega | (simp; done) | (simp; omega)))) | refine below_drew ?_ | refine below_drewN ?_ _ | (refine Below.trans ?_ (Below.mono hbD ?_); rotate_left; (focus (first | exact Nat.le_refl _ | omega | (simp; done) | (simp; omega)))) | (refine Below.trans ?_ (Below.mono hbI ?_); rotate_left; (focus (first | exact Nat.le_refl _ | omega | (simp; done) | (simp; omega)))) | (refine Below.trans ?_ (Below.mono hbU ?_); rotate_left; (focus (first | exact Nat.le_refl _ | omega | (simp; done) | (simp; omega)))) | (refine Below.trans ?_ (Below.mono hbS ?_); rotate_left; (focus (first | exact Nat.le_refl _ | omega | (simp; done) | (simp; omega)))) | (refine Below.trans ?_ (Below.mono hbT ?_); rotate_left; (focus (first | exact Nat.le_refl _ | omega | (simp; done) | (simp; omega)))) | (refine Below.trans ?_ (Below.mono hbN ?_); rotate_left; (focus (first | exact Nat.le_refl _ | omega | (simp; done) | (simp; omega)))) | (refine Below.trans ?_ (Below.mono hbP ?_); rotate_left; (focus (first | exact Nat.le_refl _ | omega | (simp; done) | (simp; omega))))))); have zU := KU.size; have OPU := Lib.hid (OPS.out.keep hbU))) | (go_at_call 68; refine (pScaled_any _ m c0 _ PR SC n _ _ OT.out HPRT.out HPRN.out (by omega) (by omega) (by omega) (by omega) HSC.out).mono ?_; (rintro e wS ⟨AS, cS, rfl, oS, hbS⟩; rw [hSCL.out] at oS ⊢; have OS := Lib.hid oS; clear oS; have KS : Below W.heap.size W wS := (by (repeat (first | with_reducible assumption | with_reducible exact Below.refl _ _ | (refine Below.alloc ?_ ?_ _; rotate_left; (focus (first | exact Nat.le_refl _ | omega | (simp; done) | (simp; omega)))) | (refine Below.setCell ?_ ?_ _; rotate_left; (focus (first | exact Nat.le_refl _ | omega | (simp; done) | (simp; omega)))) | refine below_drew ?_ | refine below_drewN ?_ _ | (refine Below.trans ?_ (Below.mono hbD ?_); rotate_left; (focus (first | exact Nat.le_refl _ | omega | (simp; done) | (simp; omega)))) | (refine Below.trans ?_ (Below.mono hbI ?_); rotate_left; (focus (first | exact Nat.le_refl _ | omega | (simp; done) | (simp; omega)))) | (refine Below.trans ?_ (Below.mono hbU ?_); rotate_left; (focus (first | exact Nat.le_refl _ | omega | (simp; done) | (simp; omega)))) | (refine Below.trans ?_ (Below.mono hbS ?_); rotate_left; (focus (first | exact Nat.le_refl _ | omega | (simp; done) | (simp; omega)))) | (refine Below.trans ?_ (Below.mono hbT ?_); rotate_left; (focus (first | exact Nat.le_refl _ | omega | (simp; done) | (simp; omega)))) | (refine Below.trans ?_ (Below.mono hbN ?_); rotate_left; (focus (first | exact Nat.le_refl _ | omega | (simp; done) | (simp; omega)))) | (refine Below.trans ?_ (Below.mono hbP ?_); rotate_left; (focus (first | exact Nat.le_refl _ | omega | (simp; done) | (simp; omega))))))); have zS := KS.size; have OPS := Lib.hid (OPT.out.keep hbS); have ONS := Lib.hid (ONT.out.keep hbS))) | (go_at_call 66; refine (pTimes_any _ m _ _ X Y PR n _ _ _ _ (OX.out.keep (by (repeat (first | with_reducible assumption | with_reducible exact Below.refl _ _ | (refine Below.alloc ?_ ?_ _; rotate_left; (focus (first | exact Nat.le_refl _ | omega | (simp; done) | (simp; omega)))) | (refine Below.setCell ?_ ?_ _; rotate_left; (focus (first | exact Nat.le_refl _ | omega | (simp; done) | (simp; omega)))) | refine below_drew ?_ | refine below_drewN ?_ _ | (refine Below.trans ?_ (Below.mono hbD ?_); rotate_left; (focus (first | exact Nat.le_refl _ | omega | (simp; done) | (simp; omega)))) | (refine Below.trans ?_ (Below.mono hbI ?_); rotate_left; (focus (first | exact Nat.le_refl _ | omega | (simp; done) | (simp; omega)))) | (refine Below.trans ?_ (Below.mono hbU ?_); rotate_left; (focus (first | exact Nat.le_refl _ | omega | (simp; done) | (simp; omega)))) | (refine Below.trans ?_ (Below.mono hbS ?_); rotate_left; (focus (first | exact Nat.le_refl _ | omega | (simp; done) | (simp; omega)))) | (refine Below.trans ?_ (Below.mono hbT ?_); rotate_left; (focus (first | exact Nat.le_refl _ | omega | (simp; done) | (simp; omega)))) | (refine Below.trans ?_ (Below.mono hbN ?_); rotate_left; (focus (first | exact Nat.le_refl _ | omega | (simp; done) | (simp; omega)))) | (refine Below.trans ?_ (Below.mono hbP ?_); rotate_left; (focus (first | exact Nat.le_refl _ | omega | (simp; done) | (simp; omega)))))))) HXT.out HXN.out (OY.out.keep (by (repeat (first | with_reducible assumption | with_reducible exact Below.refl _ _ | (refine Below.alloc ?_ ?_ _; rotate_left; (focus (first | exact Nat.le_refl _ | omega | (simp; done) | (simp; omega)))) | (refine Below.setCell ?_ ?_ _; rotate_left; (focus (first | exact Nat.le_refl _ | omega | (simp; done) | (simp; omega)))) | refine below_drew ?_ | refine below_drewN ?_ _ | (refine Below.trans ?_ (Below.mono hbD ?_); rotate_left; (focus (first | exact Nat.le_refl _ | omega | (simp; done) | (simp; omega)))) | (refine Below.trans ?_ (Below.mono hbI ?_); rotate_left; (focus (first | exact Nat.le_refl _ | omega | (simp; done) | (simp; omega)))) | (refine Below.trans ?_ (Below.mono hbU ?_); rotate_left; (focus (first | exact Nat.le_refl _ | omega | (simp; done) | (simp; omega)))) | (refine Below.trans ?_ (Below.mono hbS ?_); rotate_left; (focus (first | exact Nat.le_refl _ | omega | (simp; done) | (simp; omega)))) | (refine Below.trans ?_ (Below.mono hbT ?_); rotate_left; (focus (first | exact Nat.le_refl _ | omega | (simp; done) | (simp; omega)))) | (refine Below.trans ?_ (Below.mono hbN ?_); rotate_left; (focus (first | exact Nat.le_refl _ | omega | (simp; done) | (simp; omega)))) | (refine Below.trans ?_ (Below.mono hbP ?_); rotate_left; (focus (first | exact Nat.le_refl _ | omega | (simp; done) | (simp; omega)))))))) HYT.out HYN.out (by omega) (by omega) (by omega) (by omega) HPR.out).mono ?_; (rintro e wT ⟨AT, cT, rfl, oT, hbT⟩; rw [hPRL.out] at oT ⊢; have OT := Lib.hid oT; clear oT; have KT : Below W.heap.size W wT := (by (repeat (first | with_reducible assumption | with_reducible exact Below.refl _ _ | (refine Below.alloc ?_ ?_ _; rotate_left; (focus (first | exact Nat.le_refl _ | omega | (simp; done) | (simp; omega)))) | (refine Below.setCell ?_ ?_ _; rotate_left; (focus (first | exact Nat.le_refl _ | omega | (simp; done) | (simp; omega)))) | refine below_drew ?_ | refine below_drewN ?_ _ | (refine Below.trans ?_ (Below.mono hbD ?_); rotate_left; (focus (first | exact Nat.le_refl _ | omega | (simp; done) | (simp; omega)))) | (refine Below.trans ?_ (Below.mono hbI ?_); rotate_left; (focus (first | exact Nat.le_refl _ | omega | (simp; done) | (simp; omega)))) | (refine Below.trans ?_ (Below.mono hbU ?_); rotate_left; (focus (first | exact Nat.le_refl _ | omega | (simp; done) | (simp; omega)))) | (refine Below.trans ?_ (Below.mono hbS ?_); rotate_left; (focus (first | exact Nat.le_refl _ | omega | (simp; done) | (simp; omega)))) | (refine Below.trans ?_ (Below.mono hbT ?_); rotate_left; (focus (first | exact Nat.le_refl _ | omega | (simp; done) | (simp; omega)))) | (refine Below.trans ?_ (Below.mono hbN ?_); rotate_left; (focus (first | exact Nat.le_refl _ | omega | (simp; done) | (simp; omega)))) | (refine Below.trans ?_ (Below.mono hbP ?_); rotate_left; (focus (first | exact Nat.le_refl _ | omega | (simp; done) | (simp; omega))))))); have zT := KT.size; have OPT := Lib.hid (OPN.out.keep hbT); have ONT := Lib.hid (OON.out.keep hbT))) | (go_at_call 67; refine (number_any _ m _ X ON 1 n _ _ (OX.out.keep (by (repeat (first | with_reducible assumption | with_reducible exact Below.refl _ _ | (refine Below.alloc ?_ ?_ _; rotate_left; (focus (first | exact Nat.le_refl _ | omega | (simp; done) | (simp; omega)))) | (refine Below.setCell ?_ ?_ _; rotate_left; (focus (first | exact Nat.le_refl _ | omega | (simp; done) | (simp; omega)))) | refine below_drew ?_ | refine below_drewN ?_ _ | (refine Below.trans ?_ (Below.mono hbD ?_); rotate_left; (focus (first | exact Nat.le_refl _ | omega | (simp; done) | (simp; omega)))) | (refine Below.trans ?_ (Below.mono hbI ?_); rotate_left; (focus (first | exact Nat.le_refl _ | omega | (simp; done) | (simp; omega)))) | (refine Below.trans ?_ (Below.mono hbU ?_); rotate_left; (focus (first | exact Nat.le_refl _ | omega | (simp; done) | (simp; omega)))) | (refine Below.trans ?_ (Below.mono hbS ?_); rotate_left; (focus (first | exact Nat.le_refl _ | omega | (simp; done) | (simp; omega)))) | (refine Below.trans ?_ (Below.mono hbT ?_); rotate_left; (focus (first | exact Nat.le_refl _ | omega | (simp; done) | (simp; omega)))) | (refine Below.trans ?_ (Below.mono hbN ?_); rotate_left; (focus (first | exact Nat.le_refl _ | omega | (simp; done) | (simp; omega)))) | (refine Below.trans ?_ (Below.mono hbP ?_); rotate_left; (focus (first | exact Nat.le_refl _ | omega | (simp; done) | (simp; omega)))))))) hXL.out (by omega) (by omega) (by omega) (by omega) HON.out).mono ?_; (rintro e wN ⟨AN, cN, rfl, oN, hbN⟩; rw [hONL.out] at oN ⊢; have OON := Lib.hid oN; clear oN; have KN : Below W.heap.size W wN := (by (repeat (first | with_reducible assumption | with_reducible exact Below.refl _ _ | (refine Below.alloc ?_ ?_ _; rotate_left; (focus (first | exact Nat.le_refl _ | omega | (simp; done) | (simp; omega)))) | (refine Below.setCell ?_ ?_ _; rotate_left; (focus (first | exact Nat.le_refl _ | omega | (simp; done) | (simp; omega)))) | refine below_drew ?_ | refine below_drewN ?_ _ | (refine Below.trans ?_ (Below.mono hbD ?_); rotate_left; (focus (first | exact Nat.le_refl _ | omega | (simp; done) | (simp; omega)))) | (refine Below.trans ?_ (Below.mono hbI ?_); rotate_left; (focus (first | exact Nat.le_refl _ | omega | (simp; done) | (simp; omega)))) | (refine Below.trans ?_ (Below.mono hbU ?_); rotate_left; (focus (first | exact Nat.le_refl _ | omega | (simp; done) | (simp; omega)))) | (refine Below.trans ?_ (Below.mono hbS ?_); rotate_left; (focus (first | exact Nat.le_refl _ | omega | (simp; done) | (simp; omega)))) | (refine Below.trans ?_ (Below.mono hbT ?_); rotate_left; (focus (first | exact Nat.le_refl _ | omega | (simp; done) | (simp; omega)))) | (refine Below.trans ?_ (Below.mono hbN ?_); rotate_left; (focus (first | exact Nat.le_refl _ | omega | (simp; done) | (simp; omega)))) | (refine Below.trans ?_ (Below.mono hbP ?_); rotate_left; (focus (first | exact Nat.le_refl _ | omega | (simp; done) | (simp; omega))))))); have zN := KN.size; have OPN := Lib.hid (OP.out.keep hbN))) | (go_at_call 65; refine (pPlus_any _ m _ _ X Y SU n _ _ _ _ (OX.out.keep (by (repeat (first | with_reducible assumption | with_reducible exact Below.refl _ _ | (refine Below.alloc ?_ ?_ _; rotate_left; (focus (first | exact Nat.le_refl _ | omega | (simp; done) | (simp; omega)))) | (refine Below.setCell ?_ ?_ _; rotate_left; (focus (first | exact Nat.le_refl _ | omega | (simp; done) | (simp; omega)))) | refine below_drew ?_ | refine below_drewN ?_ _ | (refine Below.trans ?_ (Below.mono hbD ?_); rotate_left; (focus (first | exact Nat.le_refl _ | omega | (simp; done) | (simp; omega)))) | (refine Below.trans ?_ (Below.mono hbI ?_); rotate_left; (focus (first | exact Nat.le_refl _ | omega | (simp; done) | (simp; omega)))) | (refine Below.trans ?_ (Below.mono hbU ?_); rotate_left; (focus (first | exact Nat.le_refl _ | omega | (simp; done) | (simp; omega)))) | (refine Below.trans ?_ (Below.mono hbS ?_); rotate_left; (focus (first | exact Nat.le_refl _ | omega | (simp; done) | (simp; omega)))) | (refine Below.trans ?_ (Below.mono hbT ?_); rotate_left; (focus (first | exact Nat.le_refl _ | omega | (simp; done) | (simp; omega)))) | (refine Below.trans ?_ (Below.mono hbN ?_); rotate_left; (focus (first | exact Nat.le_refl _ | omega | (simp; done) | (simp; omega)))) | (refine Below.trans ?_ (Below.mono hbP ?_); rotate_left; (focus (first | exact Nat.le_refl _ | omega | (simp; done) | (simp; omega)))))))) HXT.out HXN.out (OY.out.keep (by (repeat (first | with_reducible assumption | with_reducible exact Below.refl _ _ | (refine Below.alloc ?_ ?_ _; rotate_left; (focus (first | exact Nat.le_refl _ | omega | (simp; done) | (simp; omega)))) | (refine Below.setCell ?_ ?_ _; rotate_left; (focus (first | exact Nat.le_refl _ | omega | (simp; done) | (simp; omega)))) | refine below_drew ?_ | refine below_drewN ?_ _ | (refine Below.trans ?_ (Below.mono hbD ?_); rotate_left; (focus (first | exact Nat.le_refl _ | omega | (simp; done) | (simp; omega)))) | (refine Below.trans ?_ (Below.mono hbI ?_); rotate_left; (focus (first | exact Nat.le_refl _ | omega | (simp; done) | (simp; omega)))) | (refine Below.trans ?_ (Below.mono hbU ?_); rotate_left; (focus (first | exact Nat.le_refl _ | omega | (simp; done) | (simp; omega)))) | (refine Below.trans ?_ (Below.mono hbS ?_); rotate_left; (focus (first | exact Nat.le_refl _ | omega | (simp; done) | (simp; omega)))) | (refine Below.trans ?_ (Below.mono hbT ?_); rotate_left; (focus (first | exact Nat.le_refl _ | omega | (simp; done) | (simp; omega)))) | (refine Below.trans ?_ (Below.mono hbN ?_); rotate_left; (focus (first | exact Nat.le_refl _ | omega | (simp; done) | (simp; omega)))) | (refine Below.trans ?_ (Below.mono hbP ?_); rotate_left; (focus (first | exact Nat.le_refl _ | omega | (simp; done) | (simp; omega)))))))) HYT.out HYN.out (by omega) (by omega) (by omega) (by omega) HSU.out).mono ?_; (rintro e wP ⟨AP, cP, rfl, oP, hbP⟩; rw [hSUL.out] at oP ⊢; have OP := Lib.hid oP; clear oP; have KP : Below W.heap.size W wP := (by (repeat (first | with_reducible assumption | with_reducible exact Below.refl _ _ | (refine Below.alloc ?_ ?_ _; rotate_left; (focus (first | exact Nat.le_refl _ | omega | (simp; done) | (simp; omega)))) | (refine Below.setCell ?_ ?_ _; rotate_left; (focus (first | exact Nat.le_refl _ | omega | (simp; done) | (simp; omega)))) | refine below_drew ?_ | refine below_drewN ?_ _ | (refine Below.trans ?_ (Below.mono hbD ?_); rotate_left; (focus (first | exact Nat.le_refl _ | omega | (simp; done) | (simp; omega)))) | (refine Below.trans ?_ (Below.mono hbI ?_); rotate_left; (focus (first | exact Nat.le_refl _ | omega | (simp; done) | (simp; omega)))) | (refine Below.trans ?_ (Below.mono hbU ?_); rotate_left; (focus (first | exact Nat.le_refl _ | omega | (simp; done) | (simp; omega)))) | (refine Below.trans ?_ (Below.mono hbS ?_); rotate_left; (focus (first | exact Nat.le_refl _ | omega | (simp; done) | (simp; omega)))) | (refine Below.trans ?_ (Below.mono hbT ?_); rotate_left; (focus (first | exact Nat.le_refl _ | omega | (simp; done) | (simp; omega)))) | (refine Below.trans ?_ (Below.mono hbN ?_); rotate_left; (focus (first | exact Nat.le_refl _ | omega | (simp; done) | (simp; omega)))) | (refine Below.trans ?_ (Below.mono hbP ?_); rotate_left; (focus (first | exact Nat.le_refl _ | omega | (simp; done) | (simp; omega))))))); have zP := KP.size)))
    all_goals
      go_wp2
      exact bodyPost_ret (v := .tuple #[.agg #[.int .i64 m, .slice AD n cD], .int .i64 0]) (by simp [results, Try.results10, go_sem, pDa, pDb]) rfl (RetPI.mk (oD.far2 (.inl (by omega))) HYL.out (by omega) (((KW.trans (HWD.mono (by omega))).setCell (by simp) _).setCell (by simp) _))

/-! ### The laws' walks, printed by genlaw2.py -/
set_option maxHeartbeats 4000000 in
theorem FnExactTangentLaw_walk (w : World) (a0 : Int) (a1 : Int) (a2 : Int) : Calls Try.prog 3 #[.int .i64 a0, .int .i64 a1, .int .i64 a2] w fun e w' => e = .returned (.bool true) ∧ Below w.heap.size w w' := by
  obtain ⟨r0, HR⟩ : ∃ r0, Hid (TangentLawR a0 a1 a2 = r0) := ⟨_, rfl⟩
  obtain ⟨⟨rm, rl⟩, rc⟩ := r0
  have hlen := TangentLawR_len a0 a1 a2
  rw [HR.out] at hlen
  simp only at hlen
  go_enter Try.func3, Try.ntmps3
  go_wp2_with fail
  refine (sTangentLawR_any _ a0 a1 a2).mono ?_
  rintro e w1 h_r
  replace h_r := h_r.of HR
  obtain ⟨A_ow, c_ow, rfl, o_ow, hb1⟩ := h_r
  have o_ow' := (o_ow).mono (show w.heap.size ≤ _ from by first | exact Nat.le_refl _ | (simp; done) | (simp; omega)) (Nat.le_refl _)
  clear o_ow
  have R : Below w.heap.size w w1 := Below.trans (by (repeat (first | assumption | exact Below.refl _ _ | refine Below.alloc ?_ (by first | omega | (simp; done) | (simp; omega)) _ | refine Below.setCell ?_ (by first | omega | (simp; done) | (simp; omega)) _ | refine below_drewN ?_ _))) (hb1.mono (by first | exact Nat.le_refl _ | (simp; done) | (simp; omega)))
  have s1 : w.heap.size ≤ w1.heap.size := R.size
  have K1 : Hid (Below w.heap.size w w1) := R
  clear R hb1
  have ow : Hid (OwnP w1 w.heap.size w1.heap.size (.slice A_ow rl.length c_ow) rl) := o_ow'
  clear o_ow'
  go_wp2_with fail
  refine (iTangentLawR_any _ a0 a1 a2).mono ?_
  rintro e w2 h_r
  replace h_r := h_r.of HR
  obtain ⟨A_og, c_og, rfl, o_og, hb2⟩ := h_r
  have o_og' := (o_og).mono (show (w1.heap.size + 1) ≤ _ from by first | exact Nat.le_refl _ | (simp; done) | (simp; omega)) (Nat.le_refl _)
  clear o_og
  have R : Below w1.heap.size w1 w2 := Below.trans (by (repeat (first | assumption | exact Below.refl _ _ | refine Below.alloc ?_ (by first | omega | (simp; done) | (simp; omega)) _ | refine Below.setCell ?_ (by first | omega | (simp; done) | (simp; omega)) _ | refine below_drewN ?_ _))) (hb2.mono (by first | exact Nat.le_refl _ | (simp; done) | (simp; omega)))
  have s2 : w1.heap.size ≤ w2.heap.size := R.size
  have K2 : Hid (Below w.heap.size w w2) := K1.out.trans (R.mono (by omega))
  replace ow : Hid (OwnP w2 w.heap.size w1.heap.size (.slice A_ow rl.length c_ow) rl) := ow.out.keep R
  have bw : Hid (Bx w2 w1.heap.size (.int .i64 rm) (.slice A_ow rl.length c_ow)) := ⟨by have := hb2.size; simp at this; omega, by rw [hb2.cell (by first | (simp; done) | (simp; omega))]; simp, by rw [hb2.cell (by first | (simp; done) | (simp; omega))]; simp⟩
  clear R hb2
  have og : Hid (OwnP w2 (w1.heap.size + 1) w2.heap.size (.slice A_og rl.length c_og) rl) := o_og'
  clear o_og'
  have bw_c := bw.out.2.1
  have bw_d := bw.out.2.2
  have bw_z := bw.out.1
  go_wp2_with fail
  refine (eqP_any _ rm rm _ _ _ _ (og.out.keep (by (repeat (first | assumption | exact Below.refl _ _ | refine Below.alloc ?_ (by first | omega | (simp; done) | (simp; omega)) _ | refine Below.setCell ?_ (by first | omega | (simp; done) | (simp; omega)) _ | refine below_drewN ?_ _)))).rd (ow.out.keep (by (repeat (first | assumption | exact Below.refl _ _ | refine Below.alloc ?_ (by first | omega | (simp; done) | (simp; omega)) _ | refine Below.setCell ?_ (by first | omega | (simp; done) | (simp; omega)) _ | refine below_drewN ?_ _)))).rd).mono ?_
  rintro e w3 ⟨rfl, hb3⟩
  clear bw_c bw_d bw_z
  have R : Below w2.heap.size w2 w3 := Below.trans (by (repeat (first | assumption | exact Below.refl _ _ | refine Below.alloc ?_ (by first | omega | (simp; done) | (simp; omega)) _ | refine Below.setCell ?_ (by first | omega | (simp; done) | (simp; omega)) _ | refine below_drewN ?_ _))) (hb3.mono (by first | exact Nat.le_refl _ | (simp; done) | (simp; omega)))
  have s3 : w2.heap.size ≤ w3.heap.size := R.size
  have K3 : Hid (Below w.heap.size w w3) := K2.out.trans (R.mono (by omega))
  replace bw : Hid (Bx w3 w1.heap.size (.int .i64 rm) (.slice A_ow rl.length c_ow)) := bw.out.keep R
  replace ow : Hid (OwnP w3 w.heap.size w1.heap.size (.slice A_ow rl.length c_ow) rl) := ow.out.keep R
  replace og : Hid (OwnP w3 (w1.heap.size + 1) w2.heap.size (.slice A_og rl.length c_og) rl) := og.out.keep R
  have bg : Hid (Bx w3 w2.heap.size (.int .i64 rm) (.slice A_og rl.length c_og)) := ⟨by have := hb3.size; simp at this; omega, by rw [hb3.cell (by first | (simp; done) | (simp; omega))]; simp, by rw [hb3.cell (by first | (simp; done) | (simp; omega))]; simp⟩
  clear R hb3
  have bw_c := bw.out.2.1
  have bw_d := bw.out.2.2
  have bw_z := bw.out.1
  have bg_c := bg.out.2.1
  have bg_d := bg.out.2.2
  have bg_z := bg.out.1
  go_wp2_with fail
  refine (markPB_any _ (w1.heap.size + 1) w2.heap.size rm _ rl (1) (og.out.keep (by (repeat (first | assumption | exact Below.refl _ _ | refine Below.alloc ?_ (by first | omega | (simp; done) | (simp; omega)) _ | refine Below.setCell ?_ (by first | omega | (simp; done) | (simp; omega)) _ | refine below_drewN ?_ _)))) (by omega) (by omega) (by omega)).mono ?_
  rintro e w4 ⟨rfl, o_m, hg4⟩
  clear bw_c bw_d bw_z
  clear bg_c bg_d bg_z
  have R : Within (w1.heap.size + 1) w2.heap.size w3 w4 := Within.behind (by (repeat (first | assumption | exact Below.refl _ _ | refine Below.alloc ?_ (by first | omega | (simp; done) | (simp; omega)) _ | refine Below.setCell ?_ (by first | omega | (simp; done) | (simp; omega)) _ | refine below_drewN ?_ _))) hg4
  have s4 : w3.heap.size ≤ w4.heap.size := R.2.2.2.1
  have K4 : Hid (Below w.heap.size w w4) := R.below K3.out (by omega) (by omega)
  replace bw : Hid (Bx w4 w1.heap.size (.int .i64 rm) (.slice A_ow rl.length c_ow)) := bw.out.within R (by omega)
  replace bg : Hid (Bx w4 w2.heap.size (.int .i64 rm) (.slice A_og rl.length c_og)) := bg.out.within R (by omega)
  replace ow : Hid (OwnP w4 w.heap.size w1.heap.size (.slice A_ow rl.length c_ow) rl) := ow.out.within R (by omega)
  clear R hg4
  replace og : Hid (OwnP w4 (w1.heap.size + 1) w2.heap.size (.slice A_og rl.length c_og) (mkP (1) rl)) := o_m
  clear o_m
  have bw_c := bw.out.2.1
  have bw_d := bw.out.2.2
  have bw_z := bw.out.1
  have bg_c := bg.out.2.1
  have bg_d := bg.out.2.2
  have bg_z := bg.out.1
  go_wp2_with fail
  refine (heldPB_any _ (w1.heap.size + 1) w2.heap.size rm _ rl (1) (og.out.keep (by (repeat (first | assumption | exact Below.refl _ _ | refine Below.alloc ?_ (by first | omega | (simp; done) | (simp; omega)) _ | refine Below.setCell ?_ (by first | omega | (simp; done) | (simp; omega)) _ | refine below_drewN ?_ _)))) (by omega) (by omega) (by omega)).mono ?_
  rintro e w5 ⟨rfl, hb5⟩
  clear bw_c bw_d bw_z
  clear bg_c bg_d bg_z
  have R : Below w4.heap.size w4 w5 := Below.trans (by (repeat (first | assumption | exact Below.refl _ _ | refine Below.alloc ?_ (by first | omega | (simp; done) | (simp; omega)) _ | refine Below.setCell ?_ (by first | omega | (simp; done) | (simp; omega)) _ | refine below_drewN ?_ _))) (hb5.mono (by first | exact Nat.le_refl _ | (simp; done) | (simp; omega)))
  have s5 : w4.heap.size ≤ w5.heap.size := R.size
  have K5 : Hid (Below w.heap.size w w5) := K4.out.trans (R.mono (by omega))
  replace bw : Hid (Bx w5 w1.heap.size (.int .i64 rm) (.slice A_ow rl.length c_ow)) := bw.out.keep R
  replace bg : Hid (Bx w5 w2.heap.size (.int .i64 rm) (.slice A_og rl.length c_og)) := bg.out.keep R
  replace ow : Hid (OwnP w5 w.heap.size w1.heap.size (.slice A_ow rl.length c_ow) rl) := ow.out.keep R
  replace og : Hid (OwnP w5 (w1.heap.size + 1) w2.heap.size (.slice A_og rl.length c_og) (mkP (1) rl)) := og.out.keep R
  clear R hb5
  have bw_c := bw.out.2.1
  have bw_d := bw.out.2.2
  have bw_z := bw.out.1
  have bg_c := bg.out.2.1
  have bg_d := bg.out.2.2
  have bg_z := bg.out.1
  go_wp2_with fail
  refine (iTangentLawR_any _ a0 a1 a2).mono ?_
  rintro e w6 h_r
  replace h_r := h_r.of HR
  obtain ⟨A_oh, c_oh, rfl, o_oh, hb6⟩ := h_r
  have o_oh' := (o_oh).mono (show w5.heap.size ≤ _ from by first | exact Nat.le_refl _ | (simp; done) | (simp; omega)) (Nat.le_refl _)
  clear o_oh
  clear bw_c bw_d bw_z
  clear bg_c bg_d bg_z
  have R : Below w5.heap.size w5 w6 := Below.trans (by (repeat (first | assumption | exact Below.refl _ _ | refine Below.alloc ?_ (by first | omega | (simp; done) | (simp; omega)) _ | refine Below.setCell ?_ (by first | omega | (simp; done) | (simp; omega)) _ | refine below_drewN ?_ _))) (hb6.mono (by first | exact Nat.le_refl _ | (simp; done) | (simp; omega)))
  have s6 : w5.heap.size ≤ w6.heap.size := R.size
  have K6 : Hid (Below w.heap.size w w6) := K5.out.trans (R.mono (by omega))
  replace bw : Hid (Bx w6 w1.heap.size (.int .i64 rm) (.slice A_ow rl.length c_ow)) := bw.out.keep R
  replace bg : Hid (Bx w6 w2.heap.size (.int .i64 rm) (.slice A_og rl.length c_og)) := bg.out.keep R
  replace ow : Hid (OwnP w6 w.heap.size w1.heap.size (.slice A_ow rl.length c_ow) rl) := ow.out.keep R
  replace og : Hid (OwnP w6 (w1.heap.size + 1) w2.heap.size (.slice A_og rl.length c_og) (mkP (1) rl)) := og.out.keep R
  clear R hb6
  have oh : Hid (OwnP w6 w5.heap.size w6.heap.size (.slice A_oh rl.length c_oh) rl) := o_oh'
  clear o_oh'
  have bw_c := bw.out.2.1
  have bw_d := bw.out.2.2
  have bw_z := bw.out.1
  have bg_c := bg.out.2.1
  have bg_d := bg.out.2.2
  have bg_z := bg.out.1
  go_wp2_with fail
  refine (eqP_any _ rm rm _ _ _ _ (oh.out.keep (by (repeat (first | assumption | exact Below.refl _ _ | refine Below.alloc ?_ (by first | omega | (simp; done) | (simp; omega)) _ | refine Below.setCell ?_ (by first | omega | (simp; done) | (simp; omega)) _ | refine below_drewN ?_ _)))).rd (ow.out.keep (by (repeat (first | assumption | exact Below.refl _ _ | refine Below.alloc ?_ (by first | omega | (simp; done) | (simp; omega)) _ | refine Below.setCell ?_ (by first | omega | (simp; done) | (simp; omega)) _ | refine below_drewN ?_ _)))).rd).mono ?_
  rintro e w7 ⟨rfl, hb7⟩
  clear bw_c bw_d bw_z
  clear bg_c bg_d bg_z
  have R : Below w6.heap.size w6 w7 := Below.trans (by (repeat (first | assumption | exact Below.refl _ _ | refine Below.alloc ?_ (by first | omega | (simp; done) | (simp; omega)) _ | refine Below.setCell ?_ (by first | omega | (simp; done) | (simp; omega)) _ | refine below_drewN ?_ _))) (hb7.mono (by first | exact Nat.le_refl _ | (simp; done) | (simp; omega)))
  have s7 : w6.heap.size ≤ w7.heap.size := R.size
  have K7 : Hid (Below w.heap.size w w7) := K6.out.trans (R.mono (by omega))
  replace bw : Hid (Bx w7 w1.heap.size (.int .i64 rm) (.slice A_ow rl.length c_ow)) := bw.out.keep R
  replace bg : Hid (Bx w7 w2.heap.size (.int .i64 rm) (.slice A_og rl.length c_og)) := bg.out.keep R
  replace ow : Hid (OwnP w7 w.heap.size w1.heap.size (.slice A_ow rl.length c_ow) rl) := ow.out.keep R
  replace og : Hid (OwnP w7 (w1.heap.size + 1) w2.heap.size (.slice A_og rl.length c_og) (mkP (1) rl)) := og.out.keep R
  replace oh : Hid (OwnP w7 w5.heap.size w6.heap.size (.slice A_oh rl.length c_oh) rl) := oh.out.keep R
  have bh : Hid (Bx w7 w6.heap.size (.int .i64 rm) (.slice A_oh rl.length c_oh)) := ⟨by have := hb7.size; simp at this; omega, by rw [hb7.cell (by first | (simp; done) | (simp; omega))]; simp, by rw [hb7.cell (by first | (simp; done) | (simp; omega))]; simp⟩
  clear R hb7
  have bw_c := bw.out.2.1
  have bw_d := bw.out.2.2
  have bw_z := bw.out.1
  have bg_c := bg.out.2.1
  have bg_d := bg.out.2.2
  have bg_z := bg.out.1
  have bh_c := bh.out.2.1
  have bh_d := bh.out.2.2
  have bh_z := bh.out.1
  go_wp2_with fail
  refine (heldPB_any _ (w1.heap.size + 1) w2.heap.size rm _ rl (1) (og.out.keep (by (repeat (first | assumption | exact Below.refl _ _ | refine Below.alloc ?_ (by first | omega | (simp; done) | (simp; omega)) _ | refine Below.setCell ?_ (by first | omega | (simp; done) | (simp; omega)) _ | refine below_drewN ?_ _)))) (by omega) (by omega) (by omega)).mono ?_
  rintro e w8 ⟨rfl, hb8⟩
  clear bw_c bw_d bw_z
  clear bg_c bg_d bg_z
  clear bh_c bh_d bh_z
  have R : Below w7.heap.size w7 w8 := Below.trans (by (repeat (first | assumption | exact Below.refl _ _ | refine Below.alloc ?_ (by first | omega | (simp; done) | (simp; omega)) _ | refine Below.setCell ?_ (by first | omega | (simp; done) | (simp; omega)) _ | refine below_drewN ?_ _))) (hb8.mono (by first | exact Nat.le_refl _ | (simp; done) | (simp; omega)))
  have s8 : w7.heap.size ≤ w8.heap.size := R.size
  have K8 : Hid (Below w.heap.size w w8) := K7.out.trans (R.mono (by omega))
  replace bw : Hid (Bx w8 w1.heap.size (.int .i64 rm) (.slice A_ow rl.length c_ow)) := bw.out.keep R
  replace bg : Hid (Bx w8 w2.heap.size (.int .i64 rm) (.slice A_og rl.length c_og)) := bg.out.keep R
  replace bh : Hid (Bx w8 w6.heap.size (.int .i64 rm) (.slice A_oh rl.length c_oh)) := bh.out.keep R
  replace ow : Hid (OwnP w8 w.heap.size w1.heap.size (.slice A_ow rl.length c_ow) rl) := ow.out.keep R
  replace og : Hid (OwnP w8 (w1.heap.size + 1) w2.heap.size (.slice A_og rl.length c_og) (mkP (1) rl)) := og.out.keep R
  replace oh : Hid (OwnP w8 w5.heap.size w6.heap.size (.slice A_oh rl.length c_oh) rl) := oh.out.keep R
  clear R hb8
  have bw_c := bw.out.2.1
  have bw_d := bw.out.2.2
  have bw_z := bw.out.1
  have bg_c := bg.out.2.1
  have bg_d := bg.out.2.2
  have bg_z := bg.out.1
  have bh_c := bh.out.2.1
  have bh_d := bh.out.2.2
  have bh_z := bh.out.1
  go_wp2
  go_ret
  exact ⟨rfl, K8.out⟩


end Go.Proofs.Ytmppmnmkhfcoaaa
