/- Contracts over this seat's translation. Condition: each contract's own. -/
import Derived.Test.YtenofgofcioffaaM
import Derived.ProofKit
import Derived.OpenShut
import Derived.Below
import Derived.ChangeSame
import Derived.Deep.Modes
import Derived.Lib.SmallJoins
import Derived.ChangeSlices
import Derived.WalkKit
import Derived.WalkSpells
import Derived.WalkLawsBesides
import Derived.Deep.QuietTactic
import Derived.BigQuiet
import Derived.Deep.RegionHeld3
import Derived.Deep.RegionWith
import Derived.Deep.RegionLaw
import Derived.Deep.AppendLies
import Derived.Laws.CopyOwn
import Derived.Deep.DeepCutAuto
import Derived.Deep.OwnRows
import Derived.Deep.LoopGhost
import Derived.Deep.DeepFit
import Derived.Deep.DeepMust
import Derived.Deep.Draws
import Derived.Deep.CutRange
import Derived.Maps.AppendAt
import Derived.Lib.Hide
import Derived.StillTailTactics
import Derived.Laws.MakeOwn
import Derived.Deep.Matrix
set_option linter.unusedVariables false
open Go Go.RowKit
namespace Go.Proofs.Ytenofgofcioffaa
/-! ### Products of planes: the plain law -/
def fT (f g : Nat → Nat → Int) (i j a b : Nat) : Int := if i ≤ a ∧ j ≤ b then f i j * g (a - i) (b - j) else 0
def rowS (f g : Nat → Nat → Int) (i J a b : Nat) : Int := sumN (fun j => fT f g i j a b) J
def allS (n : Nat) (f g : Nat → Nat → Int) (I a b : Nat) : Int := sumN (fun i => rowS f g i (n - i) a b) I
def stS (n : Nat) (f g : Nat → Nat → Int) (i j a b : Nat) : Int := allS n f g i a b + rowS f g i j a b
/-- Coefficient (a, b) of the product of two planes. -/
def tmF (m : Int) (n : Nat) (f g : Nat → Nat → Int) (a b : Nat) : Int := allS n f g n a b % m
/-- The table while the product is reckoned: behind place (i, j) of the first, at place (k, l) of the second. -/
def stP (m : Int) (n : Nat) (f g : Nat → Nat → Int) (i j k l a b : Nat) : Int := if i ≤ a ∧ j ≤ b ∧ (a - i < k ∨ (a - i = k ∧ b - j < l)) then stS n f g i (j + 1) a b % m else stS n f g i j a b % m
theorem stS_succ (n : Nat) (f g : Nat → Nat → Int) (i j a b : Nat) : stS n f g i (j + 1) a b = stS n f g i j a b + fT f g i j a b := by
  unfold stS rowS
  simp only [sumN]
  omega
theorem tP_zero (m : Int) (n : Nat) (f g : Nat → Nat → Int) : (tab n fun _ _ => 0) = tab n (stP m n f g 0 0 0 0) := tab_congr fun a b _ => by
  unfold stP
  rw [if_neg (by omega)]
  simp [stS, allS, rowS, sumN]
theorem stP_at (m : Int) (n : Nat) (f g : Nat → Nat → Int) (i j k l : Nat) : stP m n f g i j k l (i + k) (j + l) = stS n f g i j (i + k) (j + l) % m := by
  unfold stP
  rw [if_neg (by omega)]
theorem tP_step (m : Int) (n : Nat) (f g : Nat → Nat → Int) (i j k l : Nat) : tab n (upd2 (stP m n f g i j k l) (i + k) (j + l) ((stS n f g i j (i + k) (j + l) % m + f i j * g k l % m) % m)) = tab n (stP m n f g i j k (l + 1)) := tab_congr fun a b _ => by
  unfold upd2
  by_cases h : a = i + k ∧ b = j + l
  · obtain ⟨rfl, rfl⟩ := h
    rw [if_pos ⟨rfl, rfl⟩]
    unfold stP
    rw [if_pos (by omega), stS_succ]
    have e : fT f g i j (i + k) (j + l) = f i j * g k l := by
      unfold fT
      rw [if_pos (by omega), show i + k - i = k by omega, show j + l - j = l by omega]
    rw [e, Int.emod_add_emod, Int.add_emod_emod]
  · rw [if_neg h]
    unfold stP
    by_cases h2 : i ≤ a ∧ j ≤ b ∧ (a - i < k ∨ (a - i = k ∧ b - j < l))
    · rw [if_pos h2, if_pos (by omega)]
    · rw [if_neg h2, if_neg (by omega)]
theorem tP_step' (m : Int) (n : Nat) (f g : Nat → Nat → Int) (i j k l : Nat) : tab n (upd2 (stP m n f g i j k l) (i + k) (j + l) ((stS n f g i j (i + k) (j + l) % m + f i j * g k l) % m)) = tab n (stP m n f g i j k (l + 1)) := by
  rw [← tP_step, Int.add_emod_emod]
theorem tP_endl (m : Int) (n : Nat) (f g : Nat → Nat → Int) (i j k r : Nat) (hr : i + j + k + r = n) : tab n (stP m n f g i j k r) = tab n (stP m n f g i j (k + 1) 0) := tab_congr fun a b hab => by
  unfold stP
  by_cases h2 : i ≤ a ∧ j ≤ b ∧ (a - i < k ∨ (a - i = k ∧ b - j < r))
  · rw [if_pos h2, if_pos (by omega)]
  · rw [if_neg h2, if_neg (by omega)]
theorem fT_zero (f g : Nat → Nat → Int) (i j a b : Nat) (h : ¬ (i ≤ a ∧ j ≤ b)) : fT f g i j a b = 0 := by unfold fT; rw [if_neg h]
theorem tP_endk (m : Int) (n : Nat) (f g : Nat → Nat → Int) (i j k : Nat) (hk : i + j + k = n) : tab n (stP m n f g i j k 0) = tab n (stP m n f g i (j + 1) 0 0) := tab_congr fun a b hab => by
  have e : stP m n f g i (j + 1) 0 0 a b = stS n f g i (j + 1) a b % m := by unfold stP; rw [if_neg (by omega)]
  rw [e]
  unfold stP
  by_cases h2 : i ≤ a ∧ j ≤ b
  · rw [if_pos (by omega)]
  · rw [if_neg (by omega), stS_succ, fT_zero f g i j a b h2, Int.add_zero]
theorem tP_skip (m : Int) (n : Nat) (f g : Nat → Nat → Int) (i j : Nat) (h : f i j = 0) : tab n (stP m n f g i j 0 0) = tab n (stP m n f g i (j + 1) 0 0) := tab_congr fun a b hab => by
  have e : fT f g i j a b = 0 := by unfold fT; rw [h]; simp
  unfold stP
  rw [if_neg (by omega), if_neg (by omega), stS_succ, e, Int.add_zero]
theorem tP_endj (m : Int) (n : Nat) (f g : Nat → Nat → Int) (i j : Nat) (h : i + j = n) : tab n (stP m n f g i j 0 0) = tab n (stP m n f g (i + 1) 0 0 0) := tab_congr fun a b hab => by
  unfold stP
  rw [if_neg (by omega), if_neg (by omega)]
  unfold stS allS
  simp only [sumN]
  rw [show n - i = j by omega]
  simp [rowS, sumN]
theorem tP_all (m : Int) (n : Nat) (f g : Nat → Nat → Int) : tab n (stP m n f g n 0 0 0) = tab n (tmF m n f g) := tab_congr fun a b hab => by
  unfold stP
  rw [if_neg (by omega)]
  simp [stS, tmF, rowS, sumN]
theorem stS_bd {m : Int} (hm : 0 < m) (n : Nat) (f g : Nat → Nat → Int) (i j a b : Nat) : 0 ≤ stS n f g i j a b % m ∧ stS n f g i j a b % m < m := ⟨Int.emod_nonneg _ (by omega), Int.emod_lt_of_pos _ hm⟩
theorem tmF_bd {m : Int} (hm : 0 < m) (n : Nat) (f g : Nat → Nat → Int) (a b : Nat) : 0 ≤ tmF m n f g a b ∧ tmF m n f g a b < m := ⟨Int.emod_nonneg _ (by omega), Int.emod_lt_of_pos _ hm⟩

set_option maxRecDepth 16000 in
set_option maxHeartbeats 8000000 in
theorem pTimes_any (w : World) (m : Int) (v v2 : Value) (xss yss zss : List (List Int)) (n : Nat) (lo0 hi0 lo2 hi2 : Nat) (hv : OwnP w lo0 hi0 v xss) (ht : Tri n xss) (hq : Num2 m xss) (hv2 : OwnP w lo2 hi2 v2 yss) (ht2 : Tri n yss) (hq2 : Num2 m yss) (hm : 2 ≤ m) (hm' : m ≤ 3000000000) (hn1 : 1 ≤ n) (hn : n ≤ 1000) (hz : tab n (tmF m n (co2 xss) (co2 yss)) = zss) :
    Calls Try.prog 98 #[.agg #[.int .i64 m, v], .agg #[.int .i64 m, v2]] w (NewPl w m zss) := by
  obtain ⟨gA, cA, rfl, hcA1, hcA2, hgA, hA⟩ := hv.source n ht.1 hn1
  obtain ⟨gB, cB, rfl, hcB1, hcB2, hgB, hB⟩ := hv2.source n ht2.1 hn1
  have HZ := Lib.hid hz
  have HT := Lib.hid ht
  have HT2 := Lib.hid ht2
  have HQ := Lib.hid hq
  have HQ2 := Lib.hid hq2
  have HV := Lib.hid hv
  have HV2 := Lib.hid hv2
  have HZL : Hid (zss.length = n) := by unfold Hid; rw [← hz, length_tab]
  clear hz ht ht2 hq hq2 hv hv2 hA hB
  go_enter Try.func98, Try.ntmps98
  go_upto_region 1 with fail
  go_cut [5] from 14 to 19 (fun s wx => ∃ (bo : Nat) (A' : Option Addr) (c' : Nat), s = .pointer (some ⟨bo, 0, none⟩) ∧ w.heap.size + 3 ≤ bo ∧ bo < wx.heap.size ∧ Hid (Bf wx bo (.int .i64 m) (.slice A' n c')) ∧ Hid (OwnPx wx (w.heap.size + 3) bo (.slice A' n c') (tab n fun _ _ => 0)) ∧ Hid (Bf wx w.heap.size (.int .i64 m) (.slice (some ⟨gA, 0, none⟩) n cA)) ∧ Hid (Bf wx (w.heap.size + 1) (.int .i64 m) (.slice (some ⟨gB, 0, none⟩) n cB)) ∧ Hid (Bf wx (w.heap.size + 2) (.int .i64 0) (.slice none 0 0)) ∧ Hid (Below w.heap.size w wx))
  case first =>
    go_region_held3 (fun w' => w'.cell? ⟨w.heap.size, 0, none⟩ = some (.int .i64 m) ∧ w'.cell? ⟨w.heap.size, 1, none⟩ = some (.slice (some ⟨gA, 0, none⟩) n cA))
      (first | exact ⟨p2a, p2b⟩ | exact ⟨p1a, p1b⟩ | go_keep | (refine (fun (h : Bf _ w.heap.size (.int .i64 m) (.slice (some ⟨gA, 0, none⟩) n cA)) => ⟨h.1.2.1, h.1.2.2⟩) ((Bf.alloc1 w _ _ 27).keep ?_); (repeat (first | assumption | exact Below.refl _ _ | (refine Below.alloc ?_ ?_ _; rotate_left; (focus (first | exact Nat.le_refl _ | omega | (simp; done) | (simp; omega)))) | (refine Below.setCell ?_ ?_ _; rotate_left; (focus (first | exact Nat.le_refl _ | omega | (simp; done) | (simp; omega)))) | refine below_drew ?_ | refine below_drewN ?_ _ | (refine Below.trans ?_ (Below.mono hb2 ?_); rotate_left; (focus (first | exact Nat.le_refl _ | omega | (simp; done) | (simp; omega)))) | (refine Below.trans ?_ (Below.mono hb1 ?_); rotate_left; (focus (first | exact Nat.le_refl _ | omega | (simp; done) | (simp; omega))))))))
      (first | (go_at_call 54; refine (pDegree_any m (some ⟨gA, 0, none⟩) n cA _ (by omega)).mono ?_; rintro e w1 ⟨rfl, hb1⟩; have P1 : Bf w1 w.heap.size (.int .i64 m) (.slice (some ⟨gA, 0, none⟩) n cA) := ((Bf.alloc1 w _ _ 27).keep (by (repeat (first | assumption | exact Below.refl _ _ | (refine Below.alloc ?_ ?_ _; rotate_left; (focus (first | exact Nat.le_refl _ | omega | (simp; done) | (simp; omega)))) | (refine Below.setCell ?_ ?_ _; rotate_left; (focus (first | exact Nat.le_refl _ | omega | (simp; done) | (simp; omega)))) | refine below_drew ?_ | refine below_drewN ?_ _ | (refine Below.trans ?_ (Below.mono hb1 ?_); rotate_left; (focus (first | exact Nat.le_refl _ | omega | (simp; done) | (simp; omega)))))))); have p1a := P1.1.2.1; have p1b := P1.1.2.2; obtain ⟨hc1, hf1⟩ := bcell hb1; have z1 := hb1.size; (try simp at z1); have z1p : w.heap.size < w1.heap.size := (by omega); (first | (have y1 : w.heap.size + 3 < w1.heap.size := (by omega)) | skip)) | (go_at_call 95; refine (emptyPlane_any _ m _ n (by omega) (by omega)).mono ?_; rintro e w2 ⟨A9, c9, rfl, hr2, hb2⟩; rw [length_tab] at hr2 ⊢; have P2 : Bf w2 w.heap.size (.int .i64 m) (.slice (some ⟨gA, 0, none⟩) n cA) := ((Bf.alloc1 w _ _ 27).keep (by (repeat (first | assumption | exact Below.refl _ _ | (refine Below.alloc ?_ ?_ _; rotate_left; (focus (first | exact Nat.le_refl _ | omega | (simp; done) | (simp; omega)))) | (refine Below.setCell ?_ ?_ _; rotate_left; (focus (first | exact Nat.le_refl _ | omega | (simp; done) | (simp; omega)))) | refine below_drew ?_ | refine below_drewN ?_ _ | (refine Below.trans ?_ (Below.mono hb2 ?_); rotate_left; (focus (first | exact Nat.le_refl _ | omega | (simp; done) | (simp; omega)))) | (refine Below.trans ?_ (Below.mono hb1 ?_); rotate_left; (focus (first | exact Nat.le_refl _ | omega | (simp; done) | (simp; omega)))))))); have p2a := P2.1.2.1; have p2b := P2.1.2.2; obtain ⟨hc2, hf2⟩ := bcell hb2; have z2 := hb2.size; (try simp at z2); have z2p : w.heap.size < w2.heap.size := (by omega)))
    all_goals
      go_wp2_with fail
      go_meet
      have KK : Hid (Below w.heap.size w w2) := by (repeat (first | assumption | exact Below.refl _ _ | (refine Below.alloc ?_ ?_ _; rotate_left; (focus (first | exact Nat.le_refl _ | omega | (simp; done) | (simp; omega)))) | (refine Below.setCell ?_ ?_ _; rotate_left; (focus (first | exact Nat.le_refl _ | omega | (simp; done) | (simp; omega)))) | refine below_drew ?_ | refine below_drewN ?_ _ | (refine Below.trans ?_ (Below.mono hb2 ?_); rotate_left; (focus (first | exact Nat.le_refl _ | omega | (simp; done) | (simp; omega)))) | (refine Below.trans ?_ (Below.mono hb1 ?_); rotate_left; (focus (first | exact Nat.le_refl _ | omega | (simp; done) | (simp; omega))))))
      refine ⟨_, A9, c9, rfl, ?_, ?_, ?_, ?_, ?_, ?_, ?_, ?_⟩
      · first | omega | (simp; done) | (simp; omega)
      · first | omega | (simp; done) | (simp; omega) | (simp [World.setCell]; omega)
      · unfold Hid
        first | exact Bf.alloc1 w2 _ _ _ | exact ((Bf.alloc1 w1 _ _ _).keep hb2).store2 | exact (((Bf.q4 (w := w)).keep (below_undrew hb1)).keep hb2).store2
      · unfold Hid
        first | (refine OwnPx.of (hr2.alloc _) ?_ ?_ ?_ <;> (first | omega | (simp; done) | (simp; omega) | (right; omega) | (right; simp; done) | (right; simp; omega) | (left; omega) | (left; simp; done) | (left; simp; omega) | (simp [World.setCell]; done) | (simp [World.setCell]; omega)); done) | (refine OwnPx.of ((hr2.far ?_ _).far ?_ _) ?_ ?_ ?_ <;> (first | omega | (simp; done) | (simp; omega) | (right; omega) | (right; simp; done) | (right; simp; omega) | (left; omega) | (left; simp; done) | (left; simp; omega) | (simp [World.setCell]; done) | (simp [World.setCell]; omega)); done)
      · exact (Bf.q1 (w := w) (t := 27)).keep (by (repeat (first | assumption | exact Below.refl _ _ | (refine Below.alloc ?_ ?_ _; rotate_left; (focus (first | exact Nat.le_refl _ | omega | (simp; done) | (simp; omega)))) | (refine Below.setCell ?_ ?_ _; rotate_left; (focus (first | exact Nat.le_refl _ | omega | (simp; done) | (simp; omega)))) | refine below_drew ?_ | refine below_drewN ?_ _ | (refine Below.trans ?_ (Below.mono hb2 ?_); rotate_left; (focus (first | exact Nat.le_refl _ | omega | (simp; done) | (simp; omega)))) | (refine Below.trans ?_ (Below.mono hb1 ?_); rotate_left; (focus (first | exact Nat.le_refl _ | omega | (simp; done) | (simp; omega)))))))
      · exact (Bf.q2 (w := w) (t := 27) (t' := 27)).keep (by (repeat (first | assumption | exact Below.refl _ _ | (refine Below.alloc ?_ ?_ _; rotate_left; (focus (first | exact Nat.le_refl _ | omega | (simp; done) | (simp; omega)))) | (refine Below.setCell ?_ ?_ _; rotate_left; (focus (first | exact Nat.le_refl _ | omega | (simp; done) | (simp; omega)))) | refine below_drew ?_ | refine below_drewN ?_ _ | (refine Below.trans ?_ (Below.mono hb2 ?_); rotate_left; (focus (first | exact Nat.le_refl _ | omega | (simp; done) | (simp; omega)))) | (refine Below.trans ?_ (Below.mono hb1 ?_); rotate_left; (focus (first | exact Nat.le_refl _ | omega | (simp; done) | (simp; omega)))))))
      · exact (Bf.q3 (w := w) (t := 27) (t' := 27) (t2 := 27)).keep (by (repeat (first | assumption | exact Below.refl _ _ | (refine Below.alloc ?_ ?_ _; rotate_left; (focus (first | exact Nat.le_refl _ | omega | (simp; done) | (simp; omega)))) | (refine Below.setCell ?_ ?_ _; rotate_left; (focus (first | exact Nat.le_refl _ | omega | (simp; done) | (simp; omega)))) | refine below_drew ?_ | refine below_drewN ?_ _ | (refine Below.trans ?_ (Below.mono hb2 ?_); rotate_left; (focus (first | exact Nat.le_refl _ | omega | (simp; done) | (simp; omega)))) | (refine Below.trans ?_ (Below.mono hb1 ?_); rotate_left; (focus (first | exact Nat.le_refl _ | omega | (simp; done) | (simp; omega)))))))
      · (repeat (first | assumption | exact Below.refl _ _ | (refine Below.alloc ?_ ?_ _; rotate_left; (focus (first | exact Nat.le_refl _ | omega | (simp; done) | (simp; omega)))) | (refine Below.setCell ?_ ?_ _; rotate_left; (focus (first | exact Nat.le_refl _ | omega | (simp; done) | (simp; omega)))) | refine below_drew ?_ | refine below_drewN ?_ _ | (refine Below.trans ?_ (Below.mono hb2 ?_); rotate_left; (focus (first | exact Nat.le_refl _ | omega | (simp; done) | (simp; omega)))) | (refine Below.trans ?_ (Below.mono hb1 ?_); rotate_left; (focus (first | exact Nat.le_refl _ | omega | (simp; done) | (simp; omega))))))
  case rest =>
    obtain ⟨bo, A', c', rfl, hbo1, hbo2, HO, HR0, HP, HP2, HQR, HB⟩ := hcut
    obtain ⟨lo, hi, hlo, hbo3, hhi, hr0⟩ := HR0.out
    obtain ⟨g, _, _, -, e0, hg1, hg2, hg3, -⟩ := hr0.row (k := 0) (by rw [length_tab]; omega)
    rw [length_tab] at e0
    simp only [Value.slice.injEq] at e0
    obtain ⟨rfl, -, rfl⟩ := e0
    rw [tP_zero m n (co2 xss) (co2 yss)] at hr0
    have HR := Lib.hid hr0
    clear hr0 HR0
    have p1 := HP.out.1.2.1
    have p2 := HP.out.1.2.2
    go_wp2_with (go_at_call 54; refine (pDegree_any m (some ⟨gA, 0, none⟩) n cA _ (by omega)).mono ?_; rintro e w1 ⟨rfl, hb1⟩; have P1 := HP.out.keep hb1; have p1a := P1.1.2.1; have p1b := P1.1.2.2)
    have zB0 := HB.out.size
    have HO' := Lib.hid (HO.out.keep hb1)
    have HR' := Lib.hid (HR.out.keep hb1)
    have HP' := Lib.hid P1
    have HP2' := Lib.hid (HP2.out.keep hb1)
    have HQR' := Lib.hid (HQR.out.keep hb1)
    have HB' := Lib.hid (HB.out.trans (hb1.mono zB0))
    clear HO HR HP HP2 HQR HB P1 p1 p2 p1a p1b hb1
    go_loopw [24] (fun s wr => ∃ i : Nat, i ≤ n ∧ s = .int .i64 i ∧ Hid (Bf wr bo (.int .i64 m) (.slice (some ⟨g, 0, none⟩) n c')) ∧ Hid (OwnP wr lo hi (.slice (some ⟨g, 0, none⟩) n c') (tab n (stP m n (co2 xss) (co2 yss) i 0 0 0))) ∧ Hid (Bf wr w.heap.size (.int .i64 m) (.slice (some ⟨gA, 0, none⟩) n cA)) ∧ Hid (Bf wr (w.heap.size + 1) (.int .i64 m) (.slice (some ⟨gB, 0, none⟩) n cB)) ∧ Hid (Bf wr (w.heap.size + 2) (.int .i64 0) (.slice none 0 0)) ∧ Hid (Below w.heap.size w wr)) (fun s _ => n - (intOf s).toNat)
    case atStart => exact ⟨0, Nat.zero_le _, rfl, HO', HR', HP', HP2', HQR', HB'⟩
    case round =>
      clear HO' HR' HP' HP2' HQR' HB'
      obtain ⟨i, hin, rfl, HO, HR, HP, HP2, HQR, HB⟩ := hrel
      by_cases hlti : i < n
      · obtain ⟨gx, grx, crx, e1, hx1, hx2, hx3, -, hx5⟩ := HV.out.at2 (i := i) (j := 0) (by rw [HT.out.1]; exact hlti) (by rw [HT.out.2 i hlti]; omega)
        simp only [Option.some.injEq, Addr.mk.injEq] at e1
        obtain ⟨rfl, -⟩ := e1
        obtain ⟨ri, hri⟩ : ∃ ri, ri = n - i := ⟨_, rfl⟩
        rw [HT.out.2 i hlti, ← hri] at hx2 hx5
        have hri2 : i + ri = n := by omega
        have HRI := Lib.hid hri2
        have hri3 : i + ri ≤ n ∧ n ≤ i + ri := by omega
        clear hri hri2
        have hc1 := (HB.out.cell (p := ⟨gA, i, none⟩) hx1).trans hx2
        have hi0 : (0 : Int) ≤ (i : Int) := by omega
        have hi1 : (i : Int) < (n : Int) := by omega
        go_wp2
        clear hc1
        go_loopw [31] (fun s wr => ∃ j : Nat, j ≤ ri ∧ s = .int .i64 j ∧ Hid (Bf wr bo (.int .i64 m) (.slice (some ⟨g, 0, none⟩) n c')) ∧ Hid (OwnP wr lo hi (.slice (some ⟨g, 0, none⟩) n c') (tab n (stP m n (co2 xss) (co2 yss) i j 0 0))) ∧ Hid (Bf wr w.heap.size (.int .i64 m) (.slice (some ⟨gA, 0, none⟩) n cA)) ∧ Hid (Bf wr (w.heap.size + 1) (.int .i64 m) (.slice (some ⟨gB, 0, none⟩) n cB)) ∧ Hid (Bf wr (w.heap.size + 2) (.int .i64 0) (.slice none 0 0)) ∧ Hid (Below w.heap.size w wr)) (fun s _ => ri - (intOf s).toNat)
        case atStart => exact ⟨0, Nat.zero_le _, rfl, HO, HR, HP, HP2, HQR, HB⟩
        case round =>
          clear HO HR HP HP2 HQR HB
          obtain ⟨j, hj, rfl, HO, HR, HP, HP2, HQR, HB⟩ := hrel
          by_cases hltj : j < ri
          · obtain ⟨gx2, grx2, crx2, e1, -, hy2, hy3, hy4, -⟩ := HV.out.at2 (i := i) (j := j) (by rw [HT.out.1]; exact hlti) (by rw [HT.out.2 i hlti]; omega)
            simp only [Option.some.injEq, Addr.mk.injEq] at e1
            obtain ⟨rfl, -⟩ := e1
            rw [hx2] at hy2
            simp only [Option.some.injEq, Value.slice.injEq, Addr.mk.injEq] at hy2
            obtain ⟨⟨rfl, -⟩, -, -⟩ := hy2
            have hc2 := (HB.out.cell (p := ⟨grx, j, none⟩) hy3).trans hy4
            have hxb := HQ.out i j
            obtain ⟨x, hx⟩ : ∃ x, x = co2 xss i j := ⟨_, rfl⟩
            rw [← hx] at hc2 hxb
            have HX := Lib.hid hx
            clear hy4 hx
            have hj0 : (0 : Int) ≤ (j : Int) := by omega
            have hj1 : (j : Int) < (ri : Int) := by omega
            by_cases hx0 : x = 0
            · have hxz : (x == 0) = true := by simpa using hx0
              have hs := HR.out
              rw [tP_skip m n (co2 xss) (co2 yss) i j (by rw [← HX.out]; exact hx0)] at hs
              have HR' := Lib.hid hs
              clear hs hx0
              go_wp2
              go_roundw
              case rel => exact ⟨j + 1, by omega, by go_num, HO, HR', HP, HP2, HQR, HB⟩
              case measure => simp [intOf]; omega
            · have hxz : (x == 0) = false := by simpa using hx0
              clear hx0
              go_wp2
              clear hc2
              go_loopw [11] (fun s wr => ∃ k : Nat, i + j + k ≤ n ∧ s = .int .i64 k ∧ Hid (Bf wr bo (.int .i64 m) (.slice (some ⟨g, 0, none⟩) n c')) ∧ Hid (OwnP wr lo hi (.slice (some ⟨g, 0, none⟩) n c') (tab n (stP m n (co2 xss) (co2 yss) i j k 0))) ∧ Hid (Bf wr w.heap.size (.int .i64 m) (.slice (some ⟨gA, 0, none⟩) n cA)) ∧ Hid (Bf wr (w.heap.size + 1) (.int .i64 m) (.slice (some ⟨gB, 0, none⟩) n cB)) ∧ Hid (Bf wr (w.heap.size + 2) (.int .i64 0) (.slice none 0 0)) ∧ Hid (Below w.heap.size w wr)) (fun s _ => n + 1 - (intOf s).toNat)
              case atStart => exact ⟨0, by omega, rfl, HO, HR, HP, HP2, HQR, HB⟩
              case round =>
                clear HO HR HP HP2 HQR HB
                obtain ⟨k, hk, rfl, HO, HR, HP, HP2, HQR, HB⟩ := hrel
                have s1 := HP2.out.1.2.1
                have s2 := HP2.out.1.2.2
                by_cases hltk : i + j + k < n
                · obtain ⟨gy, gry, cry, e1, hw1, hw2, hw3, -, hw5⟩ := HV2.out.at2 (i := k) (j := 0) (by rw [HT2.out.1]; omega) (by rw [HT2.out.2 k (by omega)]; omega)
                  simp only [Option.some.injEq, Addr.mk.injEq] at e1
                  obtain ⟨rfl, -⟩ := e1
                  obtain ⟨rk, hrk⟩ : ∃ rk, rk = n - k := ⟨_, rfl⟩
                  rw [HT2.out.2 k (by omega), ← hrk] at hw2 hw5
                  obtain ⟨r, hr⟩ : ∃ r, i + j + k + r = n := ⟨n - (i + j + k), by omega⟩
                  have HRR := Lib.hid hr
                  have hr3 : i + j + k + r ≤ n ∧ n ≤ i + j + k + r ∧ r ≤ rk ∧ rk + k ≤ n ∧ n ≤ rk + k := by omega
                  clear hrk hr
                  have hc3 := (HB.out.cell (p := ⟨gB, k, none⟩) hw1).trans hw2
                  have hk0 : (0 : Int) ≤ (k : Int) := by omega
                  have hk1 : (k : Int) < (n : Int) := by omega
                  have hk2 : (i : Int) + (j : Int) + (k : Int) ≤ (n : Int) - 1 := by omega
                  have v1 : (n : Int) - 1 - (i : Int) - (j : Int) - (k : Int) + 1 = (r : Int) := by omega
                  have hw6 : (0 : Int) ≤ (r : Int) := by omega
                  have hw7 : (r : Int) ≤ (cry : Int) := by omega
                  go_wp2
                  clear v1 hc3 s1 s2
                  go_loopw [62] (fun s wr => ∃ l : Nat, l ≤ r ∧ s = .int .i64 l ∧ Hid (Bf wr bo (.int .i64 m) (.slice (some ⟨g, 0, none⟩) n c')) ∧ Hid (OwnP wr lo hi (.slice (some ⟨g, 0, none⟩) n c') (tab n (stP m n (co2 xss) (co2 yss) i j k l))) ∧ Hid (Bf wr w.heap.size (.int .i64 m) (.slice (some ⟨gA, 0, none⟩) n cA)) ∧ Hid (Bf wr (w.heap.size + 1) (.int .i64 m) (.slice (some ⟨gB, 0, none⟩) n cB)) ∧ Hid (Bf wr (w.heap.size + 2) (.int .i64 0) (.slice none 0 0)) ∧ Hid (Below w.heap.size w wr)) (fun s _ => r - (intOf s).toNat)
                  case atStart => exact ⟨0, Nat.zero_le _, rfl, HO, HR, HP, HP2, HQR, HB⟩
                  case round =>
                    clear HO HR HP HP2 HQR HB
                    obtain ⟨l, hl, rfl, HO, HR, HP, HP2, HQR, HB⟩ := hrel
                    have p1 := HP.out.1.2.1
                    have o2 := HO.out.1.2.2
                    have zO := HO.out.1.1
                    have zP := HP.out.1.1
                    by_cases hltl : l < r
                    · obtain ⟨gy2, gry2, cry2, e1, -, hu2, hu3, hu4, -⟩ := HV2.out.at2 (i := k) (j := l) (by rw [HT2.out.1]; omega) (by rw [HT2.out.2 k (by omega)]; omega)
                      simp only [Option.some.injEq, Addr.mk.injEq] at e1
                      obtain ⟨rfl, -⟩ := e1
                      rw [hw2] at hu2
                      simp only [Option.some.injEq, Value.slice.injEq, Addr.mk.injEq] at hu2
                      obtain ⟨⟨rfl, -⟩, -, -⟩ := hu2
                      have hc4 := (HB.out.cell (p := ⟨gry, l, none⟩) hu3).trans hu4
                      have hyb := HQ2.out k l
                      obtain ⟨gr, cr, hcr, hne, hgl, hgh, hgz, hd0, hf0, hset⟩ := HR.out.put (i := i + k) (j := j + l) (by omega)
                      rw [stP_at] at hd0
                      have hsb := stS_bd (show 0 < m by omega) n (co2 xss) (co2 yss) i j (i + k) (j + l)
                      have hst := tP_step' m n (co2 xss) (co2 yss) i j k l
                      rw [← HX.out] at hst
                      obtain ⟨y, hy⟩ : ∃ y, y = co2 yss k l := ⟨_, rfl⟩
                      rw [← hy] at hc4 hyb hst
                      have HST := Lib.hid hst
                      have HSET := Lib.hid hset
                      obtain ⟨q, hq⟩ : ∃ q, q = n - (i + k) := ⟨_, rfl⟩
                      rw [← hq] at hcr
                      have hq2 : q + (i + k) ≤ n ∧ n ≤ q + (i + k) := by omega
                      obtain ⟨s, hs⟩ : ∃ s, s = stS n (co2 xss) (co2 yss) i j (i + k) (j + l) % m := ⟨_, rfl⟩
                      rw [← hs] at hd0 hsb HST
                      clear hset hst hu4 hy hq hs
                      have hxy1 : 0 ≤ x * y % m := Int.emod_nonneg _ (by omega)
                      have hxy2 : x * y % m < m := Int.emod_lt_of_pos _ (by omega)
                      have hl0 : (0 : Int) ≤ (l : Int) := by omega
                      have hl1 : (l : Int) < (r : Int) := by omega
                      have v1 : IntKind.i64.wrap ((i : Int) + (k : Int)) = (i : Int) + (k : Int) := IntWalk.i64_in _ (by omega)
                      have v2 : IntKind.i64.wrap ((j : Int) + (l : Int)) = (j : Int) + (l : Int) := IntWalk.i64_in _ (by omega)
                      have v3 : IntKind.i64.wrap (s + x * y % m) = s + x * y % m := IntWalk.i64_in _ (by omega)
                      have v4 : (s + x * y % m).tmod m = (s + x * y % m) % m := Int.tmod_eq_emod_of_nonneg (by omega)
                      have v5 : (0 : Int) ≤ (i : Int) + (k : Int) := by omega
                      have v6 : (i : Int) + (k : Int) < (n : Int) := by omega
                      have v7 : ((i : Int) + (k : Int)).toNat = i + k := by omega
                      have v8 : (0 : Int) ≤ (j : Int) + (l : Int) := by omega
                      have v9 : (j : Int) + (l : Int) < (q : Int) := by omega
                      have v10 : ((j : Int) + (l : Int)).toNat = j + l := by omega
                      have v11 : (m == 0) = false := by simp; omega
                      have v12 : ¬ m = 0 := by omega
                      go_wp2
                      go_still_tail 32, (by kernel_rfl)
                      still_call ((mul_any m x y _ (by omega) (by omega) hxb.1 hxb.2 hyb.1 hyb.2).mono fun e w' h => ⟨h.1, h.2.symm⟩)
                      repeat still_step
                      refine wpStill_nil ?_
                      change wpList _ _ _ _ _ wr.drew
                      clear v1 v2 v3 v4 v5 v7 v8 v10
                      go_wp2
                      go_roundw
                      case rel =>
                        refine ⟨l + 1, by omega, by go_num, HO.out.setCell (by simp; omega) _, ?_, HP.out.setCell (by simp; omega) _, HP2.out.setCell (by simp; omega) _, HQR.out.setCell (by simp; omega) _, (below_drew HB.out).setCell (by simp; omega) _⟩
                        unfold Hid
                        rw [← HST.out]
                        exact HSET.out _
                      case measure => simp [intOf]; omega
                    · have hlr : l = r := by omega
                      have hs := HR.out
                      rw [hlr, tP_endl m n (co2 xss) (co2 yss) i j k r HRR.out] at hs
                      have HR' := Lib.hid hs
                      clear hs hlr
                      go_wp2
                      go_roundw
                      case rel => exact ⟨k + 1, by omega, by go_num, HO, HR', HP, HP2, HQR, HB⟩
                      case measure => simp [intOf]; omega
                · have hkn : i + j + k = n := by omega
                  have hs := HR.out
                  rw [tP_endk m n (co2 xss) (co2 yss) i j k hkn] at hs
                  have HR' := Lib.hid hs
                  have hd6 : decide ((i : Int) + (j : Int) + (k : Int) ≤ (n : Int) - 1) = false := by simp; omega
                  clear hs hkn
                  go_wp2
                  go_roundw
                  case rel => exact ⟨j + 1, by omega, by go_num, HO, HR', HP, HP2, HQR, HB⟩
                  case measure => simp [intOf]; omega
          · have hjr : j = ri := by omega
            have hs := HR.out
            rw [hjr, tP_endj m n (co2 xss) (co2 yss) i ri HRI.out] at hs
            have HR' := Lib.hid hs
            clear hs hjr
            go_wp2
            go_roundw
            case rel => exact ⟨i + 1, by omega, by go_num, HO, HR', HP, HP2, HQR, HB⟩
            case measure => simp [intOf]; omega
      · obtain rfl : i = n := by omega
        have hs := HR.out
        rw [tP_all, HZ.out] at hs
        have hd6 : decide ((i : Int) < (i : Int)) = false := by simp
        have o1 := HO.out.1.2.1
        have o2 := HO.out.1.2.2
        have q1 := HQR.out.1.2.1
        have q2 := HQR.out.1.2.2
        have q3 := HQR.out.2.1
        have q4 := HQR.out.2.2
        go_wp2
        refine bodyPost_ret (v := .agg #[.int .i64 m, .slice (some ⟨g, 0, none⟩) i c']) (by simp [results, Try.results98, go_sem, q1, q2]) rfl ⟨some ⟨g, 0, none⟩, c', by rw [HZL.out], ?_, ?_⟩
        · rw [HZL.out]
          have h9 := OwnP.mono (lo' := w.heap.size) (hs.hi_le.far2 (b := w.heap.size + 2) (x := .int .i64 m) (y := .slice (some ⟨g, 0, none⟩) i c') (.inl (by omega))) (by omega) (Nat.le_refl _)
          simpa [World.setCell] using h9
        · exact (HB.out.setCell (by simp; omega) _).setCell (by simp; omega) _

/-! ### A number times a plane -/
theorem mul_q (m a b : Int) (w : World) (hm : 0 < m) (hm' : m ≤ 3000000000) (ha : 0 ≤ a) (ha' : a < m) (hb : 0 ≤ b) (hb' : b < m) : Calls Try.prog 115 #[.int .i64 m, .int .i64 a, .int .i64 b] w fun e w' => e = .returned (.int .i64 (a * b % m)) ∧ ∃ k, w' = w.drewN k :=
  (mul_any m a b w hm hm' ha ha' hb hb').mono fun _ _ ⟨h, e⟩ => ⟨h, 0, e.symm⟩
set_option maxHeartbeats 1000000 in
theorem scaled1_pred (w : World) (b bk : Nat) (m c0 : Int) (A : Option Addr) (n c lo hi : Nat) (xss : List (List Int)) (hbk : w.cell? ⟨bk, 0, none⟩ = some (.int .i64 c0)) (hbk' : bk < w.heap.size) (hb0 : w.cell? ⟨b, 0, none⟩ = some (.int .i64 m)) (hb : w.cell? ⟨b, 1, none⟩ = some (.slice A n c)) (hb' : b < w.heap.size) (hv : OwnP w lo hi (.slice A n c) xss) (ht : Tri n xss) (hq : Num2 m xss) (hm : 2 ≤ m) (hm' : m ≤ 3000000000) :
    Pred2 w 116 #[.pointer (some ⟨b, 0, none⟩), .pointer (some ⟨bk, 0, none⟩)] n (fun i j => c0 % m * co2 xss i j % m) := by
  refine ⟨Try.call116, fun W i j hW hij => ?_⟩
  have hck := (hW.cell (p := ⟨bk, 0, none⟩) hbk').trans hbk
  have hc0 := (hW.cell (p := ⟨b, 0, none⟩) hb').trans hb0
  have hc := (hW.cell (p := ⟨b, 1, none⟩) hb').trans hb
  obtain ⟨g, gr, cr, rfl, h1, h2, h3, h4, -⟩ := hv.at2 (i := i) (j := j) (by rw [ht.1]; omega) (by rw [ht.2 i (by omega)]; omega)
  have h2' := (hW.cell (p := ⟨g, i, none⟩) h1).trans h2
  have h4' := (hW.cell (p := ⟨gr, j, none⟩) h3).trans h4
  rw [ht.2 i (by omega)] at h2'
  obtain ⟨r, hr⟩ : ∃ r, r = n - i := ⟨_, rfl⟩
  rw [← hr] at h2'
  have hx0 := hq i j
  obtain ⟨x, hx⟩ : ∃ x, x = co2 xss i j := ⟨_, rfl⟩
  rw [← hx] at h4' hx0
  have HX : Hid (c0 % m * co2 xss i j % m = c0 % m * x % m) := by rw [hx]; exact rfl
  have hj0 : (0 : Int) ≤ (j : Int) := by omega
  have hj1 : (j : Int) < (r : Int) := by omega
  have hi0 : (0 : Int) ≤ (i : Int) := by omega
  have hi1 : (i : Int) < (n : Int) := by omega
  have hi2 : i < n := by omega
  have hj2 : j < r := by omega
  have hcm1 : 0 ≤ c0 % m := Int.emod_nonneg _ (by omega)
  have hcm2 : c0 % m < m := Int.emod_lt_of_pos _ (by omega)
  clear hW hb hb0 hbk h2 h4 hr hv ht hx hq
  go_enter Try.func116, Try.ntmps116
  go_wp2
  go_quiet ((first | (go_at_call 114; exact Calls.quiet_of (mod_any c0 m _ (by omega) (by omega))) | (go_at_call 115; exact Calls.quiet_of (mul_q m (c0 % m) x _ (by omega) (by omega) hcm1 hcm2 hx0.1 hx0.2))))
  go_wp2
  go_ret
  exact ⟨by show _ = Ending.returned (.int .i64 (c0 % m * co2 xss i j % m)); rw [HX.out]; rfl, nq, rfl⟩
set_option maxHeartbeats 1000000 in
theorem pScaled_any (w : World) (m c0 : Int) (v : Value) (xss zss : List (List Int)) (n : Nat) (lo hi : Nat) (hv : OwnP w lo hi v xss) (ht : Tri n xss) (hq : Num2 m xss) (hm : 2 ≤ m) (hm' : m ≤ 3000000000) (hn1 : 1 ≤ n) (hn : n ≤ 1000) (hz : (tab n fun i j => c0 % m * co2 xss i j % m) = zss) :
    Calls Try.prog 99 #[.agg #[.int .i64 m, v], .int .i64 c0] w (NewPl w m zss) := by
  obtain ⟨A, cp, rfl, -, -⟩ := hv.form
  rw [ht.1] at hv
  have HXL : Hid (xss.length = n) := ht.1
  have HZL : Hid (zss.length = n) := by unfold Hid; rw [← hz, length_tab]
  have HZ : Hid ((tab n fun i j => c0 % m * co2 xss i j % m % m) = zss) := by
    unfold Hid
    rw [← hz]
    exact tab_congr fun i j _ => Int.emod_emod _ _
  have HT := Lib.hid ht
  have HQ := Lib.hid hq
  obtain ⟨B1, C1, Q1, K1⟩ := first3c (w := w) (x := .int .i64 m) (y := .slice A n cp) (k := .int .i64 c0) (x' := .int .i64 0) (y' := .slice none 0 0) (t := 27) (tk := 2) (t' := 27) (Below.refl _ _)
  have HV := Lib.hid (hv.keep K1)
  clear hz ht hq hv
  go_enter Try.func99, Try.ntmps99
  rw [HXL.out]
  go_wp2_with fail
  refine (mapped_any _ m _ xss n lo hi HV.out HXL.out hm (by omega) hn1 hn _ _ _ (scaled1_pred _ w.heap.size (w.heap.size + 1) m c0 A n cp lo hi xss C1 (by have := Q1.1.1; omega) B1.1.2.1 B1.1.2.2 B1.1.1 HV.out HT.out HQ.out hm hm') zss HZ.out).mono ?_
  rintro e w1 ⟨A1, c1, rfl, o1, hb1⟩
  rw [HZL.out] at o1 ⊢
  have Q2 := Q1.keep hb1
  have K2 := K1.trans (hb1.mono K1.size)
  have q1a := Q2.1.2.1
  have q1b := Q2.1.2.2
  have q1c := Q2.2.1
  have q1d := Q2.2.2
  have y1 := Q1.1.1
  go_wp2
  refine bodyPost_ret (v := .agg #[.int .i64 m, .slice A1 n c1]) (by simp [results, Try.results99, go_sem, q1a, q1b]) rfl ⟨A1, c1, by rw [HZL.out], ?_, ?_⟩
  · rw [HZL.out]
    have h9 := OwnP.mono (lo' := w.heap.size) (o1.far2 (b := w.heap.size + 2) (x := .int .i64 m) (y := .slice A1 n c1) (.inl (by first | (simp; done) | (simp; omega)))) (by first | (simp; done) | (simp; omega)) (Nat.le_refl _)
    simpa [World.setCell] using h9
  · exact (K2.setCell (by simp; omega) _).setCell (by simp; omega) _
theorem scale_rows (m c0 : Int) (xss : List (List Int)) (n : Nat) (ht : Tri n xss) : rowsF (fun i => scaleL m c0 (xss.getD i [])) n = tab n fun i j => c0 * co2 xss i j % m := by
  unfold rowsF tab
  apply List.map_congr_left
  intro i hi
  have hi' := List.mem_range.1 hi
  unfold scaleL
  rw [ht.2 i hi']
  rfl

/-! ### MultiplicativeLaw -/
theorem sumN_single {f : Nat → Int} {n k : Nat} (hk : k < n) (h : ∀ j, j < n → j ≠ k → f j = 0) : sumN f n = f k := by
  induction n with
  | zero => omega
  | succ n ih =>
    simp only [sumN]
    by_cases hkn : k = n
    · subst hkn
      rw [sumN_congr (g := fun _ => 0) fun j hj => h j (by omega) (by omega), sumN_zero, Int.zero_add]
    · rw [ih (by omega) fun j hj hne => h j (by omega) hne, h n (by omega) (by omega), Int.add_zero]
theorem sumN_none {f : Nat → Int} {n : Nat} (h : ∀ j, j < n → f j = 0) : sumN f n = 0 := by
  rw [sumN_congr (g := fun _ => 0) h, sumN_zero]
/-- A product with a first factor that has one number alone. -/
theorem allS_single {n : Nat} {f g : Nat → Nat → Int} {p q a b : Nat} (hab : a + b < n) (hpq : p + q < n) (h : ∀ i j, i + j < n → ¬ (i = p ∧ j = q) → f i j = 0) : allS n f g n a b = if p ≤ a ∧ q ≤ b then f p q * g (a - p) (b - q) else 0 := by
  unfold allS
  rw [sumN_single (k := p) (by omega)]
  · unfold rowS
    rw [sumN_single (k := q) (by omega)]
    · rfl
    · intro j hj hne
      unfold fT
      split
      · rw [h p j (by omega) (by omega), Int.zero_mul]
      · rfl
  · intro i hi hne
    unfold rowS
    apply sumN_none
    intro j hj
    unfold fT
    split
    · rw [h i j (by omega) (by omega), Int.zero_mul]
    · rfl
theorem xy_prod (m : Int) (n : Nat) (hm : 2 ≤ m) (hn : 2 ≤ n) : tab n (tmF m n (co2 (tab n (axF (varL n) 0))) (co2 (tab n (axF (varL n) 1)))) = tab n fun i j => if i = 1 ∧ j = 1 then 1 else 0 := tab_congr fun a b hab => by
  unfold tmF
  rw [allS_single (p := 1) (q := 0) hab (by omega) fun i j hij hne => by rw [co2_tab _ hij, axF_var n 0 i j hij, if_pos rfl, if_neg hne]]
  rw [co2_tab _ (by omega), axF_var n 0 1 0 (by omega)]
  have e1 : (1 : Int) % m = 1 := Int.emod_eq_of_lt (by omega) (by omega)
  by_cases h1 : 1 ≤ a ∧ 0 ≤ b
  · rw [if_pos h1, co2_tab _ (by omega), axF_var n 1 _ _ (by omega)]
    by_cases h2 : a = 1
    · subst h2
      by_cases h3 : b = 1 <;> simp [h3, e1]
    · have h4 : ¬ a - 1 = 0 := by omega
      simp [h2, h4]
  · rw [if_neg h1]
    have h2 : ¬ a = 1 := by omega
    simp [h2]
def MultiplicativeLawR (m d c0 : Int) : (Int × List (List Int)) × Int := if stdB m d [c0] = false then ((0, []), 2) else ((m, tab (d + 1).toNat (mulF m c0)), 0)
theorem MultiplicativeLawR_len (m d c0 : Int) : cntP (MultiplicativeLawR m d c0).1.2 ≤ 200 := by
  unfold MultiplicativeLawR
  cases h : stdB m d [c0]
  · simp [cntP]
  · have := stdB_true h
    exact cntP_tab_100 _ (by omega)
theorem mul_join (m c0 : Int) (n : Nat) (hm : 2 ≤ m) : (tab n fun i j => (co2 (tab n fun i j => if (i = 1 ∧ j = 0) ∨ (i = 0 ∧ j = 1) then (1 : Int) else 0) i j + co2 (tab n fun i j => c0 % m * co2 (tab n fun i j => if i = 1 ∧ j = 1 then (1 : Int) else 0) i j % m) i j) % m) = tab n (mulF m c0) := tab_congr fun i j hij => by
  rw [co2_tab _ hij, co2_tab _ hij, co2_tab _ hij]
  have e1 : (1 : Int) % m = 1 := Int.emod_eq_of_lt (by omega) (by omega)
  unfold mulF
  by_cases h1 : i = 1
  · subst h1
    by_cases h2 : j = 1
    · subst h2; simp
    · by_cases h3 : j = 0 <;> simp [h2, h3, e1]
  · by_cases h4 : i = 0
    · subst h4
      by_cases h2 : j = 1 <;> simp [h2, e1]
    · simp [h1, h4]
theorem tmF_num2 {m : Int} (hm : 0 < m) (n : Nat) (f g : Nat → Nat → Int) : Num2 m (tab n (tmF m n f g)) := Num2.tab hm n _ fun i j => tmF_bd hm n f g i j
theorem mod_num2 {m : Int} (hm : 0 < m) (n : Nat) (f : Nat → Nat → Int) : Num2 m (tab n fun i j => f i j % m) := Num2.tab hm n _ fun i j => ⟨Int.emod_nonneg _ (by omega), Int.emod_lt_of_pos _ hm⟩
set_option maxRecDepth 8000 in
set_option maxHeartbeats 4000000 in
theorem iMultiplicativeLawR_any (w : World) (m d c0 : Int) : Calls Try.prog 48 #[.int .i64 m, .int .i64 d, .int .i64 c0] w (RetPI w (MultiplicativeLawR m d c0)) := by
  have HL1 : Hid (OwnI ((w.alloc (.cells #[.int .i64 0, .slice none 0 0] 27)).alloc (.cells #[.int .i64 c0] 2)) (w.heap.size + 1) (.slice (some ⟨w.heap.size + 1, 0, none⟩) 1 1) [c0]) := by
    have h := OwnI.lit1 (w.alloc (.cells #[.int .i64 0, .slice none 0 0] 27)) c0 (B := w.heap.size + 1) (by simp)
    unfold Hid
    simpa using h
  cases hs : stdB m d [c0]
  · have HF : MultiplicativeLawR m d c0 = ((0, []), 2) := by simp [MultiplicativeLawR, hs]
    rw [HF]
    have HS : Hid (stdN m d [c0] = 2) := by simp [Hid, stdN, hs]
    clear HF hs
    go_enter Try.func48, Try.ntmps48
    go_wp2_with (go_at_call 71; refine (standard_any m d _ _ [c0] (w.heap.size + 1) HL1.out).mono ?_; rintro e w1 ⟨rfl, hb1⟩; rw [HS.out]; have P1 : Bf w1 w.heap.size (.int .i64 0) (.slice none 0 0) := ((Bf.alloc1 w _ _ _).alloc _).keep hb1; have K1 : Below w.heap.size w w1 := Below.trans (by (repeat (first | assumption | exact Below.refl _ _ | refine Below.alloc ?_ (by first | omega | (simp; done) | (simp; omega)) _ | refine Below.setCell ?_ (by first | omega | (simp; done) | (simp; omega)) _ | refine below_drewN ?_ _))) (hb1.mono (by simp; omega)); have p1a := P1.1.2.1; have p1b := P1.1.2.2; have p1c := P1.2.1; have p1d := P1.2.2)
    exact bodyPost_ret (v := .tuple #[.agg #[.int .i64 0, .slice none 0 0], .int .i64 2]) (by simp [results, Try.results48, go_sem, p1a, p1b]) rfl (RetPI.zero ((K1.setCell (by simp) _).setCell (by simp) _))
  · obtain ⟨hm, hdb, -⟩ := stdB_true hs
    obtain ⟨n, hn⟩ : ∃ n : Nat, d + 1 = (n : Int) := ⟨(d + 1).toNat, by omega⟩
    obtain ⟨ys, hy⟩ : ∃ ys, tab n (mulF m c0) = ys := ⟨_, rfl⟩
    have HF : MultiplicativeLawR m d c0 = ((m, ys), 0) := by simp only [MultiplicativeLawR, hs, hn, Int.toNat_natCast, hy]; simp
    rw [HF]
    have HYL : Hid (ys.length = n) := by unfold Hid; rw [← hy, length_tab]
    have hd1 : d = (n : Int) - 1 := by omega
    subst hd1
    have HS : Hid (stdN m ((n : Int) - 1) [c0] = 0) := by simp [Hid, stdN, hs]
    obtain ⟨X, hX⟩ : ∃ X, tab n (axF (varL n) 0) = X := ⟨_, rfl⟩
    obtain ⟨Y, hY⟩ : ∃ Y, tab n (axF (varL n) 1) = Y := ⟨_, rfl⟩
    obtain ⟨SU, hSU⟩ : ∃ SU, (tab n fun i j => (co2 X i j + co2 Y i j) % m) = SU := ⟨_, rfl⟩
    obtain ⟨PR, hPR⟩ : ∃ PR, tab n (tmF m n (co2 X) (co2 Y)) = PR := ⟨_, rfl⟩
    obtain ⟨SC, hSC⟩ : ∃ SC, (tab n fun i j => c0 % m * co2 PR i j % m) = SC := ⟨_, rfl⟩
    have HX := Lib.hid hX
    have HY := Lib.hid hY
    have HSU := Lib.hid hSU
    have HPR := Lib.hid hPR
    have HSC := Lib.hid hSC
    have HXT : Hid (Tri n X) := by unfold Hid; rw [← hX]; exact Tri.tab _ _
    have HYT : Hid (Tri n Y) := by unfold Hid; rw [← hY]; exact Tri.tab _ _
    have HSUT : Hid (Tri n SU) := by unfold Hid; rw [← hSU]; exact Tri.tab _ _
    have HPRT : Hid (Tri n PR) := by unfold Hid; rw [← hPR]; exact Tri.tab _ _
    have HSCT : Hid (Tri n SC) := by unfold Hid; rw [← hSC]; exact Tri.tab _ _
    have HXN : Hid (Num2 m X) := by unfold Hid; rw [← hX]; exact var_num2 m hm.1 n 0
    have HYN : Hid (Num2 m Y) := by unfold Hid; rw [← hY]; exact var_num2 m hm.1 n 1
    have HSUN : Hid (Num2 m SU) := by unfold Hid; rw [← hSU]; exact mod_num2 (by omega) _ _
    have HPRN : Hid (Num2 m PR) := by unfold Hid; rw [← hPR]; exact tmF_num2 (by omega) _ _ _
    have HSCN : Hid (Num2 m SC) := by unfold Hid; rw [← hSC]; exact mod_num2 (by omega) _ _
    have HD : Hid ((tab n fun i j => (co2 SU i j + co2 SC i j) % m) = ys) := by
      unfold Hid
      rw [← hSU, ← hSC, ← hPR, ← hX, ← hY, xy_sum m n hm.1, xy_prod m n hm.1 (by omega), mul_join m c0 n hm.1]
      exact hy
    have hSUL : Hid (SU.length = n) := HSUT.out.1
    have hPRL : Hid (PR.length = n) := HPRT.out.1
    have hSCL : Hid (SC.length = n) := HSCT.out.1
    clear HF hs hy hn hX hY hSU hPR hSC
    go_enter Try.func48, Try.ntmps48
    go_wp2_with (first | (go_at_call 71; refine (standard_any m _ _ _ [c0] (w.heap.size + 1) HL1.out).mono ?_; rintro e w1 ⟨rfl, hb1⟩; rw [HS.out]; have P1 : Bf w1 w.heap.size (.int .i64 0) (.slice none 0 0) := ((Bf.alloc1 w _ _ _).alloc _).keep hb1; have K1 : Below w.heap.size w w1 := Below.trans (by (repeat (first | assumption | exact Below.refl _ _ | refine Below.alloc ?_ (by first | omega | (simp; done) | (simp; omega)) _ | refine Below.setCell ?_ (by first | omega | (simp; done) | (simp; omega)) _ | refine below_drewN ?_ _))) (hb1.mono (by simp; omega)); have p1a := P1.1.2.1; have p1b := P1.1.2.2; have z1 := P1.1.1) | (go_at_call 72; refine (variables_any _ m _ n (by omega) (by omega) (by omega) X Y HX.out HY.out).mono ?_; rintro e w2 ⟨A2, c2, A3, c3, rfl, o2, o3, hb2⟩; have O2 := Lib.hid o2; have O3 := Lib.hid o3; clear o2 o3; have R2 : Below w1.heap.size w1 w2 := (Below.trans (by (repeat (first | assumption | exact Below.refl _ _ | refine Below.alloc ?_ (by first | omega | (simp; done) | (simp; omega)) _ | refine Below.setCell ?_ (by first | omega | (simp; done) | (simp; omega)) _ | refine below_drewN ?_ _))) (hb2.mono (by first | exact Nat.le_refl _ | (simp; done) | (simp; omega)))); have s2 := R2.size; have K2 : Below w.heap.size w w2 := K1.trans (R2.mono K1.size); have P2 := P1.keep R2; have p2a := P2.1.2.1; have p2b := P2.1.2.2; have z2 := P2.1.1))
    obtain ⟨W, hW⟩ : ∃ W, W = (w2.alloc (.cells #[.int .i64 m, .slice A2 n c2] 27)).alloc (.cells #[.int .i64 m, .slice A3 n c3] 27) := ⟨_, rfl⟩
    rw [← hW]
    have PW : Bf W w.heap.size (.int .i64 0) (.slice none 0 0) := by rw [hW]; exact (P2.alloc _).alloc _
    have SX : Bf W w2.heap.size (.int .i64 m) (.slice A2 n c2) := by rw [hW]; exact (Bf.alloc1 w2 _ _ _).alloc _
    have SY : Bf W (w2.heap.size + 1) (.int .i64 m) (.slice A3 n c3) := by rw [hW]; exact Bf.q2
    have KW : Below w.heap.size w W := by rw [hW]; exact (K2.alloc (by omega) _).alloc (by simp; omega) _
    have OX : Hid (OwnP W w1.heap.size w2.heap.size (.slice A2 n c2) X) := by unfold Hid; rw [hW]; exact (O2.out.alloc _).alloc _
    have OY : Hid (OwnP W w1.heap.size w2.heap.size (.slice A3 n c3) Y) := by unfold Hid; rw [hW]; exact (O3.out.alloc _).alloc _
    have sXa := SX.1.2.1
    have sXb := SX.1.2.2
    have sYa := SY.1.2.1
    have sYb := SY.1.2.2
    have zSY := SY.1.1
    have zW := KW.size
    obtain ⟨bx, hbx⟩ : ∃ bx, bx = w2.heap.size := ⟨_, rfl⟩
    rw [← hbx] at SX SY sXa sXb sYa sYb zSY OX OY ⊢
    have hbx2 : w.heap.size < bx := by omega
    clear P1 K1 p1a p1b P2 K2 p2a p2b hb1 hb2 R2 O2 O3 hW hbx
    go_region_held3 (fun w' => w'.cell? ⟨bx, 0, none⟩ = some (.int .i64 m) ∧ w'.cell? ⟨bx, 1, none⟩ = some (.slice A2 n c2) ∧ w'.cell? ⟨bx + 1, 0, none⟩ = some (.int .i64 m) ∧ w'.cell? ⟨bx + 1, 1, none⟩ = some (.slice A3 n c3))
      (first | exact ⟨sXa, sXb, sYa, sYb⟩ | exact ⟨cell_store2 dXa (by omega), cell_store2 dXb (by omega), cell_store2 dYa (by omega), cell_store2 dYb (by omega)⟩ | (refine (fun (h : Below W.heap.size W _) => ⟨(SX.keep h).1.2.1, (SX.keep h).1.2.2, (SY.keep h).1.2.1, (SY.keep h).1.2.2⟩) ?_; (repeat (first | assumption | exact Below.refl _ _ | (refine Below.alloc ?_ ?_ _; rotate_left; (focus (first | exact Nat.le_refl _ | omega | (simp; done) | (simp; omega)))) | (refine Below.setCell ?_ ?_ _; rotate_left; (focus (first | exact Nat.le_refl _ | omega | (simp; done) | (simp; omega)))) | refine below_drew ?_ | refine below_drewN ?_ _ | (refine Below.trans ?_ (Below.mono hbD ?_); rotate_left; (focus (first | exact Nat.le_refl _ | omega | (simp; done) | (simp; omega)))) | (refine Below.trans ?_ (Below.mono hbS ?_); rotate_left; (focus (first | exact Nat.le_refl _ | omega | (simp; done) | (simp; omega)))) | (refine Below.trans ?_ (Below.mono hbT ?_); rotate_left; (focus (first | exact Nat.le_refl _ | omega | (simp; done) | (simp; omega)))) | (refine Below.trans ?_ (Below.mono hbP ?_); rotate_left; (focus (first | exact Nat.le_refl _ | omega | (simp; done) | (simp; omega)))))); done) | go_keep)
      (first | (go_at_call 73; have _h := hbP; have _h2 := hbS; refine (pPlus_any _ m _ _ SU SC ys n _ _ _ _ (OP.out.keep (hbT.trans (hbS.mono hbT.size))) HSUT.out HSUN.out (OS.out.keep (by (repeat (first | assumption | exact Below.refl _ _ | (refine Below.alloc ?_ ?_ _; rotate_left; (focus (first | exact Nat.le_refl _ | omega | (simp; done) | (simp; omega)))) | (refine Below.setCell ?_ ?_ _; rotate_left; (focus (first | exact Nat.le_refl _ | omega | (simp; done) | (simp; omega)))) | refine below_drew ?_ | refine below_drewN ?_ _ | (refine Below.trans ?_ (Below.mono hbD ?_); rotate_left; (focus (first | exact Nat.le_refl _ | omega | (simp; done) | (simp; omega)))) | (refine Below.trans ?_ (Below.mono hbS ?_); rotate_left; (focus (first | exact Nat.le_refl _ | omega | (simp; done) | (simp; omega)))) | (refine Below.trans ?_ (Below.mono hbT ?_); rotate_left; (focus (first | exact Nat.le_refl _ | omega | (simp; done) | (simp; omega)))) | (refine Below.trans ?_ (Below.mono hbP ?_); rotate_left; (focus (first | exact Nat.le_refl _ | omega | (simp; done) | (simp; omega)))))))) HSCT.out HSCN.out (by omega) (by omega) (by omega) (by omega) HD.out).mono ?_; (rintro e wD ⟨AD, cD, rfl, oD, hbD⟩; rw [HYL.out] at oD ⊢; have HWD : Below W.heap.size W wD := (by (repeat (first | assumption | exact Below.refl _ _ | (refine Below.alloc ?_ ?_ _; rotate_left; (focus (first | exact Nat.le_refl _ | omega | (simp; done) | (simp; omega)))) | (refine Below.setCell ?_ ?_ _; rotate_left; (focus (first | exact Nat.le_refl _ | omega | (simp; done) | (simp; omega)))) | refine below_drew ?_ | refine below_drewN ?_ _ | (refine Below.trans ?_ (Below.mono hbD ?_); rotate_left; (focus (first | exact Nat.le_refl _ | omega | (simp; done) | (simp; omega)))) | (refine Below.trans ?_ (Below.mono hbS ?_); rotate_left; (focus (first | exact Nat.le_refl _ | omega | (simp; done) | (simp; omega)))) | (refine Below.trans ?_ (Below.mono hbT ?_); rotate_left; (focus (first | exact Nat.le_refl _ | omega | (simp; done) | (simp; omega)))) | (refine Below.trans ?_ (Below.mono hbP ?_); rotate_left; (focus (first | exact Nat.le_refl _ | omega | (simp; done) | (simp; omega))))))); have dXa := (SX.keep HWD).1.2.1; have dXb := (SX.keep HWD).1.2.2; have dYa := (SY.keep HWD).1.2.1; have dYb := (SY.keep HWD).1.2.2; have PD := PW.keep HWD; have pDa := PD.1.2.1; have pDb := PD.1.2.2; have pDc := PD.2.1; have pDd := PD.2.2; have zD := HWD.size)) | (go_at_call 73; refine (pPlus_any _ m _ _ X Y SU n _ _ _ _ (OX.out.keep (by (repeat (first | assumption | exact Below.refl _ _ | (refine Below.alloc ?_ ?_ _; rotate_left; (focus (first | exact Nat.le_refl _ | omega | (simp; done) | (simp; omega)))) | (refine Below.setCell ?_ ?_ _; rotate_left; (focus (first | exact Nat.le_refl _ | omega | (simp; done) | (simp; omega)))) | refine below_drew ?_ | refine below_drewN ?_ _ | (refine Below.trans ?_ (Below.mono hbD ?_); rotate_left; (focus (first | exact Nat.le_refl _ | omega | (simp; done) | (simp; omega)))) | (refine Below.trans ?_ (Below.mono hbS ?_); rotate_left; (focus (first | exact Nat.le_refl _ | omega | (simp; done) | (simp; omega)))) | (refine Below.trans ?_ (Below.mono hbT ?_); rotate_left; (focus (first | exact Nat.le_refl _ | omega | (simp; done) | (simp; omega)))) | (refine Below.trans ?_ (Below.mono hbP ?_); rotate_left; (focus (first | exact Nat.le_refl _ | omega | (simp; done) | (simp; omega)))))))) HXT.out HXN.out (OY.out.keep (by (repeat (first | assumption | exact Below.refl _ _ | (refine Below.alloc ?_ ?_ _; rotate_left; (focus (first | exact Nat.le_refl _ | omega | (simp; done) | (simp; omega)))) | (refine Below.setCell ?_ ?_ _; rotate_left; (focus (first | exact Nat.le_refl _ | omega | (simp; done) | (simp; omega)))) | refine below_drew ?_ | refine below_drewN ?_ _ | (refine Below.trans ?_ (Below.mono hbD ?_); rotate_left; (focus (first | exact Nat.le_refl _ | omega | (simp; done) | (simp; omega)))) | (refine Below.trans ?_ (Below.mono hbS ?_); rotate_left; (focus (first | exact Nat.le_refl _ | omega | (simp; done) | (simp; omega)))) | (refine Below.trans ?_ (Below.mono hbT ?_); rotate_left; (focus (first | exact Nat.le_refl _ | omega | (simp; done) | (simp; omega)))) | (refine Below.trans ?_ (Below.mono hbP ?_); rotate_left; (focus (first | exact Nat.le_refl _ | omega | (simp; done) | (simp; omega)))))))) HYT.out HYN.out (by omega) (by omega) (by omega) (by omega) HSU.out).mono ?_; (rintro e wP ⟨AP, cP, rfl, oP, hbP⟩; rw [hSUL.out] at oP ⊢; have OP := Lib.hid oP; have KP : Below W.heap.size W wP := (by (repeat (first | assumption | exact Below.refl _ _ | (refine Below.alloc ?_ ?_ _; rotate_left; (focus (first | exact Nat.le_refl _ | omega | (simp; done) | (simp; omega)))) | (refine Below.setCell ?_ ?_ _; rotate_left; (focus (first | exact Nat.le_refl _ | omega | (simp; done) | (simp; omega)))) | refine below_drew ?_ | refine below_drewN ?_ _ | (refine Below.trans ?_ (Below.mono hbD ?_); rotate_left; (focus (first | exact Nat.le_refl _ | omega | (simp; done) | (simp; omega)))) | (refine Below.trans ?_ (Below.mono hbS ?_); rotate_left; (focus (first | exact Nat.le_refl _ | omega | (simp; done) | (simp; omega)))) | (refine Below.trans ?_ (Below.mono hbT ?_); rotate_left; (focus (first | exact Nat.le_refl _ | omega | (simp; done) | (simp; omega)))) | (refine Below.trans ?_ (Below.mono hbP ?_); rotate_left; (focus (first | exact Nat.le_refl _ | omega | (simp; done) | (simp; omega))))))); have zP := KP.size; clear oP)) | (go_at_call 98; refine (pTimes_any _ m _ _ X Y PR n _ _ _ _ (OX.out.keep (by (repeat (first | assumption | exact Below.refl _ _ | (refine Below.alloc ?_ ?_ _; rotate_left; (focus (first | exact Nat.le_refl _ | omega | (simp; done) | (simp; omega)))) | (refine Below.setCell ?_ ?_ _; rotate_left; (focus (first | exact Nat.le_refl _ | omega | (simp; done) | (simp; omega)))) | refine below_drew ?_ | refine below_drewN ?_ _ | (refine Below.trans ?_ (Below.mono hbD ?_); rotate_left; (focus (first | exact Nat.le_refl _ | omega | (simp; done) | (simp; omega)))) | (refine Below.trans ?_ (Below.mono hbS ?_); rotate_left; (focus (first | exact Nat.le_refl _ | omega | (simp; done) | (simp; omega)))) | (refine Below.trans ?_ (Below.mono hbT ?_); rotate_left; (focus (first | exact Nat.le_refl _ | omega | (simp; done) | (simp; omega)))) | (refine Below.trans ?_ (Below.mono hbP ?_); rotate_left; (focus (first | exact Nat.le_refl _ | omega | (simp; done) | (simp; omega)))))))) HXT.out HXN.out (OY.out.keep (by (repeat (first | assumption | exact Below.refl _ _ | (refine Below.alloc ?_ ?_ _; rotate_left; (focus (first | exact Nat.le_refl _ | omega | (simp; done) | (simp; omega)))) | (refine Below.setCell ?_ ?_ _; rotate_left; (focus (first | exact Nat.le_refl _ | omega | (simp; done) | (simp; omega)))) | refine below_drew ?_ | refine below_drewN ?_ _ | (refine Below.trans ?_ (Below.mono hbD ?_); rotate_left; (focus (first | exact Nat.le_refl _ | omega | (simp; done) | (simp; omega)))) | (refine Below.trans ?_ (Below.mono hbS ?_); rotate_left; (focus (first | exact Nat.le_refl _ | omega | (simp; done) | (simp; omega)))) | (refine Below.trans ?_ (Below.mono hbT ?_); rotate_left; (focus (first | exact Nat.le_refl _ | omega | (simp; done) | (simp; omega)))) | (refine Below.trans ?_ (Below.mono hbP ?_); rotate_left; (focus (first | exact Nat.le_refl _ | omega | (simp; done) | (simp; omega)))))))) HYT.out HYN.out (by omega) (by omega) (by omega) (by omega) HPR.out).mono ?_; (rintro e wT ⟨AT, cT, rfl, oT, hbT⟩; rw [hPRL.out] at oT ⊢; have OT := Lib.hid oT; have KT : Below W.heap.size W wT := (by (repeat (first | assumption | exact Below.refl _ _ | (refine Below.alloc ?_ ?_ _; rotate_left; (focus (first | exact Nat.le_refl _ | omega | (simp; done) | (simp; omega)))) | (refine Below.setCell ?_ ?_ _; rotate_left; (focus (first | exact Nat.le_refl _ | omega | (simp; done) | (simp; omega)))) | refine below_drew ?_ | refine below_drewN ?_ _ | (refine Below.trans ?_ (Below.mono hbD ?_); rotate_left; (focus (first | exact Nat.le_refl _ | omega | (simp; done) | (simp; omega)))) | (refine Below.trans ?_ (Below.mono hbS ?_); rotate_left; (focus (first | exact Nat.le_refl _ | omega | (simp; done) | (simp; omega)))) | (refine Below.trans ?_ (Below.mono hbT ?_); rotate_left; (focus (first | exact Nat.le_refl _ | omega | (simp; done) | (simp; omega)))) | (refine Below.trans ?_ (Below.mono hbP ?_); rotate_left; (focus (first | exact Nat.le_refl _ | omega | (simp; done) | (simp; omega))))))); have zT := KT.size; clear oT)) | (go_at_call 99; refine (pScaled_any _ m c0 _ PR SC n _ _ (OT.out.keep (by (repeat (first | assumption | exact Below.refl _ _ | (refine Below.alloc ?_ ?_ _; rotate_left; (focus (first | exact Nat.le_refl _ | omega | (simp; done) | (simp; omega)))) | (refine Below.setCell ?_ ?_ _; rotate_left; (focus (first | exact Nat.le_refl _ | omega | (simp; done) | (simp; omega)))) | refine below_drew ?_ | refine below_drewN ?_ _ | (refine Below.trans ?_ (Below.mono hbD ?_); rotate_left; (focus (first | exact Nat.le_refl _ | omega | (simp; done) | (simp; omega)))) | (refine Below.trans ?_ (Below.mono hbS ?_); rotate_left; (focus (first | exact Nat.le_refl _ | omega | (simp; done) | (simp; omega)))) | (refine Below.trans ?_ (Below.mono hbT ?_); rotate_left; (focus (first | exact Nat.le_refl _ | omega | (simp; done) | (simp; omega)))) | (refine Below.trans ?_ (Below.mono hbP ?_); rotate_left; (focus (first | exact Nat.le_refl _ | omega | (simp; done) | (simp; omega)))))))) HPRT.out HPRN.out (by omega) (by omega) (by omega) (by omega) HSC.out).mono ?_; (rintro e wS ⟨AS, cS, rfl, oS, hbS⟩; rw [hSCL.out] at oS ⊢; have OS := Lib.hid oS; have KS : Below W.heap.size W wS := (by (repeat (first | assumption | exact Below.refl _ _ | (refine Below.alloc ?_ ?_ _; rotate_left; (focus (first | exact Nat.le_refl _ | omega | (simp; done) | (simp; omega)))) | (refine Below.setCell ?_ ?_ _; rotate_left; (focus (first | exact Nat.le_refl _ | omega | (simp; done) | (simp; omega)))) | refine below_drew ?_ | refine below_drewN ?_ _ | (refine Below.trans ?_ (Below.mono hbD ?_); rotate_left; (focus (first | exact Nat.le_refl _ | omega | (simp; done) | (simp; omega)))) | (refine Below.trans ?_ (Below.mono hbS ?_); rotate_left; (focus (first | exact Nat.le_refl _ | omega | (simp; done) | (simp; omega)))) | (refine Below.trans ?_ (Below.mono hbT ?_); rotate_left; (focus (first | exact Nat.le_refl _ | omega | (simp; done) | (simp; omega)))) | (refine Below.trans ?_ (Below.mono hbP ?_); rotate_left; (focus (first | exact Nat.le_refl _ | omega | (simp; done) | (simp; omega))))))); have zS := KS.size; clear oS)))
    all_goals
      go_wp2
      exact bodyPost_ret (v := .tuple #[.agg #[.int .i64 m, .slice AD n cD], .int .i64 0]) (by simp [results, Try.results48, go_sem, pDa, pDb]) rfl (RetPI.mk (oD.far2 (.inl (by omega))) HYL.out (by omega) (((KW.trans (HWD.mono (by omega))).setCell (by simp) _).setCell (by simp) _))
set_option maxHeartbeats 1000000 in
theorem sMultiplicativeLawR_any (w : World) (m d c0 : Int) : Calls Try.prog 47 #[.int .i64 m, .int .i64 d, .int .i64 c0] w (RetPI w (MultiplicativeLawR m d c0)) := by
  have HL1 : Hid (OwnI ((w.alloc (.cells #[.int .i64 0, .slice none 0 0] 27)).alloc (.cells #[.int .i64 c0] 2)) (w.heap.size + 1) (.slice (some ⟨w.heap.size + 1, 0, none⟩) 1 1) [c0]) := by
    have h := OwnI.lit1 (w.alloc (.cells #[.int .i64 0, .slice none 0 0] 27)) c0 (B := w.heap.size + 1) (by simp)
    unfold Hid
    simpa using h
  cases hs : stdB m d [c0]
  · have HF : MultiplicativeLawR m d c0 = ((0, []), 2) := by simp [MultiplicativeLawR, hs]
    rw [HF]
    have HS := Lib.hid hs
    clear HF hs
    go_enter Try.func47, Try.ntmps47
    go_wp2_with (go_at_call 69; refine (l08Kind_any m d _ _ [c0] (w.heap.size + 1) HL1.out).mono ?_; rintro e w1 ⟨rfl, hb1⟩; rw [HS.out]; have P1 : Bf w1 w.heap.size (.int .i64 0) (.slice none 0 0) := ((Bf.alloc1 w _ _ _).alloc _).keep hb1; have K1 : Below w.heap.size w w1 := Below.trans (by (repeat (first | assumption | exact Below.refl _ _ | refine Below.alloc ?_ (by first | omega | (simp; done) | (simp; omega)) _ | refine Below.setCell ?_ (by first | omega | (simp; done) | (simp; omega)) _ | refine below_drewN ?_ _))) (hb1.mono (by simp; omega)); have p1a := P1.1.2.1; have p1b := P1.1.2.2; have p1c := P1.2.1; have p1d := P1.2.2)
    exact bodyPost_ret (v := .tuple #[.agg #[.int .i64 0, .slice none 0 0], .int .i64 2]) (by simp [results, Try.results47, go_sem, p1a, p1b]) rfl (RetPI.zero ((K1.setCell (by simp) _).setCell (by simp) _))
  · obtain ⟨hm, hdb, hcb⟩ := stdB_true hs
    have hc : 0 ≤ c0 ∧ c0 < m := by
      have h := isNumB_true (show isNumB c0 m = true by simpa [numsB] using hcb)
      exact h
    clear hcb
    obtain ⟨n, hn⟩ : ∃ n : Nat, d + 1 = (n : Int) := ⟨(d + 1).toNat, by omega⟩
    obtain ⟨ys, hy⟩ : ∃ ys, tab n (mulF m c0) = ys := ⟨_, rfl⟩
    have HF : MultiplicativeLawR m d c0 = ((m, ys), 0) := by simp only [MultiplicativeLawR, hs, hn, Int.toNat_natCast, hy]; simp
    rw [HF]
    have HYL : Hid (ys.length = n) := by unfold Hid; rw [← hy, length_tab]
    have HY := Lib.hid hy
    have HS := Lib.hid hs
    have hd1 : d = (n : Int) - 1 := by omega
    subst hd1
    clear HF hs hy hn
    go_enter Try.func47, Try.ntmps47
    go_wp2_with (first | (go_at_call 69; refine (l08Kind_any m _ _ _ [c0] (w.heap.size + 1) HL1.out).mono ?_; rintro e w1 ⟨rfl, hb1⟩; rw [HS.out]; have P1 : Bf w1 w.heap.size (.int .i64 0) (.slice none 0 0) := ((Bf.alloc1 w _ _ _).alloc _).keep hb1; have K1 : Below w.heap.size w w1 := Below.trans (by (repeat (first | assumption | exact Below.refl _ _ | refine Below.alloc ?_ (by first | omega | (simp; done) | (simp; omega)) _ | refine Below.setCell ?_ (by first | omega | (simp; done) | (simp; omega)) _ | refine below_drewN ?_ _))) (hb1.mono (by simp; omega)); have p1a := P1.1.2.1; have p1b := P1.1.2.2; have y1 := P1.1.1) | (go_at_call 70; refine (l08Mul_any _ m _ c0 n ys (by omega) (by omega) (by omega) hc HY.out).mono ?_; rintro e w2 ⟨A2, c2, rfl, o2, hb2⟩; rw [HYL.out] at o2 ⊢; have O2 := Lib.hid o2; clear o2; have R2 : Below w1.heap.size w1 w2 := (Below.trans (by (repeat (first | assumption | exact Below.refl _ _ | refine Below.alloc ?_ (by first | omega | (simp; done) | (simp; omega)) _ | refine Below.setCell ?_ (by first | omega | (simp; done) | (simp; omega)) _ | refine below_drewN ?_ _))) (hb2.mono (by first | exact Nat.le_refl _ | (simp; done) | (simp; omega)))); have s2 := R2.size; have K2 : Below w.heap.size w w2 := K1.trans (R2.mono K1.size); have P2 := P1.keep R2; have p2a := P2.1.2.1; have p2b := P2.1.2.2; have z2 := P2.1.1) | (go_at_call 62; refine (l03Make_any _ m A2 n c2).mono ?_; rintro e w3 ⟨rfl, hb3⟩; have O3 := Lib.hid (O2.out.keep hb3); have R3 : Below w2.heap.size w2 w3 := (Below.trans (by (repeat (first | assumption | exact Below.refl _ _ | refine Below.alloc ?_ (by first | omega | (simp; done) | (simp; omega)) _ | refine Below.setCell ?_ (by first | omega | (simp; done) | (simp; omega)) _ | refine below_drewN ?_ _))) (hb3.mono (by first | exact Nat.le_refl _ | (simp; done) | (simp; omega)))); have s3 := R3.size; have K3 : Below w.heap.size w w3 := K2.trans (R3.mono K2.size); have P3 := P2.keep R3; have p3a := P3.1.2.1; have p3b := P3.1.2.2; have z3 := P3.1.1; have p3c := P3.2.1; have p3d := P3.2.2))
    exact bodyPost_ret (v := .tuple #[.agg #[.int .i64 m, .slice A2 n c2], .int .i64 0]) (by simp [results, Try.results47, go_sem, p3a, p3b]) rfl (RetPI.mk (O3.out.far2 (b := w.heap.size) (.inl (by omega))) HYL.out (by omega) ((K3.setCell (by simp) _).setCell (by simp) _))

/-! ### The laws' walks, printed by genlaw2.py -/
set_option maxHeartbeats 4000000 in
theorem FnExactMultiplicativeLaw_walk (w : World) (a0 : Int) (a1 : Int) (a2 : Int) : Calls Try.prog 14 #[.int .i64 a0, .int .i64 a1, .int .i64 a2] w fun e w' => e = .returned (.bool true) ∧ Below w.heap.size w w' := by
  obtain ⟨r0, HR⟩ : ∃ r0, Hid (MultiplicativeLawR a0 a1 a2 = r0) := ⟨_, rfl⟩
  obtain ⟨⟨rm, rl⟩, rc⟩ := r0
  have hlen := MultiplicativeLawR_len a0 a1 a2
  rw [HR.out] at hlen
  simp only at hlen
  go_enter Try.func14, Try.ntmps14
  go_wp2_with fail
  refine (sMultiplicativeLawR_any _ a0 a1 a2).mono ?_
  rintro e w1 h_r
  replace h_r := h_r.of HR
  obtain ⟨A_ow, c_ow, rfl, o_ow, hb1⟩ := h_r
  have o_ow' := (o_ow).mono (show w.heap.size ≤ _ from by first | exact Nat.le_refl _ | (simp; done) | (simp; omega)) (Nat.le_refl _)
  clear o_ow
  have R : Below w.heap.size w w1 := Below.trans (by (repeat (first | assumption | exact Below.refl _ _ | refine Below.alloc ?_ (by first | omega | (simp; done) | (simp; omega)) _ | refine Below.setCell ?_ (by first | omega | (simp; done) | (simp; omega)) _ | refine below_drewN ?_ _))) (hb1.mono (by first | exact Nat.le_refl _ | (simp; done) | (simp; omega)))
  have s1 : w.heap.size ≤ w1.heap.size := R.size
  have K1 : Hid (Below w.heap.size w w1) := R
  clear R hb1
  have ow : Hid (OwnP w1 w.heap.size w1.heap.size (.slice A_ow rl.length c_ow) rl) := o_ow'
  clear o_ow'
  go_wp2_with fail
  refine (iMultiplicativeLawR_any _ a0 a1 a2).mono ?_
  rintro e w2 h_r
  replace h_r := h_r.of HR
  obtain ⟨A_og, c_og, rfl, o_og, hb2⟩ := h_r
  have o_og' := (o_og).mono (show (w1.heap.size + 1) ≤ _ from by first | exact Nat.le_refl _ | (simp; done) | (simp; omega)) (Nat.le_refl _)
  clear o_og
  have R : Below w1.heap.size w1 w2 := Below.trans (by (repeat (first | assumption | exact Below.refl _ _ | refine Below.alloc ?_ (by first | omega | (simp; done) | (simp; omega)) _ | refine Below.setCell ?_ (by first | omega | (simp; done) | (simp; omega)) _ | refine below_drewN ?_ _))) (hb2.mono (by first | exact Nat.le_refl _ | (simp; done) | (simp; omega)))
  have s2 : w1.heap.size ≤ w2.heap.size := R.size
  have K2 : Hid (Below w.heap.size w w2) := K1.out.trans (R.mono (by omega))
  replace ow : Hid (OwnP w2 w.heap.size w1.heap.size (.slice A_ow rl.length c_ow) rl) := ow.out.keep R
  have bw : Hid (Bx w2 w1.heap.size (.int .i64 rm) (.slice A_ow rl.length c_ow)) := ⟨by have := hb2.size; simp at this; omega, by rw [hb2.cell (by first | (simp; done) | (simp; omega))]; simp, by rw [hb2.cell (by first | (simp; done) | (simp; omega))]; simp⟩
  clear R hb2
  have og : Hid (OwnP w2 (w1.heap.size + 1) w2.heap.size (.slice A_og rl.length c_og) rl) := o_og'
  clear o_og'
  have bw_c := bw.out.2.1
  have bw_d := bw.out.2.2
  have bw_z := bw.out.1
  go_wp2_with fail
  refine (eqP_any _ rm rm _ _ _ _ (og.out.keep (by (repeat (first | assumption | exact Below.refl _ _ | refine Below.alloc ?_ (by first | omega | (simp; done) | (simp; omega)) _ | refine Below.setCell ?_ (by first | omega | (simp; done) | (simp; omega)) _ | refine below_drewN ?_ _)))).rd (ow.out.keep (by (repeat (first | assumption | exact Below.refl _ _ | refine Below.alloc ?_ (by first | omega | (simp; done) | (simp; omega)) _ | refine Below.setCell ?_ (by first | omega | (simp; done) | (simp; omega)) _ | refine below_drewN ?_ _)))).rd).mono ?_
  rintro e w3 ⟨rfl, hb3⟩
  clear bw_c bw_d bw_z
  have R : Below w2.heap.size w2 w3 := Below.trans (by (repeat (first | assumption | exact Below.refl _ _ | refine Below.alloc ?_ (by first | omega | (simp; done) | (simp; omega)) _ | refine Below.setCell ?_ (by first | omega | (simp; done) | (simp; omega)) _ | refine below_drewN ?_ _))) (hb3.mono (by first | exact Nat.le_refl _ | (simp; done) | (simp; omega)))
  have s3 : w2.heap.size ≤ w3.heap.size := R.size
  have K3 : Hid (Below w.heap.size w w3) := K2.out.trans (R.mono (by omega))
  replace bw : Hid (Bx w3 w1.heap.size (.int .i64 rm) (.slice A_ow rl.length c_ow)) := bw.out.keep R
  replace ow : Hid (OwnP w3 w.heap.size w1.heap.size (.slice A_ow rl.length c_ow) rl) := ow.out.keep R
  replace og : Hid (OwnP w3 (w1.heap.size + 1) w2.heap.size (.slice A_og rl.length c_og) rl) := og.out.keep R
  have bg : Hid (Bx w3 w2.heap.size (.int .i64 rm) (.slice A_og rl.length c_og)) := ⟨by have := hb3.size; simp at this; omega, by rw [hb3.cell (by first | (simp; done) | (simp; omega))]; simp, by rw [hb3.cell (by first | (simp; done) | (simp; omega))]; simp⟩
  clear R hb3
  have bw_c := bw.out.2.1
  have bw_d := bw.out.2.2
  have bw_z := bw.out.1
  have bg_c := bg.out.2.1
  have bg_d := bg.out.2.2
  have bg_z := bg.out.1
  go_wp2_with fail
  refine (markPB_any _ (w1.heap.size + 1) w2.heap.size rm _ rl (1) (og.out.keep (by (repeat (first | assumption | exact Below.refl _ _ | refine Below.alloc ?_ (by first | omega | (simp; done) | (simp; omega)) _ | refine Below.setCell ?_ (by first | omega | (simp; done) | (simp; omega)) _ | refine below_drewN ?_ _)))) (by omega) (by omega) (by omega)).mono ?_
  rintro e w4 ⟨rfl, o_m, hg4⟩
  clear bw_c bw_d bw_z
  clear bg_c bg_d bg_z
  have R : Within (w1.heap.size + 1) w2.heap.size w3 w4 := Within.behind (by (repeat (first | assumption | exact Below.refl _ _ | refine Below.alloc ?_ (by first | omega | (simp; done) | (simp; omega)) _ | refine Below.setCell ?_ (by first | omega | (simp; done) | (simp; omega)) _ | refine below_drewN ?_ _))) hg4
  have s4 : w3.heap.size ≤ w4.heap.size := R.2.2.2.1
  have K4 : Hid (Below w.heap.size w w4) := R.below K3.out (by omega) (by omega)
  replace bw : Hid (Bx w4 w1.heap.size (.int .i64 rm) (.slice A_ow rl.length c_ow)) := bw.out.within R (by omega)
  replace bg : Hid (Bx w4 w2.heap.size (.int .i64 rm) (.slice A_og rl.length c_og)) := bg.out.within R (by omega)
  replace ow : Hid (OwnP w4 w.heap.size w1.heap.size (.slice A_ow rl.length c_ow) rl) := ow.out.within R (by omega)
  clear R hg4
  replace og : Hid (OwnP w4 (w1.heap.size + 1) w2.heap.size (.slice A_og rl.length c_og) (mkP (1) rl)) := o_m
  clear o_m
  have bw_c := bw.out.2.1
  have bw_d := bw.out.2.2
  have bw_z := bw.out.1
  have bg_c := bg.out.2.1
  have bg_d := bg.out.2.2
  have bg_z := bg.out.1
  go_wp2_with fail
  refine (heldPB_any _ (w1.heap.size + 1) w2.heap.size rm _ rl (1) (og.out.keep (by (repeat (first | assumption | exact Below.refl _ _ | refine Below.alloc ?_ (by first | omega | (simp; done) | (simp; omega)) _ | refine Below.setCell ?_ (by first | omega | (simp; done) | (simp; omega)) _ | refine below_drewN ?_ _)))) (by omega) (by omega) (by omega)).mono ?_
  rintro e w5 ⟨rfl, hb5⟩
  clear bw_c bw_d bw_z
  clear bg_c bg_d bg_z
  have R : Below w4.heap.size w4 w5 := Below.trans (by (repeat (first | assumption | exact Below.refl _ _ | refine Below.alloc ?_ (by first | omega | (simp; done) | (simp; omega)) _ | refine Below.setCell ?_ (by first | omega | (simp; done) | (simp; omega)) _ | refine below_drewN ?_ _))) (hb5.mono (by first | exact Nat.le_refl _ | (simp; done) | (simp; omega)))
  have s5 : w4.heap.size ≤ w5.heap.size := R.size
  have K5 : Hid (Below w.heap.size w w5) := K4.out.trans (R.mono (by omega))
  replace bw : Hid (Bx w5 w1.heap.size (.int .i64 rm) (.slice A_ow rl.length c_ow)) := bw.out.keep R
  replace bg : Hid (Bx w5 w2.heap.size (.int .i64 rm) (.slice A_og rl.length c_og)) := bg.out.keep R
  replace ow : Hid (OwnP w5 w.heap.size w1.heap.size (.slice A_ow rl.length c_ow) rl) := ow.out.keep R
  replace og : Hid (OwnP w5 (w1.heap.size + 1) w2.heap.size (.slice A_og rl.length c_og) (mkP (1) rl)) := og.out.keep R
  clear R hb5
  have bw_c := bw.out.2.1
  have bw_d := bw.out.2.2
  have bw_z := bw.out.1
  have bg_c := bg.out.2.1
  have bg_d := bg.out.2.2
  have bg_z := bg.out.1
  go_wp2_with fail
  refine (iMultiplicativeLawR_any _ a0 a1 a2).mono ?_
  rintro e w6 h_r
  replace h_r := h_r.of HR
  obtain ⟨A_oh, c_oh, rfl, o_oh, hb6⟩ := h_r
  have o_oh' := (o_oh).mono (show w5.heap.size ≤ _ from by first | exact Nat.le_refl _ | (simp; done) | (simp; omega)) (Nat.le_refl _)
  clear o_oh
  clear bw_c bw_d bw_z
  clear bg_c bg_d bg_z
  have R : Below w5.heap.size w5 w6 := Below.trans (by (repeat (first | assumption | exact Below.refl _ _ | refine Below.alloc ?_ (by first | omega | (simp; done) | (simp; omega)) _ | refine Below.setCell ?_ (by first | omega | (simp; done) | (simp; omega)) _ | refine below_drewN ?_ _))) (hb6.mono (by first | exact Nat.le_refl _ | (simp; done) | (simp; omega)))
  have s6 : w5.heap.size ≤ w6.heap.size := R.size
  have K6 : Hid (Below w.heap.size w w6) := K5.out.trans (R.mono (by omega))
  replace bw : Hid (Bx w6 w1.heap.size (.int .i64 rm) (.slice A_ow rl.length c_ow)) := bw.out.keep R
  replace bg : Hid (Bx w6 w2.heap.size (.int .i64 rm) (.slice A_og rl.length c_og)) := bg.out.keep R
  replace ow : Hid (OwnP w6 w.heap.size w1.heap.size (.slice A_ow rl.length c_ow) rl) := ow.out.keep R
  replace og : Hid (OwnP w6 (w1.heap.size + 1) w2.heap.size (.slice A_og rl.length c_og) (mkP (1) rl)) := og.out.keep R
  clear R hb6
  have oh : Hid (OwnP w6 w5.heap.size w6.heap.size (.slice A_oh rl.length c_oh) rl) := o_oh'
  clear o_oh'
  have bw_c := bw.out.2.1
  have bw_d := bw.out.2.2
  have bw_z := bw.out.1
  have bg_c := bg.out.2.1
  have bg_d := bg.out.2.2
  have bg_z := bg.out.1
  go_wp2_with fail
  refine (eqP_any _ rm rm _ _ _ _ (oh.out.keep (by (repeat (first | assumption | exact Below.refl _ _ | refine Below.alloc ?_ (by first | omega | (simp; done) | (simp; omega)) _ | refine Below.setCell ?_ (by first | omega | (simp; done) | (simp; omega)) _ | refine below_drewN ?_ _)))).rd (ow.out.keep (by (repeat (first | assumption | exact Below.refl _ _ | refine Below.alloc ?_ (by first | omega | (simp; done) | (simp; omega)) _ | refine Below.setCell ?_ (by first | omega | (simp; done) | (simp; omega)) _ | refine below_drewN ?_ _)))).rd).mono ?_
  rintro e w7 ⟨rfl, hb7⟩
  clear bw_c bw_d bw_z
  clear bg_c bg_d bg_z
  have R : Below w6.heap.size w6 w7 := Below.trans (by (repeat (first | assumption | exact Below.refl _ _ | refine Below.alloc ?_ (by first | omega | (simp; done) | (simp; omega)) _ | refine Below.setCell ?_ (by first | omega | (simp; done) | (simp; omega)) _ | refine below_drewN ?_ _))) (hb7.mono (by first | exact Nat.le_refl _ | (simp; done) | (simp; omega)))
  have s7 : w6.heap.size ≤ w7.heap.size := R.size
  have K7 : Hid (Below w.heap.size w w7) := K6.out.trans (R.mono (by omega))
  replace bw : Hid (Bx w7 w1.heap.size (.int .i64 rm) (.slice A_ow rl.length c_ow)) := bw.out.keep R
  replace bg : Hid (Bx w7 w2.heap.size (.int .i64 rm) (.slice A_og rl.length c_og)) := bg.out.keep R
  replace ow : Hid (OwnP w7 w.heap.size w1.heap.size (.slice A_ow rl.length c_ow) rl) := ow.out.keep R
  replace og : Hid (OwnP w7 (w1.heap.size + 1) w2.heap.size (.slice A_og rl.length c_og) (mkP (1) rl)) := og.out.keep R
  replace oh : Hid (OwnP w7 w5.heap.size w6.heap.size (.slice A_oh rl.length c_oh) rl) := oh.out.keep R
  have bh : Hid (Bx w7 w6.heap.size (.int .i64 rm) (.slice A_oh rl.length c_oh)) := ⟨by have := hb7.size; simp at this; omega, by rw [hb7.cell (by first | (simp; done) | (simp; omega))]; simp, by rw [hb7.cell (by first | (simp; done) | (simp; omega))]; simp⟩
  clear R hb7
  have bw_c := bw.out.2.1
  have bw_d := bw.out.2.2
  have bw_z := bw.out.1
  have bg_c := bg.out.2.1
  have bg_d := bg.out.2.2
  have bg_z := bg.out.1
  have bh_c := bh.out.2.1
  have bh_d := bh.out.2.2
  have bh_z := bh.out.1
  go_wp2_with fail
  refine (heldPB_any _ (w1.heap.size + 1) w2.heap.size rm _ rl (1) (og.out.keep (by (repeat (first | assumption | exact Below.refl _ _ | refine Below.alloc ?_ (by first | omega | (simp; done) | (simp; omega)) _ | refine Below.setCell ?_ (by first | omega | (simp; done) | (simp; omega)) _ | refine below_drewN ?_ _)))) (by omega) (by omega) (by omega)).mono ?_
  rintro e w8 ⟨rfl, hb8⟩
  clear bw_c bw_d bw_z
  clear bg_c bg_d bg_z
  clear bh_c bh_d bh_z
  have R : Below w7.heap.size w7 w8 := Below.trans (by (repeat (first | assumption | exact Below.refl _ _ | refine Below.alloc ?_ (by first | omega | (simp; done) | (simp; omega)) _ | refine Below.setCell ?_ (by first | omega | (simp; done) | (simp; omega)) _ | refine below_drewN ?_ _))) (hb8.mono (by first | exact Nat.le_refl _ | (simp; done) | (simp; omega)))
  have s8 : w7.heap.size ≤ w8.heap.size := R.size
  have K8 : Hid (Below w.heap.size w w8) := K7.out.trans (R.mono (by omega))
  replace bw : Hid (Bx w8 w1.heap.size (.int .i64 rm) (.slice A_ow rl.length c_ow)) := bw.out.keep R
  replace bg : Hid (Bx w8 w2.heap.size (.int .i64 rm) (.slice A_og rl.length c_og)) := bg.out.keep R
  replace bh : Hid (Bx w8 w6.heap.size (.int .i64 rm) (.slice A_oh rl.length c_oh)) := bh.out.keep R
  replace ow : Hid (OwnP w8 w.heap.size w1.heap.size (.slice A_ow rl.length c_ow) rl) := ow.out.keep R
  replace og : Hid (OwnP w8 (w1.heap.size + 1) w2.heap.size (.slice A_og rl.length c_og) (mkP (1) rl)) := og.out.keep R
  replace oh : Hid (OwnP w8 w5.heap.size w6.heap.size (.slice A_oh rl.length c_oh) rl) := oh.out.keep R
  clear R hb8
  have bw_c := bw.out.2.1
  have bw_d := bw.out.2.2
  have bw_z := bw.out.1
  have bg_c := bg.out.2.1
  have bg_d := bg.out.2.2
  have bg_z := bg.out.1
  have bh_c := bh.out.2.1
  have bh_d := bh.out.2.2
  have bh_z := bh.out.1
  go_wp2
  go_ret
  exact ⟨rfl, K8.out⟩


end Go.Proofs.Ytenofgofcioffaa
