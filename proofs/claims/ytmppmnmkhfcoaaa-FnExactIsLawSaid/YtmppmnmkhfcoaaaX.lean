/- Contracts over this seat's translation. Condition: each contract's own. -/
import Derived.Test.YtmppmnmkhfcoaaaF
import Derived.ProofKit
import Derived.Laws.Bits64b
import Derived.Lib.Mul64
import Derived.OpenShut
import Derived.Below
import Derived.ChangeSame
import Derived.Deep.Modes
import Derived.Lib.SmallJoins
import Derived.ChangeSlices
import Derived.WalkKit
import Derived.WalkSpells
import Derived.WalkLawsBesides
import Derived.Deep.QuietTactic
import Derived.BigQuiet
import Derived.Deep.RegionHeld3
import Derived.Deep.RegionWith
import Derived.Deep.RegionLaw
import Derived.Deep.AppendLies
import Derived.Laws.CopyOwn
import Derived.Deep.DeepCutAuto
import Derived.Deep.OwnRows
import Derived.Deep.LoopGhost
import Derived.Deep.DeepFit
import Derived.Deep.DeepMust
import Derived.Deep.Draws
import Derived.Deep.CutRange
import Derived.Maps.AppendAt
import Derived.Lib.Hide
import Derived.StillTailTactics
import Derived.Laws.MakeOwn
import Derived.Deep.Matrix
set_option linter.unusedVariables false
open Go Go.RowKit
namespace Go.Proofs.Ytmppmnmkhfcoaaa
/-! ### A series on an axis -/
theorem co_lst' {d : Nat} {g : Nat → Int} {k : Nat} (h : k < d) : co (lst d g) k = g k := getD_lst _ _ _ h
def varL (n : Nat) : List Int := lst n fun k => if k = 1 then 1 else 0
theorem length_varL (n : Nat) : (varL n).length = n := length_lst _ _
theorem var_set (n : Nat) : (List.replicate n (0 : Int)).set 1 1 = varL n := by
  rw [replicate_lst, set_lst]
  rfl
def axF (xs : List Int) (k : Int) (i j : Nat) : Int := if k = 0 then (if j = 0 then co xs i else 0) else if i = 0 then co xs j else 0
theorem variable_any (w : World) (m d : Int) (n : Nat) (hd : d + 1 = (n : Int)) (hn2 : 2 ≤ n) (hn : n ≤ 1000000) : Calls Try.prog 128 #[.int .i64 m, .int .i64 d] w (NewS w m (varL n)) := by
  have hd2 : d = (n : Int) - 1 := by omega
  subst hd2
  have HL : Hid ((varL n).length = n) := length_varL n
  clear hd
  go_enter Try.func128, Try.ntmps128
  go_wp2_with (go_at_call 83; refine (zero_any _ m _ n (by omega) (by omega)).mono ?_; rintro e w1 ⟨g, rfl, hg, hr, hb1⟩; obtain ⟨P1, K1⟩ := Bf.first1 hb1; have p1a := P1.1.2.1; have p1b := P1.1.2.2; have z1 := P1.1.1; have p1c := P1.2.1; have p1d := P1.2.2; have hg2 : w.heap.size + 1 ≤ g := (by simpa using hg); have hd0 := hr.cell (k := 1) (by simp; omega); have hf0 := hr.free 1; have HR := Lib.hid hr; clear hr; have hk1 : (1 : Int) < (n : Int) := (by omega); have hk2 : 1 < n := (by omega); have hk3 : ¬ n ≤ 1 := (by omega); have zg := HR.out.lt; have B1 := Bf.alloc1 w1 (.int .i64 m) (.slice (some ⟨g, 0, none⟩) n n) 78; have b1a := B1.1.2.1; have b1b := B1.1.2.2; have hd1 := ((Lib.hid (HR.out.alloc (.cells #[.int .i64 m, .slice (some ⟨g, 0, none⟩) n n] 78))).out).cell (k := 1) (by simp; omega); have hf1 := ((Lib.hid (HR.out.alloc (.cells #[.int .i64 m, .slice (some ⟨g, 0, none⟩) n n] 78))).out).free 1)
  have B3 := ((P1.setCell (p := ⟨g, 1, none⟩) (by simp; omega) (.int .i64 1)).store2 (x' := .int .i64 m) (y' := .slice (some ⟨g, 0, none⟩) n n)).alloc (.cells #[.int .i64 m, .slice (some ⟨g, 0, none⟩) n n] 78)
  have b3a := B3.1.2.1
  have b3b := B3.1.2.2
  have HR2 := (((HR.out.set_ 1 1).far (p := ⟨w.heap.size, 0, none⟩) (by simp; omega) (.int .i64 m)).far (p := ⟨w.heap.size, 1, none⟩) (by simp; omega) (.slice (some ⟨g, 0, none⟩) n n)).alloc (.cells #[.int .i64 m, .slice (some ⟨g, 0, none⟩) n n] 78)
  rw [var_set] at HR2
  exact bodyPost_ret (v := .agg #[.int .i64 m, .slice (some ⟨g, 0, none⟩) n n]) (by simp [results, Try.results128, go_sem, b3a, b3b]) rfl ⟨some ⟨g, 0, none⟩, n, by rw [HL.out], by rw [HL.out]; exact HR2.own' (by omega) HL.out, (((K1.setCell (by simp; omega) _).setCell (by simp) _).setCell (by simp) _).alloc (by simp [World.setCell]; omega) _⟩

theorem Num2.tab {m : Int} (hm : 0 < m) (n : Nat) (f : Nat → Nat → Int) (h : ∀ i j, 0 ≤ f i j ∧ f i j < m) : Num2 m (tab n f) := fun i j => by
  unfold co2
  rcases Nat.lt_or_ge i n with hi | hi
  · rw [getD_tab f hi]
    exact NumL.lst hm (fun k _ => h i k) j
  · rw [show (Go.Proofs.Ytmppmnmkhfcoaaa.tab n f).getD i [] = [] by rw [List.getD_eq_getElem?_getD, List.getElem?_eq_none (by rw [length_tab]; omega)]; rfl]
    simp [co]
    omega

/-! ### Standard laws: conditions, variables, sums -/
def stdB (m d : Int) (xs : List Int) : Bool := isModB m && inB d 1 10 && numsB m xs
def stdN (m d : Int) (xs : List Int) : Int := if stdB m d xs = true then 0 else 2

theorem OwnP.top {w : World} {lo hi B : Nat} {v : Value} {xss : List (List Int)} (h : OwnP w lo hi v xss) (hB : B ≤ lo) : OwnP w B w.heap.size v xss := h.hi_le.mono hB (Nat.le_refl _)

/-! ### Sums of planes -/
/-! ### AdditiveLaw -/
def AdditiveLawR (m d : Int) : (Int × List (List Int)) × Int := if stdB m d [] = false then ((0, []), 2) else ((m, tab (d + 1).toNat fun i j => if (i = 1 ∧ j = 0) ∨ (i = 0 ∧ j = 1) then 1 else 0), 0)
theorem stdB_true {m d : Int} {xs : List Int} (h : stdB m d xs = true) : (2 ≤ m ∧ m ≤ 10000) ∧ (1 ≤ d ∧ d ≤ 10) ∧ numsB m xs = true := by
  simp only [stdB, Bool.and_eq_true] at h
  exact ⟨isModB_true h.1.1, inB_true.1 h.1.2, h.2⟩
theorem AdditiveLawR_len (m d : Int) : cntP (AdditiveLawR m d).1.2 ≤ 200 := by
  unfold AdditiveLawR
  cases h : stdB m d []
  · simp [cntP]
  · have := stdB_true h
    exact cntP_tab_100 _ (by omega)
theorem axF_var (n : Nat) (k : Int) (i j : Nat) (h : i + j < n) : axF (varL n) k i j = if k = 0 then (if i = 1 ∧ j = 0 then 1 else 0) else if i = 0 ∧ j = 1 then 1 else 0 := by
  have e : ∀ q, q < n → co (varL n) q = if q = 1 then 1 else 0 := fun q hq => by unfold varL; rw [co_lst' hq]
  simp only [axF]
  by_cases hk : k = 0
  · simp only [hk, if_true]
    rw [e i (by omega)]
    by_cases h1 : j = 0 <;> by_cases h2 : i = 1 <;> simp [h1, h2]
  · simp only [hk, if_false]
    rw [e j (by omega)]
    by_cases h1 : j = 1 <;> by_cases h2 : i = 0 <;> simp [h1, h2]
theorem xy_sum (m : Int) (n : Nat) (hm : 2 ≤ m) : (tab n fun i j => (co2 (tab n (axF (varL n) 0)) i j + co2 (tab n (axF (varL n) 1)) i j) % m) = tab n fun i j => if (i = 1 ∧ j = 0) ∨ (i = 0 ∧ j = 1) then 1 else 0 := tab_congr fun i j hij => by
  rw [co2_tab _ hij, co2_tab _ hij, axF_var n 0 i j hij, axF_var n 1 i j hij]
  have e1 : (1 : Int) % m = 1 := Int.emod_eq_of_lt (by omega) (by omega)
  by_cases h1 : i = 1
  · subst h1
    by_cases h2 : j = 0 <;> simp [h2, e1]
  · by_cases h2 : i = 0
    · subst h2
      by_cases h3 : j = 1 <;> simp [h3, e1]
    · simp [h1, h2]
theorem var_num2 (m : Int) (hm : 2 ≤ m) (n : Nat) (k : Int) : Num2 m (tab n (axF (varL n) k)) := fun i j => by
  rcases Nat.lt_or_ge (i + j) n with h | h
  · rw [co2_tab _ h, axF_var n k i j h]
    by_cases hk : k = 0
    · simp only [hk, if_true]; split <;> omega
    · simp only [hk, if_false]; split <;> omega
  · have : co2 (tab n (axF (varL n) k)) i j = 0 := by
      unfold co2
      rcases Nat.lt_or_ge i n with hi | hi
      · rw [getD_tab _ hi]
        unfold co
        exact getD_lst_ge _ _ _ (by omega)
      · rw [show (tab n (axF (varL n) k)).getD i [] = [] by rw [List.getD_eq_getElem?_getD, List.getElem?_eq_none (by rw [length_tab]; omega)]; rfl]
        rfl
    rw [this]
    omega
def mulF (m c : Int) (i j : Nat) : Int := if (i = 1 ∧ j = 0) ∨ (i = 0 ∧ j = 1) then 1 else if i = 1 ∧ j = 1 then c % m else 0
theorem mul_upd (m c : Int) (n : Nat) (_hn : 3 ≤ n) (hc : 0 ≤ c ∧ c < m) : tab n (upd2 (upd2 (upd2 (fun _ _ => 0) 1 0 1) 0 1 1) 1 1 c) = tab n (mulF m c) := tab_congr fun i j _ => by
  have e : c % m = c := Int.emod_eq_of_lt hc.1 hc.2
  unfold upd2 mulF
  by_cases h1 : i = 1
  · subst h1
    by_cases h2 : j = 1
    · subst h2; simp [e]
    · by_cases h3 : j = 0 <;> simp [h2, h3]
  · by_cases h4 : i = 0
    · subst h4
      by_cases h2 : j = 1 <;> simp [h2]
    · simp [h1, h4]
theorem mul_upd2 (m c : Int) (n : Nat) (hn : n = 2) : tab n (upd2 (upd2 (fun _ _ => 0) 1 0 1) 0 1 1) = tab n (mulF m c) := tab_congr fun i j hij => by
  unfold upd2 mulF
  by_cases h1 : i = 1
  · subst h1
    have : j = 0 := by omega
    subst this
    simp
  · have h4 : i = 0 := by omega
    subst h4
    by_cases h2 : j = 1 <;> simp [h2]
theorem mul_zero (m : Int) (n : Nat) : tab n (mulF m 0) = tab n fun i j => if (i = 1 ∧ j = 0) ∨ (i = 0 ∧ j = 1) then 1 else 0 := tab_congr fun i j _ => by
  unfold mulF
  simp
/-- A cell of a table, and what a store into it makes. -/
theorem OwnP.put {w : World} {lo hi : Nat} {g n c : Nat} {f : Nat → Nat → Int} (h : OwnP w lo hi (.slice (some ⟨g, 0, none⟩) n c) (tab n f)) {i j : Nat} (hij : i + j < n) :
    ∃ gr cr, w.cell? ⟨g, i, none⟩ = some (.slice (some ⟨gr, 0, none⟩) (n - i) cr) ∧ gr ≠ g ∧ lo ≤ gr ∧ gr < hi ∧ gr < w.heap.size ∧ w.cell? ⟨gr, j, none⟩ = some (.int .i64 (f i j)) ∧ w.frozen? ⟨gr, j, none⟩ = false ∧ ∀ y : Int, OwnP (w.setCell ⟨gr, j, none⟩ (.int .i64 y)) lo hi (.slice (some ⟨g, 0, none⟩) n c) (tab n (upd2 f i j y)) := by
  obtain ⟨Ar, cr, hcell⟩ := h.cell (k := i) (by rw [length_tab]; omega)
  rw [getD_tab _ (by omega), length_lst] at hcell
  obtain ⟨-, _, _, hw⟩ := h.rowW (i := i) (by rw [length_tab]; omega) hcell
  obtain ⟨gr, rfl, h1, h2, h3, h4, h5, h6, h7⟩ := hw j (by omega)
  rw [co2_tab f hij] at h5
  exact ⟨gr, cr, hcell, h1, h2, h3, h4, h5, h6, fun y => by rw [← set_tab' _ _ _ _ _ (by omega)]; exact h7 y⟩

/-! ### Products of planes: the plain law -/
def fT (f g : Nat → Nat → Int) (i j a b : Nat) : Int := if i ≤ a ∧ j ≤ b then f i j * g (a - i) (b - j) else 0
def rowS (f g : Nat → Nat → Int) (i J a b : Nat) : Int := sumN (fun j => fT f g i j a b) J
def allS (n : Nat) (f g : Nat → Nat → Int) (I a b : Nat) : Int := sumN (fun i => rowS f g i (n - i) a b) I
def stS (n : Nat) (f g : Nat → Nat → Int) (i j a b : Nat) : Int := allS n f g i a b + rowS f g i j a b
/-- Coefficient (a, b) of the product of two planes. -/
def tmF (m : Int) (n : Nat) (f g : Nat → Nat → Int) (a b : Nat) : Int := allS n f g n a b % m
/-- The table while the product is reckoned: behind place (i, j) of the first, at place (k, l) of the second. -/
def stP (m : Int) (n : Nat) (f g : Nat → Nat → Int) (i j k l a b : Nat) : Int := if i ≤ a ∧ j ≤ b ∧ (a - i < k ∨ (a - i = k ∧ b - j < l)) then stS n f g i (j + 1) a b % m else stS n f g i j a b % m
theorem stS_succ (n : Nat) (f g : Nat → Nat → Int) (i j a b : Nat) : stS n f g i (j + 1) a b = stS n f g i j a b + fT f g i j a b := by
  unfold stS rowS
  simp only [sumN]
  omega
theorem tP_zero (m : Int) (n : Nat) (f g : Nat → Nat → Int) : (tab n fun _ _ => 0) = tab n (stP m n f g 0 0 0 0) := tab_congr fun a b _ => by
  unfold stP
  rw [if_neg (by omega)]
  simp [stS, allS, rowS, sumN]
theorem stP_at (m : Int) (n : Nat) (f g : Nat → Nat → Int) (i j k l : Nat) : stP m n f g i j k l (i + k) (j + l) = stS n f g i j (i + k) (j + l) % m := by
  unfold stP
  rw [if_neg (by omega)]
theorem tP_step (m : Int) (n : Nat) (f g : Nat → Nat → Int) (i j k l : Nat) : tab n (upd2 (stP m n f g i j k l) (i + k) (j + l) ((stS n f g i j (i + k) (j + l) % m + f i j * g k l % m) % m)) = tab n (stP m n f g i j k (l + 1)) := tab_congr fun a b _ => by
  unfold upd2
  by_cases h : a = i + k ∧ b = j + l
  · obtain ⟨rfl, rfl⟩ := h
    rw [if_pos ⟨rfl, rfl⟩]
    unfold stP
    rw [if_pos (by omega), stS_succ]
    have e : fT f g i j (i + k) (j + l) = f i j * g k l := by
      unfold fT
      rw [if_pos (by omega), show i + k - i = k by omega, show j + l - j = l by omega]
    rw [e, Int.emod_add_emod, Int.add_emod_emod]
  · rw [if_neg h]
    unfold stP
    by_cases h2 : i ≤ a ∧ j ≤ b ∧ (a - i < k ∨ (a - i = k ∧ b - j < l))
    · rw [if_pos h2, if_pos (by omega)]
    · rw [if_neg h2, if_neg (by omega)]
theorem tP_step' (m : Int) (n : Nat) (f g : Nat → Nat → Int) (i j k l : Nat) : tab n (upd2 (stP m n f g i j k l) (i + k) (j + l) ((stS n f g i j (i + k) (j + l) % m + f i j * g k l) % m)) = tab n (stP m n f g i j k (l + 1)) := by
  rw [← tP_step, Int.add_emod_emod]
theorem tP_endl (m : Int) (n : Nat) (f g : Nat → Nat → Int) (i j k r : Nat) (hr : i + j + k + r = n) : tab n (stP m n f g i j k r) = tab n (stP m n f g i j (k + 1) 0) := tab_congr fun a b hab => by
  unfold stP
  by_cases h2 : i ≤ a ∧ j ≤ b ∧ (a - i < k ∨ (a - i = k ∧ b - j < r))
  · rw [if_pos h2, if_pos (by omega)]
  · rw [if_neg h2, if_neg (by omega)]
theorem fT_zero (f g : Nat → Nat → Int) (i j a b : Nat) (h : ¬ (i ≤ a ∧ j ≤ b)) : fT f g i j a b = 0 := by unfold fT; rw [if_neg h]
theorem tP_endk (m : Int) (n : Nat) (f g : Nat → Nat → Int) (i j k : Nat) (hk : i + j + k = n) : tab n (stP m n f g i j k 0) = tab n (stP m n f g i (j + 1) 0 0) := tab_congr fun a b hab => by
  have e : stP m n f g i (j + 1) 0 0 a b = stS n f g i (j + 1) a b % m := by unfold stP; rw [if_neg (by omega)]
  rw [e]
  unfold stP
  by_cases h2 : i ≤ a ∧ j ≤ b
  · rw [if_pos (by omega)]
  · rw [if_neg (by omega), stS_succ, fT_zero f g i j a b h2, Int.add_zero]
theorem tP_skip (m : Int) (n : Nat) (f g : Nat → Nat → Int) (i j : Nat) (h : f i j = 0) : tab n (stP m n f g i j 0 0) = tab n (stP m n f g i (j + 1) 0 0) := tab_congr fun a b hab => by
  have e : fT f g i j a b = 0 := by unfold fT; rw [h]; simp
  unfold stP
  rw [if_neg (by omega), if_neg (by omega), stS_succ, e, Int.add_zero]
theorem tP_endj (m : Int) (n : Nat) (f g : Nat → Nat → Int) (i j : Nat) (h : i + j = n) : tab n (stP m n f g i j 0 0) = tab n (stP m n f g (i + 1) 0 0 0) := tab_congr fun a b hab => by
  unfold stP
  rw [if_neg (by omega), if_neg (by omega)]
  unfold stS allS
  simp only [sumN]
  rw [show n - i = j by omega]
  simp [rowS, sumN]
theorem tP_all (m : Int) (n : Nat) (f g : Nat → Nat → Int) : tab n (stP m n f g n 0 0 0) = tab n (tmF m n f g) := tab_congr fun a b hab => by
  unfold stP
  rw [if_neg (by omega)]
  simp [stS, tmF, rowS, sumN]
theorem stS_bd {m : Int} (hm : 0 < m) (n : Nat) (f g : Nat → Nat → Int) (i j a b : Nat) : 0 ≤ stS n f g i j a b % m ∧ stS n f g i j a b % m < m := ⟨Int.emod_nonneg _ (by omega), Int.emod_lt_of_pos _ hm⟩
theorem tmF_bd {m : Int} (hm : 0 < m) (n : Nat) (f g : Nat → Nat → Int) (a b : Nat) : 0 ≤ tmF m n f g a b ∧ tmF m n f g a b < m := ⟨Int.emod_nonneg _ (by omega), Int.emod_lt_of_pos _ hm⟩

set_option maxRecDepth 16000 in
set_option maxHeartbeats 8000000 in
theorem pTimes_any (w : World) (m : Int) (v v2 : Value) (xss yss zss : List (List Int)) (n : Nat) (lo0 hi0 lo2 hi2 : Nat) (hv : OwnP w lo0 hi0 v xss) (ht : Tri n xss) (hq : Num2 m xss) (hv2 : OwnP w lo2 hi2 v2 yss) (ht2 : Tri n yss) (hq2 : Num2 m yss) (hm : 2 ≤ m) (hm' : m ≤ 3000000000) (hn1 : 1 ≤ n) (hn : n ≤ 1000) (hz : tab n (tmF m n (co2 xss) (co2 yss)) = zss) :
    Calls Try.prog 66 #[.agg #[.int .i64 m, v], .agg #[.int .i64 m, v2]] w (NewPl w m zss) := by
  obtain ⟨gA, cA, rfl, hcA1, hcA2, hgA, hA⟩ := hv.source n ht.1 hn1
  obtain ⟨gB, cB, rfl, hcB1, hcB2, hgB, hB⟩ := hv2.source n ht2.1 hn1
  have HZ := Lib.hid hz
  have HT := Lib.hid ht
  have HT2 := Lib.hid ht2
  have HQ := Lib.hid hq
  have HQ2 := Lib.hid hq2
  have HV := Lib.hid hv
  have HV2 := Lib.hid hv2
  have HZL : Hid (zss.length = n) := by unfold Hid; rw [← hz, length_tab]
  clear hz ht ht2 hq hq2 hv hv2 hA hB
  go_enter Try.func66, Try.ntmps66
  go_upto_region 1 with fail
  go_cut [5] from 14 to 19 (fun s wx => ∃ (bo : Nat) (A' : Option Addr) (c' : Nat), s = .pointer (some ⟨bo, 0, none⟩) ∧ w.heap.size + 3 ≤ bo ∧ bo < wx.heap.size ∧ Hid (Bf wx bo (.int .i64 m) (.slice A' n c')) ∧ Hid (OwnPx wx (w.heap.size + 3) bo (.slice A' n c') (tab n fun _ _ => 0)) ∧ Hid (Bf wx w.heap.size (.int .i64 m) (.slice (some ⟨gA, 0, none⟩) n cA)) ∧ Hid (Bf wx (w.heap.size + 1) (.int .i64 m) (.slice (some ⟨gB, 0, none⟩) n cB)) ∧ Hid (Bf wx (w.heap.size + 2) (.int .i64 0) (.slice none 0 0)) ∧ Hid (Below w.heap.size w wx))
  case first =>
    go_region_held3 (fun w' => w'.cell? ⟨w.heap.size, 0, none⟩ = some (.int .i64 m) ∧ w'.cell? ⟨w.heap.size, 1, none⟩ = some (.slice (some ⟨gA, 0, none⟩) n cA))
      (first | exact ⟨p2a, p2b⟩ | exact ⟨p1a, p1b⟩ | go_keep | (refine (fun (h : Bf _ w.heap.size (.int .i64 m) (.slice (some ⟨gA, 0, none⟩) n cA)) => ⟨h.1.2.1, h.1.2.2⟩) ((Bf.alloc1 w _ _ 24).keep ?_); (repeat (first | assumption | exact Below.refl _ _ | (refine Below.alloc ?_ ?_ _; rotate_left; (focus (first | exact Nat.le_refl _ | omega | (simp; done) | (simp; omega)))) | (refine Below.setCell ?_ ?_ _; rotate_left; (focus (first | exact Nat.le_refl _ | omega | (simp; done) | (simp; omega)))) | refine below_drew ?_ | refine below_drewN ?_ _ | (refine Below.trans ?_ (Below.mono hb2 ?_); rotate_left; (focus (first | exact Nat.le_refl _ | omega | (simp; done) | (simp; omega)))) | (refine Below.trans ?_ (Below.mono hb1 ?_); rotate_left; (focus (first | exact Nat.le_refl _ | omega | (simp; done) | (simp; omega))))))))
      (first | (go_at_call 132; refine (pDegree_any m (some ⟨gA, 0, none⟩) n cA _ (by omega)).mono ?_; rintro e w1 ⟨rfl, hb1⟩; have P1 : Bf w1 w.heap.size (.int .i64 m) (.slice (some ⟨gA, 0, none⟩) n cA) := ((Bf.alloc1 w _ _ 24).keep (by (repeat (first | assumption | exact Below.refl _ _ | (refine Below.alloc ?_ ?_ _; rotate_left; (focus (first | exact Nat.le_refl _ | omega | (simp; done) | (simp; omega)))) | (refine Below.setCell ?_ ?_ _; rotate_left; (focus (first | exact Nat.le_refl _ | omega | (simp; done) | (simp; omega)))) | refine below_drew ?_ | refine below_drewN ?_ _ | (refine Below.trans ?_ (Below.mono hb1 ?_); rotate_left; (focus (first | exact Nat.le_refl _ | omega | (simp; done) | (simp; omega)))))))); have p1a := P1.1.2.1; have p1b := P1.1.2.2; obtain ⟨hc1, hf1⟩ := bcell hb1; have z1 := hb1.size; (try simp at z1); have z1p : w.heap.size < w1.heap.size := (by omega); (first | (have y1 : w.heap.size + 3 < w1.heap.size := (by omega)) | skip)) | (go_at_call 131; refine (emptyPlane_any _ m _ n (by omega) (by omega)).mono ?_; rintro e w2 ⟨A9, c9, rfl, hr2, hb2⟩; rw [length_tab] at hr2 ⊢; have P2 : Bf w2 w.heap.size (.int .i64 m) (.slice (some ⟨gA, 0, none⟩) n cA) := ((Bf.alloc1 w _ _ 24).keep (by (repeat (first | assumption | exact Below.refl _ _ | (refine Below.alloc ?_ ?_ _; rotate_left; (focus (first | exact Nat.le_refl _ | omega | (simp; done) | (simp; omega)))) | (refine Below.setCell ?_ ?_ _; rotate_left; (focus (first | exact Nat.le_refl _ | omega | (simp; done) | (simp; omega)))) | refine below_drew ?_ | refine below_drewN ?_ _ | (refine Below.trans ?_ (Below.mono hb2 ?_); rotate_left; (focus (first | exact Nat.le_refl _ | omega | (simp; done) | (simp; omega)))) | (refine Below.trans ?_ (Below.mono hb1 ?_); rotate_left; (focus (first | exact Nat.le_refl _ | omega | (simp; done) | (simp; omega)))))))); have p2a := P2.1.2.1; have p2b := P2.1.2.2; obtain ⟨hc2, hf2⟩ := bcell hb2; have z2 := hb2.size; (try simp at z2); have z2p : w.heap.size < w2.heap.size := (by omega)))
    all_goals
      go_wp2_with fail
      go_meet
      have KK : Hid (Below w.heap.size w w2) := by (repeat (first | assumption | exact Below.refl _ _ | (refine Below.alloc ?_ ?_ _; rotate_left; (focus (first | exact Nat.le_refl _ | omega | (simp; done) | (simp; omega)))) | (refine Below.setCell ?_ ?_ _; rotate_left; (focus (first | exact Nat.le_refl _ | omega | (simp; done) | (simp; omega)))) | refine below_drew ?_ | refine below_drewN ?_ _ | (refine Below.trans ?_ (Below.mono hb2 ?_); rotate_left; (focus (first | exact Nat.le_refl _ | omega | (simp; done) | (simp; omega)))) | (refine Below.trans ?_ (Below.mono hb1 ?_); rotate_left; (focus (first | exact Nat.le_refl _ | omega | (simp; done) | (simp; omega))))))
      refine ⟨_, A9, c9, rfl, ?_, ?_, ?_, ?_, ?_, ?_, ?_, ?_⟩
      · first | omega | (simp; done) | (simp; omega)
      · first | omega | (simp; done) | (simp; omega) | (simp [World.setCell]; omega)
      · unfold Hid
        first | exact Bf.alloc1 w2 _ _ _ | exact ((Bf.alloc1 w1 _ _ _).keep hb2).store2 | exact (((Bf.q4 (w := w)).keep (below_undrew hb1)).keep hb2).store2
      · unfold Hid
        first | (refine OwnPx.of (hr2.alloc _) ?_ ?_ ?_ <;> (first | omega | (simp; done) | (simp; omega) | (right; omega) | (right; simp; done) | (right; simp; omega) | (left; omega) | (left; simp; done) | (left; simp; omega) | (simp [World.setCell]; done) | (simp [World.setCell]; omega)); done) | (refine OwnPx.of ((hr2.far ?_ _).far ?_ _) ?_ ?_ ?_ <;> (first | omega | (simp; done) | (simp; omega) | (right; omega) | (right; simp; done) | (right; simp; omega) | (left; omega) | (left; simp; done) | (left; simp; omega) | (simp [World.setCell]; done) | (simp [World.setCell]; omega)); done)
      · exact (Bf.q1 (w := w) (t := 24)).keep (by (repeat (first | assumption | exact Below.refl _ _ | (refine Below.alloc ?_ ?_ _; rotate_left; (focus (first | exact Nat.le_refl _ | omega | (simp; done) | (simp; omega)))) | (refine Below.setCell ?_ ?_ _; rotate_left; (focus (first | exact Nat.le_refl _ | omega | (simp; done) | (simp; omega)))) | refine below_drew ?_ | refine below_drewN ?_ _ | (refine Below.trans ?_ (Below.mono hb2 ?_); rotate_left; (focus (first | exact Nat.le_refl _ | omega | (simp; done) | (simp; omega)))) | (refine Below.trans ?_ (Below.mono hb1 ?_); rotate_left; (focus (first | exact Nat.le_refl _ | omega | (simp; done) | (simp; omega)))))))
      · exact (Bf.q2 (w := w) (t := 24) (t' := 24)).keep (by (repeat (first | assumption | exact Below.refl _ _ | (refine Below.alloc ?_ ?_ _; rotate_left; (focus (first | exact Nat.le_refl _ | omega | (simp; done) | (simp; omega)))) | (refine Below.setCell ?_ ?_ _; rotate_left; (focus (first | exact Nat.le_refl _ | omega | (simp; done) | (simp; omega)))) | refine below_drew ?_ | refine below_drewN ?_ _ | (refine Below.trans ?_ (Below.mono hb2 ?_); rotate_left; (focus (first | exact Nat.le_refl _ | omega | (simp; done) | (simp; omega)))) | (refine Below.trans ?_ (Below.mono hb1 ?_); rotate_left; (focus (first | exact Nat.le_refl _ | omega | (simp; done) | (simp; omega)))))))
      · exact (Bf.q3 (w := w) (t := 24) (t' := 24) (t2 := 24)).keep (by (repeat (first | assumption | exact Below.refl _ _ | (refine Below.alloc ?_ ?_ _; rotate_left; (focus (first | exact Nat.le_refl _ | omega | (simp; done) | (simp; omega)))) | (refine Below.setCell ?_ ?_ _; rotate_left; (focus (first | exact Nat.le_refl _ | omega | (simp; done) | (simp; omega)))) | refine below_drew ?_ | refine below_drewN ?_ _ | (refine Below.trans ?_ (Below.mono hb2 ?_); rotate_left; (focus (first | exact Nat.le_refl _ | omega | (simp; done) | (simp; omega)))) | (refine Below.trans ?_ (Below.mono hb1 ?_); rotate_left; (focus (first | exact Nat.le_refl _ | omega | (simp; done) | (simp; omega)))))))
      · (repeat (first | assumption | exact Below.refl _ _ | (refine Below.alloc ?_ ?_ _; rotate_left; (focus (first | exact Nat.le_refl _ | omega | (simp; done) | (simp; omega)))) | (refine Below.setCell ?_ ?_ _; rotate_left; (focus (first | exact Nat.le_refl _ | omega | (simp; done) | (simp; omega)))) | refine below_drew ?_ | refine below_drewN ?_ _ | (refine Below.trans ?_ (Below.mono hb2 ?_); rotate_left; (focus (first | exact Nat.le_refl _ | omega | (simp; done) | (simp; omega)))) | (refine Below.trans ?_ (Below.mono hb1 ?_); rotate_left; (focus (first | exact Nat.le_refl _ | omega | (simp; done) | (simp; omega))))))
  case rest =>
    obtain ⟨bo, A', c', rfl, hbo1, hbo2, HO, HR0, HP, HP2, HQR, HB⟩ := hcut
    obtain ⟨lo, hi, hlo, hbo3, hhi, hr0⟩ := HR0.out
    obtain ⟨g, _, _, -, e0, hg1, hg2, hg3, -⟩ := hr0.row (k := 0) (by rw [length_tab]; omega)
    rw [length_tab] at e0
    simp only [Value.slice.injEq] at e0
    obtain ⟨rfl, -, rfl⟩ := e0
    rw [tP_zero m n (co2 xss) (co2 yss)] at hr0
    have HR := Lib.hid hr0
    clear hr0 HR0
    have p1 := HP.out.1.2.1
    have p2 := HP.out.1.2.2
    go_wp2_with (go_at_call 132; refine (pDegree_any m (some ⟨gA, 0, none⟩) n cA _ (by omega)).mono ?_; rintro e w1 ⟨rfl, hb1⟩; have P1 := HP.out.keep hb1; have p1a := P1.1.2.1; have p1b := P1.1.2.2)
    have zB0 := HB.out.size
    have HO' := Lib.hid (HO.out.keep hb1)
    have HR' := Lib.hid (HR.out.keep hb1)
    have HP' := Lib.hid P1
    have HP2' := Lib.hid (HP2.out.keep hb1)
    have HQR' := Lib.hid (HQR.out.keep hb1)
    have HB' := Lib.hid (HB.out.trans (hb1.mono zB0))
    clear HO HR HP HP2 HQR HB P1 p1 p2 p1a p1b hb1
    go_loopw [24] (fun s wr => ∃ i : Nat, i ≤ n ∧ s = .int .i64 i ∧ Hid (Bf wr bo (.int .i64 m) (.slice (some ⟨g, 0, none⟩) n c')) ∧ Hid (OwnP wr lo hi (.slice (some ⟨g, 0, none⟩) n c') (tab n (stP m n (co2 xss) (co2 yss) i 0 0 0))) ∧ Hid (Bf wr w.heap.size (.int .i64 m) (.slice (some ⟨gA, 0, none⟩) n cA)) ∧ Hid (Bf wr (w.heap.size + 1) (.int .i64 m) (.slice (some ⟨gB, 0, none⟩) n cB)) ∧ Hid (Bf wr (w.heap.size + 2) (.int .i64 0) (.slice none 0 0)) ∧ Hid (Below w.heap.size w wr)) (fun s _ => n - (intOf s).toNat)
    case atStart => exact ⟨0, Nat.zero_le _, rfl, HO', HR', HP', HP2', HQR', HB'⟩
    case round =>
      clear HO' HR' HP' HP2' HQR' HB'
      obtain ⟨i, hin, rfl, HO, HR, HP, HP2, HQR, HB⟩ := hrel
      by_cases hlti : i < n
      · obtain ⟨gx, grx, crx, e1, hx1, hx2, hx3, -, hx5⟩ := HV.out.at2 (i := i) (j := 0) (by rw [HT.out.1]; exact hlti) (by rw [HT.out.2 i hlti]; omega)
        simp only [Option.some.injEq, Addr.mk.injEq] at e1
        obtain ⟨rfl, -⟩ := e1
        obtain ⟨ri, hri⟩ : ∃ ri, ri = n - i := ⟨_, rfl⟩
        rw [HT.out.2 i hlti, ← hri] at hx2 hx5
        have hri2 : i + ri = n := by omega
        have HRI := Lib.hid hri2
        have hri3 : i + ri ≤ n ∧ n ≤ i + ri := by omega
        clear hri hri2
        have hc1 := (HB.out.cell (p := ⟨gA, i, none⟩) hx1).trans hx2
        have hi0 : (0 : Int) ≤ (i : Int) := by omega
        have hi1 : (i : Int) < (n : Int) := by omega
        go_wp2
        clear hc1
        go_loopw [31] (fun s wr => ∃ j : Nat, j ≤ ri ∧ s = .int .i64 j ∧ Hid (Bf wr bo (.int .i64 m) (.slice (some ⟨g, 0, none⟩) n c')) ∧ Hid (OwnP wr lo hi (.slice (some ⟨g, 0, none⟩) n c') (tab n (stP m n (co2 xss) (co2 yss) i j 0 0))) ∧ Hid (Bf wr w.heap.size (.int .i64 m) (.slice (some ⟨gA, 0, none⟩) n cA)) ∧ Hid (Bf wr (w.heap.size + 1) (.int .i64 m) (.slice (some ⟨gB, 0, none⟩) n cB)) ∧ Hid (Bf wr (w.heap.size + 2) (.int .i64 0) (.slice none 0 0)) ∧ Hid (Below w.heap.size w wr)) (fun s _ => ri - (intOf s).toNat)
        case atStart => exact ⟨0, Nat.zero_le _, rfl, HO, HR, HP, HP2, HQR, HB⟩
        case round =>
          clear HO HR HP HP2 HQR HB
          obtain ⟨j, hj, rfl, HO, HR, HP, HP2, HQR, HB⟩ := hrel
          by_cases hltj : j < ri
          · obtain ⟨gx2, grx2, crx2, e1, -, hy2, hy3, hy4, -⟩ := HV.out.at2 (i := i) (j := j) (by rw [HT.out.1]; exact hlti) (by rw [HT.out.2 i hlti]; omega)
            simp only [Option.some.injEq, Addr.mk.injEq] at e1
            obtain ⟨rfl, -⟩ := e1
            rw [hx2] at hy2
            simp only [Option.some.injEq, Value.slice.injEq, Addr.mk.injEq] at hy2
            obtain ⟨⟨rfl, -⟩, -, -⟩ := hy2
            have hc2 := (HB.out.cell (p := ⟨grx, j, none⟩) hy3).trans hy4
            have hxb := HQ.out i j
            obtain ⟨x, hx⟩ : ∃ x, x = co2 xss i j := ⟨_, rfl⟩
            rw [← hx] at hc2 hxb
            have HX := Lib.hid hx
            clear hy4 hx
            have hj0 : (0 : Int) ≤ (j : Int) := by omega
            have hj1 : (j : Int) < (ri : Int) := by omega
            by_cases hx0 : x = 0
            · have hxz : (x == 0) = true := by simpa using hx0
              have hs := HR.out
              rw [tP_skip m n (co2 xss) (co2 yss) i j (by rw [← HX.out]; exact hx0)] at hs
              have HR' := Lib.hid hs
              clear hs hx0
              go_wp2
              go_roundw
              case rel => exact ⟨j + 1, by omega, by go_num, HO, HR', HP, HP2, HQR, HB⟩
              case measure => simp [intOf]; omega
            · have hxz : (x == 0) = false := by simpa using hx0
              clear hx0
              go_wp2
              clear hc2
              go_loopw [11] (fun s wr => ∃ k : Nat, i + j + k ≤ n ∧ s = .int .i64 k ∧ Hid (Bf wr bo (.int .i64 m) (.slice (some ⟨g, 0, none⟩) n c')) ∧ Hid (OwnP wr lo hi (.slice (some ⟨g, 0, none⟩) n c') (tab n (stP m n (co2 xss) (co2 yss) i j k 0))) ∧ Hid (Bf wr w.heap.size (.int .i64 m) (.slice (some ⟨gA, 0, none⟩) n cA)) ∧ Hid (Bf wr (w.heap.size + 1) (.int .i64 m) (.slice (some ⟨gB, 0, none⟩) n cB)) ∧ Hid (Bf wr (w.heap.size + 2) (.int .i64 0) (.slice none 0 0)) ∧ Hid (Below w.heap.size w wr)) (fun s _ => n + 1 - (intOf s).toNat)
              case atStart => exact ⟨0, by omega, rfl, HO, HR, HP, HP2, HQR, HB⟩
              case round =>
                clear HO HR HP HP2 HQR HB
                obtain ⟨k, hk, rfl, HO, HR, HP, HP2, HQR, HB⟩ := hrel
                have s1 := HP2.out.1.2.1
                have s2 := HP2.out.1.2.2
                by_cases hltk : i + j + k < n
                · obtain ⟨gy, gry, cry, e1, hw1, hw2, hw3, -, hw5⟩ := HV2.out.at2 (i := k) (j := 0) (by rw [HT2.out.1]; omega) (by rw [HT2.out.2 k (by omega)]; omega)
                  simp only [Option.some.injEq, Addr.mk.injEq] at e1
                  obtain ⟨rfl, -⟩ := e1
                  obtain ⟨rk, hrk⟩ : ∃ rk, rk = n - k := ⟨_, rfl⟩
                  rw [HT2.out.2 k (by omega), ← hrk] at hw2 hw5
                  obtain ⟨r, hr⟩ : ∃ r, i + j + k + r = n := ⟨n - (i + j + k), by omega⟩
                  have HRR := Lib.hid hr
                  have hr3 : i + j + k + r ≤ n ∧ n ≤ i + j + k + r ∧ r ≤ rk ∧ rk + k ≤ n ∧ n ≤ rk + k := by omega
                  clear hrk hr
                  have hc3 := (HB.out.cell (p := ⟨gB, k, none⟩) hw1).trans hw2
                  have hk0 : (0 : Int) ≤ (k : Int) := by omega
                  have hk1 : (k : Int) < (n : Int) := by omega
                  have hk2 : (i : Int) + (j : Int) + (k : Int) ≤ (n : Int) - 1 := by omega
                  have v1 : (n : Int) - 1 - (i : Int) - (j : Int) - (k : Int) + 1 = (r : Int) := by omega
                  have hw6 : (0 : Int) ≤ (r : Int) := by omega
                  have hw7 : (r : Int) ≤ (cry : Int) := by omega
                  go_wp2
                  clear v1 hc3 s1 s2
                  go_loopw [62] (fun s wr => ∃ l : Nat, l ≤ r ∧ s = .int .i64 l ∧ Hid (Bf wr bo (.int .i64 m) (.slice (some ⟨g, 0, none⟩) n c')) ∧ Hid (OwnP wr lo hi (.slice (some ⟨g, 0, none⟩) n c') (tab n (stP m n (co2 xss) (co2 yss) i j k l))) ∧ Hid (Bf wr w.heap.size (.int .i64 m) (.slice (some ⟨gA, 0, none⟩) n cA)) ∧ Hid (Bf wr (w.heap.size + 1) (.int .i64 m) (.slice (some ⟨gB, 0, none⟩) n cB)) ∧ Hid (Bf wr (w.heap.size + 2) (.int .i64 0) (.slice none 0 0)) ∧ Hid (Below w.heap.size w wr)) (fun s _ => r - (intOf s).toNat)
                  case atStart => exact ⟨0, Nat.zero_le _, rfl, HO, HR, HP, HP2, HQR, HB⟩
                  case round =>
                    clear HO HR HP HP2 HQR HB
                    obtain ⟨l, hl, rfl, HO, HR, HP, HP2, HQR, HB⟩ := hrel
                    have p1 := HP.out.1.2.1
                    have o2 := HO.out.1.2.2
                    have zO := HO.out.1.1
                    have zP := HP.out.1.1
                    by_cases hltl : l < r
                    · obtain ⟨gy2, gry2, cry2, e1, -, hu2, hu3, hu4, -⟩ := HV2.out.at2 (i := k) (j := l) (by rw [HT2.out.1]; omega) (by rw [HT2.out.2 k (by omega)]; omega)
                      simp only [Option.some.injEq, Addr.mk.injEq] at e1
                      obtain ⟨rfl, -⟩ := e1
                      rw [hw2] at hu2
                      simp only [Option.some.injEq, Value.slice.injEq, Addr.mk.injEq] at hu2
                      obtain ⟨⟨rfl, -⟩, -, -⟩ := hu2
                      have hc4 := (HB.out.cell (p := ⟨gry, l, none⟩) hu3).trans hu4
                      have hyb := HQ2.out k l
                      obtain ⟨gr, cr, hcr, hne, hgl, hgh, hgz, hd0, hf0, hset⟩ := HR.out.put (i := i + k) (j := j + l) (by omega)
                      rw [stP_at] at hd0
                      have hsb := stS_bd (show 0 < m by omega) n (co2 xss) (co2 yss) i j (i + k) (j + l)
                      have hst := tP_step' m n (co2 xss) (co2 yss) i j k l
                      rw [← HX.out] at hst
                      obtain ⟨y, hy⟩ : ∃ y, y = co2 yss k l := ⟨_, rfl⟩
                      rw [← hy] at hc4 hyb hst
                      have HST := Lib.hid hst
                      have HSET := Lib.hid hset
                      obtain ⟨q, hq⟩ : ∃ q, q = n - (i + k) := ⟨_, rfl⟩
                      rw [← hq] at hcr
                      have hq2 : q + (i + k) ≤ n ∧ n ≤ q + (i + k) := by omega
                      obtain ⟨s, hs⟩ : ∃ s, s = stS n (co2 xss) (co2 yss) i j (i + k) (j + l) % m := ⟨_, rfl⟩
                      rw [← hs] at hd0 hsb HST
                      clear hset hst hu4 hy hq hs
                      have hxy1 : 0 ≤ x * y % m := Int.emod_nonneg _ (by omega)
                      have hxy2 : x * y % m < m := Int.emod_lt_of_pos _ (by omega)
                      have hl0 : (0 : Int) ≤ (l : Int) := by omega
                      have hl1 : (l : Int) < (r : Int) := by omega
                      have v1 : IntKind.i64.wrap ((i : Int) + (k : Int)) = (i : Int) + (k : Int) := IntWalk.i64_in _ (by omega)
                      have v2 : IntKind.i64.wrap ((j : Int) + (l : Int)) = (j : Int) + (l : Int) := IntWalk.i64_in _ (by omega)
                      have v3 : IntKind.i64.wrap (s + x * y % m) = s + x * y % m := IntWalk.i64_in _ (by omega)
                      have v4 : (s + x * y % m).tmod m = (s + x * y % m) % m := Int.tmod_eq_emod_of_nonneg (by omega)
                      have v5 : (0 : Int) ≤ (i : Int) + (k : Int) := by omega
                      have v6 : (i : Int) + (k : Int) < (n : Int) := by omega
                      have v7 : ((i : Int) + (k : Int)).toNat = i + k := by omega
                      have v8 : (0 : Int) ≤ (j : Int) + (l : Int) := by omega
                      have v9 : (j : Int) + (l : Int) < (q : Int) := by omega
                      have v10 : ((j : Int) + (l : Int)).toNat = j + l := by omega
                      have v11 : (m == 0) = false := by simp; omega
                      have v12 : ¬ m = 0 := by omega
                      go_wp2
                      go_still_tail 32, (by kernel_rfl)
                      still_call ((mul_any m x y _ (by omega) (by omega) hxb.1 hxb.2 hyb.1 hyb.2).mono fun e w' h => ⟨h.1, h.2.symm⟩)
                      repeat still_step
                      refine wpStill_nil ?_
                      change wpList _ _ _ _ _ wr.drew
                      clear v1 v2 v3 v4 v5 v7 v8 v10
                      go_wp2
                      go_roundw
                      case rel =>
                        refine ⟨l + 1, by omega, by go_num, HO.out.setCell (by simp; omega) _, ?_, HP.out.setCell (by simp; omega) _, HP2.out.setCell (by simp; omega) _, HQR.out.setCell (by simp; omega) _, (below_drew HB.out).setCell (by simp; omega) _⟩
                        unfold Hid
                        rw [← HST.out]
                        exact HSET.out _
                      case measure => simp [intOf]; omega
                    · have hlr : l = r := by omega
                      have hs := HR.out
                      rw [hlr, tP_endl m n (co2 xss) (co2 yss) i j k r HRR.out] at hs
                      have HR' := Lib.hid hs
                      clear hs hlr
                      go_wp2
                      go_roundw
                      case rel => exact ⟨k + 1, by omega, by go_num, HO, HR', HP, HP2, HQR, HB⟩
                      case measure => simp [intOf]; omega
                · have hkn : i + j + k = n := by omega
                  have hs := HR.out
                  rw [tP_endk m n (co2 xss) (co2 yss) i j k hkn] at hs
                  have HR' := Lib.hid hs
                  have hd6 : decide ((i : Int) + (j : Int) + (k : Int) ≤ (n : Int) - 1) = false := by simp; omega
                  clear hs hkn
                  go_wp2
                  go_roundw
                  case rel => exact ⟨j + 1, by omega, by go_num, HO, HR', HP, HP2, HQR, HB⟩
                  case measure => simp [intOf]; omega
          · have hjr : j = ri := by omega
            have hs := HR.out
            rw [hjr, tP_endj m n (co2 xss) (co2 yss) i ri HRI.out] at hs
            have HR' := Lib.hid hs
            clear hs hjr
            go_wp2
            go_roundw
            case rel => exact ⟨i + 1, by omega, by go_num, HO, HR', HP, HP2, HQR, HB⟩
            case measure => simp [intOf]; omega
      · obtain rfl : i = n := by omega
        have hs := HR.out
        rw [tP_all, HZ.out] at hs
        have hd6 : decide ((i : Int) < (i : Int)) = false := by simp
        have o1 := HO.out.1.2.1
        have o2 := HO.out.1.2.2
        have q1 := HQR.out.1.2.1
        have q2 := HQR.out.1.2.2
        have q3 := HQR.out.2.1
        have q4 := HQR.out.2.2
        go_wp2
        refine bodyPost_ret (v := .agg #[.int .i64 m, .slice (some ⟨g, 0, none⟩) i c']) (by simp [results, Try.results66, go_sem, q1, q2]) rfl ⟨some ⟨g, 0, none⟩, c', by rw [HZL.out], ?_, ?_⟩
        · rw [HZL.out]
          have h9 := OwnP.mono (lo' := w.heap.size) (hs.hi_le.far2 (b := w.heap.size + 2) (x := .int .i64 m) (y := .slice (some ⟨g, 0, none⟩) i c') (.inl (by omega))) (by omega) (Nat.le_refl _)
          simpa [World.setCell] using h9
        · exact (HB.out.setCell (by simp; omega) _).setCell (by simp; omega) _

/-! ### MultiplicativeLaw -/
theorem sumN_single {f : Nat → Int} {n k : Nat} (hk : k < n) (h : ∀ j, j < n → j ≠ k → f j = 0) : sumN f n = f k := by
  induction n with
  | zero => omega
  | succ n ih =>
    simp only [sumN]
    by_cases hkn : k = n
    · subst hkn
      rw [sumN_congr (g := fun _ => 0) fun j hj => h j (by omega) (by omega), sumN_zero, Int.zero_add]
    · rw [ih (by omega) fun j hj hne => h j (by omega) hne, h n (by omega) (by omega), Int.add_zero]
theorem sumN_none {f : Nat → Int} {n : Nat} (h : ∀ j, j < n → f j = 0) : sumN f n = 0 := by
  rw [sumN_congr (g := fun _ => 0) h, sumN_zero]
/-- A product with a first factor that has one number alone. -/
theorem allS_single {n : Nat} {f g : Nat → Nat → Int} {p q a b : Nat} (hab : a + b < n) (hpq : p + q < n) (h : ∀ i j, i + j < n → ¬ (i = p ∧ j = q) → f i j = 0) : allS n f g n a b = if p ≤ a ∧ q ≤ b then f p q * g (a - p) (b - q) else 0 := by
  unfold allS
  rw [sumN_single (k := p) (by omega)]
  · unfold rowS
    rw [sumN_single (k := q) (by omega)]
    · rfl
    · intro j hj hne
      unfold fT
      split
      · rw [h p j (by omega) (by omega), Int.zero_mul]
      · rfl
  · intro i hi hne
    unfold rowS
    apply sumN_none
    intro j hj
    unfold fT
    split
    · rw [h i j (by omega) (by omega), Int.zero_mul]
    · rfl
theorem xy_prod (m : Int) (n : Nat) (hm : 2 ≤ m) (hn : 2 ≤ n) : tab n (tmF m n (co2 (tab n (axF (varL n) 0))) (co2 (tab n (axF (varL n) 1)))) = tab n fun i j => if i = 1 ∧ j = 1 then 1 else 0 := tab_congr fun a b hab => by
  unfold tmF
  rw [allS_single (p := 1) (q := 0) hab (by omega) fun i j hij hne => by rw [co2_tab _ hij, axF_var n 0 i j hij, if_pos rfl, if_neg hne]]
  rw [co2_tab _ (by omega), axF_var n 0 1 0 (by omega)]
  have e1 : (1 : Int) % m = 1 := Int.emod_eq_of_lt (by omega) (by omega)
  by_cases h1 : 1 ≤ a ∧ 0 ≤ b
  · rw [if_pos h1, co2_tab _ (by omega), axF_var n 1 _ _ (by omega)]
    by_cases h2 : a = 1
    · subst h2
      by_cases h3 : b = 1 <;> simp [h3, e1]
    · have h4 : ¬ a - 1 = 0 := by omega
      simp [h2, h4]
  · rw [if_neg h1]
    have h2 : ¬ a = 1 := by omega
    simp [h2]
def MultiplicativeLawR (m d c0 : Int) : (Int × List (List Int)) × Int := if stdB m d [c0] = false then ((0, []), 2) else ((m, tab (d + 1).toNat (mulF m c0)), 0)
theorem MultiplicativeLawR_len (m d c0 : Int) : cntP (MultiplicativeLawR m d c0).1.2 ≤ 200 := by
  unfold MultiplicativeLawR
  cases h : stdB m d [c0]
  · simp [cntP]
  · have := stdB_true h
    exact cntP_tab_100 _ (by omega)
theorem mul_join (m c0 : Int) (n : Nat) (hm : 2 ≤ m) : (tab n fun i j => (co2 (tab n fun i j => if (i = 1 ∧ j = 0) ∨ (i = 0 ∧ j = 1) then (1 : Int) else 0) i j + co2 (tab n fun i j => c0 % m * co2 (tab n fun i j => if i = 1 ∧ j = 1 then (1 : Int) else 0) i j % m) i j) % m) = tab n (mulF m c0) := tab_congr fun i j hij => by
  rw [co2_tab _ hij, co2_tab _ hij, co2_tab _ hij]
  have e1 : (1 : Int) % m = 1 := Int.emod_eq_of_lt (by omega) (by omega)
  unfold mulF
  by_cases h1 : i = 1
  · subst h1
    by_cases h2 : j = 1
    · subst h2; simp
    · by_cases h3 : j = 0 <;> simp [h2, h3, e1]
  · by_cases h4 : i = 0
    · subst h4
      by_cases h2 : j = 1 <;> simp [h2, e1]
    · simp [h1, h4]
theorem tmF_num2 {m : Int} (hm : 0 < m) (n : Nat) (f g : Nat → Nat → Int) : Num2 m (tab n (tmF m n f g)) := Num2.tab hm n _ fun i j => tmF_bd hm n f g i j
theorem mod_num2 {m : Int} (hm : 0 < m) (n : Nat) (f : Nat → Nat → Int) : Num2 m (tab n fun i j => f i j % m) := Num2.tab hm n _ fun i j => ⟨Int.emod_nonneg _ (by omega), Int.emod_lt_of_pos _ hm⟩

/-! ### Powers of a single term and the law of the tangent: the plain law -/
theorem allS_single2 {n : Nat} {f g : Nat → Nat → Int} {p q a b : Nat} (hab : a + b < n) (h : ∀ i j, i + j < n → ¬ (i = p ∧ j = q) → g i j = 0) : allS n f g n a b = if p ≤ a ∧ q ≤ b then f (a - p) (b - q) * g p q else 0 := by
  unfold allS
  by_cases h1 : p ≤ a ∧ q ≤ b
  · rw [if_pos h1, sumN_single (k := a - p) (by omega)]
    · unfold rowS
      rw [sumN_single (k := b - q) (by omega)]
      · unfold fT
        rw [if_pos (by omega), show a - (a - p) = p by omega, show b - (b - q) = q by omega]
      · intro j hj hne
        unfold fT
        split
        · rw [h _ _ (by omega) (by omega), Int.mul_zero]
        · rfl
    · intro i hi hne
      unfold rowS
      apply sumN_none
      intro j hj
      unfold fT
      split
      · rw [h _ _ (by omega) (by omega), Int.mul_zero]
      · rfl
  · rw [if_neg h1]
    apply sumN_none
    intro i hi
    unfold rowS
    apply sumN_none
    intro j hj
    unfold fT
    split
    · rw [h _ _ (by omega) (by omega), Int.mul_zero]
    · rfl
theorem sumN_add (f g : Nat → Int) (n : Nat) : sumN (fun i => f i + g i) n = sumN f n + sumN g n := by
  induction n with
  | zero => simp [sumN]
  | succ n ih => simp only [sumN]; rw [ih]; omega
theorem allS_add (n : Nat) (f f' g : Nat → Nat → Int) (I a b : Nat) : allS n (fun i j => f i j + f' i j) g I a b = allS n f g I a b + allS n f' g I a b := by
  unfold allS
  rw [← sumN_add]
  apply sumN_congr
  intro i _
  unfold rowS
  rw [← sumN_add]
  apply sumN_congr
  intro j _
  unfold fT
  split
  · rw [Int.add_mul]
  · rfl
theorem allS_congr {n : Nat} {f f' g g' : Nat → Nat → Int} {a b : Nat} (hab : a + b < n) (hf : ∀ i j, i + j < n → f i j = f' i j) (hg : ∀ i j, i + j < n → g i j = g' i j) : allS n f g n a b = allS n f' g' n a b := by
  unfold allS
  apply sumN_congr
  intro i hi
  unfold rowS
  apply sumN_congr
  intro j hj
  unfold fT
  split
  · rw [hf i j (by omega), hg _ _ (by omega)]
  · rfl
/-- The powers of a number. -/
def gp (m r : Int) : Nat → Int
  | 0 => 1 % m
  | k + 1 => gp m r k * r % m
theorem gp_bd {m : Int} (hm : 0 < m) (r : Int) (k : Nat) : 0 ≤ gp m r k ∧ gp m r k < m := by
  cases k <;> exact ⟨Int.emod_nonneg _ (by omega), Int.emod_lt_of_pos _ hm⟩
theorem gp_congr {m r s : Int} (h : r % m = s % m) (k : Nat) : gp m r k = gp m s k := by
  induction k with
  | zero => rfl
  | succ k ih => simp only [gp]; rw [ih, Int.mul_emod, h, ← Int.mul_emod]
def numF (m c : Int) (i j : Nat) : Int := if i = 0 ∧ j = 0 then c % m else 0
def sing (q : Nat) (r : Int) (i j : Nat) : Int := if i = q ∧ j = q then r else 0
/-- The sum of the powers up to k of r times the term at (q, q). -/
def geoF (m r : Int) (q k i j : Nat) : Int := if i = j ∧ i % q = 0 ∧ i / q ≤ k then gp m r (i / q) else 0
theorem geoF_bd {m : Int} (hm : 0 < m) (r : Int) (q k i j : Nat) : 0 ≤ geoF m r q k i j ∧ geoF m r q k i j < m := by
  unfold geoF
  split
  · exact gp_bd hm r _
  · omega
theorem geo_zero (m r : Int) (q n : Nat) : tab n (numF m 1) = tab n (geoF m r q 0) := tab_congr fun i j _ => by
  unfold numF geoF
  by_cases h : i = 0 ∧ j = 0
  · obtain ⟨rfl, rfl⟩ := h
    simp [gp]
  · rw [if_neg h, if_neg]
    rintro ⟨rfl, h1, h2⟩
    have := Nat.div_add_mod i q
    have h3 : i / q = 0 := Nat.le_zero.1 h2
    rw [h1, h3] at this
    simp at this
    omega
theorem geo_step (m r : Int) (q n k : Nat) (hq : 1 ≤ q) : (tab n fun i j => (co2 (tab n (tmF m n (co2 (tab n (geoF m r q k))) (co2 (tab n (sing q r))))) i j + co2 (tab n (numF m 1)) i j) % m) = tab n (geoF m r q (k + 1)) := tab_congr fun a b hab => by
  rw [co2_tab _ hab, co2_tab _ hab]
  unfold tmF
  rw [allS_single2 (p := q) (q := q) hab fun i j hij hne => by rw [co2_tab _ hij]; unfold sing; rw [if_neg hne]]
  by_cases h : q ≤ a ∧ q ≤ b
  · rw [if_pos h, co2_tab _ (by omega), co2_tab _ (by omega)]
    have e1 : sing q r q q = r := by simp [sing]
    have e2 : numF m 1 a b = 0 := by unfold numF; rw [if_neg (by omega)]
    obtain ⟨c, rfl⟩ : ∃ c, a = c + q := ⟨a - q, by omega⟩
    have e3 : (c + q) % q = c % q := Nat.add_mod_right _ _
    have e4 : (c + q) / q = c / q + 1 := Nat.add_div_right _ (by omega)
    rw [e1, e2, Int.add_zero, Int.emod_emod, Nat.add_sub_cancel]
    unfold geoF
    rw [e3, e4]
    by_cases h2 : c = b - q ∧ c % q = 0 ∧ c / q ≤ k
    · rw [if_pos h2, if_pos (by omega)]
      rfl
    · rw [if_neg h2, if_neg (by omega), Int.zero_mul, Int.zero_emod]
  · rw [if_neg h, Int.zero_emod, Int.zero_add]
    unfold numF geoF
    by_cases h2 : a = 0 ∧ b = 0
    · obtain ⟨rfl, rfl⟩ := h2
      simp [gp]
    · rw [if_neg h2, Int.zero_emod, if_neg]
      rintro ⟨rfl, h3, h4⟩
      have h5 : a % q = a := Nat.mod_eq_of_lt (by omega)
      omega
/-- Coefficient (i, j) of the law of the tangent. -/
def tanF (m r : Int) (i j : Nat) : Int := if i = j + 1 then gp m r j else if j = i + 1 then gp m r i else 0
theorem tan_join (m r : Int) (n : Nat) (hm : 0 < m) : tab n (tmF m n (co2 (tab n fun i j => if (i = 1 ∧ j = 0) ∨ (i = 0 ∧ j = 1) then (1 : Int) else 0)) (co2 (tab n (geoF m r 1 (n - 1))))) = tab n (tanF m r) := tab_congr fun a b hab => by
  unfold tmF
  rw [allS_congr (f' := fun i j => (if i = 1 ∧ j = 0 then (1 : Int) else 0) + (if i = 0 ∧ j = 1 then (1 : Int) else 0)) (g' := geoF m r 1 (n - 1)) hab (fun i j hij => by
    rw [co2_tab _ hij]
    by_cases h1 : i = 1 ∧ j = 0
    · obtain ⟨rfl, rfl⟩ := h1; simp
    · by_cases h2 : i = 0 ∧ j = 1
      · obtain ⟨rfl, rfl⟩ := h2; simp
      · rw [if_neg (by omega), if_neg h1, if_neg h2]; rfl) (fun i j hij => co2_tab _ hij)]
  rw [allS_add]
  have g1 : ∀ i j, i + j < n → geoF m r 1 (n - 1) i j = if i = j then gp m r i else 0 := by
    intro i j hij
    unfold geoF
    rw [Nat.div_one, Nat.mod_one]
    by_cases h : i = j
    · rw [if_pos ⟨h, rfl, by omega⟩, if_pos h]
    · rw [if_neg (by simp [h]), if_neg h]
  unfold tanF
  by_cases hn : 2 ≤ n
  · rw [allS_single (p := 1) (q := 0) hab (by omega) fun i j _ hne => if_neg hne, allS_single (p := 0) (q := 1) hab (by omega) fun i j _ hne => if_neg hne]
    have u1 : (if (1 : Nat) = 1 ∧ (0 : Nat) = 0 then (1 : Int) else 0) = 1 := by simp
    have u2 : (if (0 : Nat) = 0 ∧ (1 : Nat) = 1 then (1 : Int) else 0) = 1 := by simp
    rw [u1, u2, Int.one_mul, Int.one_mul]
    by_cases h1 : a = b + 1
    · subst h1
      rw [if_pos (by omega), g1 _ _ (by omega), if_pos (by omega), if_pos rfl]
      have e : (if 0 ≤ b + 1 ∧ 1 ≤ b then geoF m r 1 (n - 1) (b + 1 - 0) (b - 1) else 0) = 0 := by
        split
        · rw [g1 _ _ (by omega), if_neg (by omega)]
        · rfl
      rw [e, Int.add_zero, Nat.add_sub_cancel]
      exact Int.emod_eq_of_lt (gp_bd hm r b).1 (gp_bd hm r b).2
    · rw [if_neg h1]
      have e : (if 1 ≤ a ∧ 0 ≤ b then geoF m r 1 (n - 1) (a - 1) (b - 0) else 0) = 0 := by
        split
        · rw [g1 _ _ (by omega), if_neg (by omega)]
        · rfl
      rw [e, Int.zero_add]
      by_cases h2 : b = a + 1
      · subst h2
        rw [if_pos (by omega), if_pos rfl, g1 _ _ (by omega), if_pos (by omega)]
        exact Int.emod_eq_of_lt (gp_bd hm r _).1 (gp_bd hm r _).2
      · rw [if_neg h2]
        have e2 : (if 0 ≤ a ∧ 1 ≤ b then geoF m r 1 (n - 1) (a - 0) (b - 1) else 0) = 0 := by
          split
          · rw [g1 _ _ (by omega), if_neg (by omega)]
          · rfl
        rw [e2, Int.zero_emod]
  · have ha : a = 0 := by omega
    have hb : b = 0 := by omega
    subst ha hb
    have e : ∀ f : Nat → Nat → Int, f 0 0 = 0 → allS n f (geoF m r 1 (n - 1)) n 0 0 = 0 := by
      intro f hf
      unfold allS
      apply sumN_none
      intro i hi
      unfold rowS
      apply sumN_none
      intro j hj
      unfold fT
      have hi0 : i = 0 := by omega
      have hj0 : j = 0 := by omega
      subst hi0 hj0
      rw [hf, Int.zero_mul]
      split <;> rfl
    rw [e _ (by simp), e _ (by simp)]
    simp
/-- The law of the tangent as the reference fills it in. -/
def tanTo (m r : Int) (k i j : Nat) : Int := if i = j + 1 ∧ j < k then gp m r j else if j = i + 1 ∧ i < k then gp m r i else 0
theorem tanTo_zero (m r : Int) (n : Nat) : (tab n fun _ _ => 0) = tab n (tanTo m r 0) := tab_congr fun i j _ => by simp [tanTo]
theorem tanTo_step (m r : Int) (n k : Nat) : tab n (upd2 (upd2 (tanTo m r k) (k + 1) k (gp m r k)) k (k + 1) (gp m r k)) = tab n (tanTo m r (k + 1)) := tab_congr fun i j _ => by
  unfold upd2 tanTo
  by_cases h1 : i = k ∧ j = k + 1
  · obtain ⟨rfl, rfl⟩ := h1
    rw [if_pos ⟨rfl, rfl⟩, if_neg (by omega), if_pos (by omega)]
  · rw [if_neg h1]
    by_cases h2 : i = k + 1 ∧ j = k
    · obtain ⟨rfl, rfl⟩ := h2
      rw [if_pos ⟨rfl, rfl⟩, if_pos (by omega)]
    · rw [if_neg h2]
      by_cases h3 : i = j + 1 ∧ j < k
      · rw [if_pos h3, if_pos (by omega)]
      · have h3' : ¬ (i = j + 1 ∧ j < k + 1) := by omega
        rw [if_neg h3, if_neg h3']
        by_cases h4 : j = i + 1 ∧ i < k
        · have h4' : j = i + 1 ∧ i < k + 1 := by omega
          rw [if_pos h4, if_pos h4']
        · have h4' : ¬ (j = i + 1 ∧ i < k + 1) := by omega
          rw [if_neg h4, if_neg h4']
theorem tanTo_all (m r : Int) (n k : Nat) (h : n < 2 * k + 2) : tab n (tanTo m r k) = tab n (tanF m r) := tab_congr fun i j hij => by
  unfold tanTo tanF
  by_cases h3 : i = j + 1
  · rw [if_pos ⟨h3, by omega⟩, if_pos h3]
  · rw [if_neg (by omega), if_neg h3]
    by_cases h4 : j = i + 1
    · rw [if_pos ⟨h4, by omega⟩, if_pos h4]
    · rw [if_neg (by omega), if_neg h4]
theorem tan_rest (m c : Int) (n : Nat) (hm : 2 ≤ m) (XY : List (List Int)) (hXY : XY = tab n fun i j => if i = 1 ∧ j = 1 then 1 else 0) (q : Nat → Nat → Int) (hq : ∀ i j, i + j < n → q i j = (co2 (tab n (numF m 1)) i j + co2 (tab n fun i j => c % m * co2 XY i j % m) i j) % m) :
    (tab n fun i j => (co2 (tab n (numF m 1)) i j - co2 (tab n q) i j) % m) = tab n (sing 1 ((m - c) % m)) := tab_congr fun i j hij => by
  subst hXY
  rw [co2_tab _ hij, co2_tab _ hij, hq i j hij, co2_tab _ hij, co2_tab _ hij, co2_tab _ hij]
  unfold numF sing
  have e1 : (1 : Int) % m = 1 := Int.emod_eq_of_lt (by omega) (by omega)
  by_cases h1 : i = 1 ∧ j = 1
  · obtain ⟨rfl, rfl⟩ := h1
    rw [if_neg (by omega), if_pos ⟨rfl, rfl⟩, if_pos ⟨rfl, rfl⟩, Int.mul_one, Int.zero_add, Int.emod_emod, Int.emod_emod, Int.zero_sub]
    rw [Int.emod_def c m, show -(c - m * (c / m)) = (m - c) + m * (c / m - 1) by rw [Int.mul_sub]; omega, Int.add_mul_emod_self_left]
  · rw [if_neg h1, if_neg h1, Int.mul_zero, Int.zero_emod, Int.add_zero]
    by_cases h0 : i = 0 ∧ j = 0
    · rw [if_pos h0, e1, e1, Int.sub_self, Int.zero_emod]
    · rw [if_neg h0, Int.zero_emod, Int.sub_self, Int.zero_emod]

/-! ### The law of Euler: the plain law -/
/-- What is wanted at n + 1 of the root, behind q products. -/
def wtF (m st : Int) (L : List Int) (n q : Nat) : Int := (st - sumN (fun i => co L (i + 1) * co L (n - i)) q) % m
theorem wtF_bd {m : Int} (hm : 0 < m) (st : Int) (L : List Int) (n q : Nat) : 0 ≤ wtF m st L n q ∧ wtF m st L n q < m := ⟨Int.emod_nonneg _ (by omega), Int.emod_lt_of_pos _ hm⟩
theorem wt_zero {m st : Int} (h : 0 ≤ st ∧ st < m) (L : List Int) (n : Nat) : wtF m st L n 0 = st := by
  unfold wtF
  simp only [sumN, Int.sub_zero]
  exact Int.emod_eq_of_lt h.1 h.2
theorem wt_step (m st : Int) (L : List Int) (n q : Nat) : (wtF m st L n q + (m - co L (q + 1)) * co L (n - q)) % m = wtF m st L n (q + 1) := by
  unfold wtF
  simp only [sumN]
  rw [Int.emod_add_emod, Int.sub_mul]
  generalize sumN (fun i => co L (i + 1) * co L (n - i)) q = S
  rw [show st - S + (m * co L (n - q) - co L (q + 1) * co L (n - q)) = st - (S + co L (q + 1) * co L (n - q)) + m * co L (n - q) by omega, Int.add_mul_emod_self_left]
theorem sumN_shift' (f : Nat → Int) (n : Nat) : sumN f (n + 1) = f 0 + sumN (fun i => f (i + 1)) n := by
  induction n with
  | zero => simp [sumN]
  | succ n ih =>
    have e : sumN f (n + 1 + 1) = sumN f (n + 1) + f (n + 1) := rfl
    have e2 : sumN (fun i => f (i + 1)) (n + 1) = sumN (fun i => f (i + 1)) n + f (n + 1) := rfl
    rw [e, e2, ih]
    omega
theorem co_out {xs : List Int} {j : Nat} (h : xs.length ≤ j) : co xs j = 0 := by
  unfold co
  rw [List.getD_eq_getElem?_getD, List.getElem?_eq_none h]
  rfl
theorem sub_emod_right (a b m : Int) : (a - b % m) % m = (a - b) % m := by
  rw [Int.emod_def b m, show a - (b - m * (b / m)) = a - b + m * (b / m) by omega, Int.add_mul_emod_self_left]
theorem wt_impl (m st : Int) (L : List Int) (n d : Nat) (hL : L.length = n + 1) (hd : n + 1 < d) : (st - cv m (co (lst d (co L))) (co (lst d (co L))) (n + 1)) % m = wtF m st L n n := by
  have hc : ∀ j, j < d → co (lst d (co L)) j = co L j := fun j hj => getD_lst _ _ _ hj
  unfold cv cvTo wtF
  rw [sub_emod_right, sumN_shift']
  simp only [Nat.sub_zero, sumN]
  rw [hc (n + 1) (by omega), co_out (xs := L) (j := n + 1) (by omega), Int.mul_zero, Int.zero_mul, Int.zero_add, Int.add_zero]
  rw [sumN_congr]
  intro i hi
  rw [hc _ (by omega), hc _ (by omega), show n + 1 - (i + 1) = n - i by omega]
/-- The series under the root. -/
def sqF (m a e : Int) (k : Nat) : Int := if k = 0 then 1 else if k = 2 then (-2 * a) % m else if k = 4 then e else 0
theorem sqF_bd {m a e : Int} (hm : 2 ≤ m) (he : 0 ≤ e ∧ e < m) (k : Nat) : 0 ≤ sqF m a e k ∧ sqF m a e k < m := by
  have h1 := Int.emod_nonneg (-2 * a) (show m ≠ 0 by omega)
  have h2 := Int.emod_lt_of_pos (-2 * a) (show 0 < m by omega)
  unfold sqF
  split
  · omega
  · split
    · omega
    · split <;> omega
theorem sq_two (m a : Int) : (2 * m - 2 * a) % m = (-2 * a) % m := by
  rw [show 2 * m - 2 * a = -2 * a + m * 2 by omega, Int.add_mul_emod_self_left]
def rootTo (m h a e : Int) : Nat → List Int
  | 0 => [1]
  | n + 1 => rootTo m h a e n ++ [wtF m (sqF m a e (n + 1)) (rootTo m h a e n) n n * h % m]
theorem length_rootTo (m h a e : Int) (n : Nat) : (rootTo m h a e n).length = n + 1 := by
  induction n with
  | zero => rfl
  | succ n ih => simp [rootTo, ih]
theorem rootTo_num {m : Int} (hm : 2 ≤ m) (h a e : Int) (n : Nat) : NumL m (rootTo m h a e n) := by
  induction n with
  | zero =>
    intro j
    cases j with
    | zero => simp only [rootTo, List.getD_cons_zero]; omega
    | succ j => simp only [rootTo, List.getD_cons_succ, List.getD_nil]; omega
  | succ n ih =>
    intro j
    simp only [rootTo, List.getD_eq_getElem?_getD, List.getElem?_append]
    split
    · have := ih j
      rw [List.getD_eq_getElem?_getD] at this
      exact this
    · have h1 := Int.emod_nonneg (wtF m (sqF m a e (n + 1)) (rootTo m h a e n) n n * h) (show m ≠ 0 by omega)
      have h2 := Int.emod_lt_of_pos (wtF m (sqF m a e (n + 1)) (rootTo m h a e n) n n * h) (show 0 < m by omega)
      generalize wtF m (sqF m a e (n + 1)) (rootTo m h a e n) n n * h % m = y at *
      rcases hk : j - (rootTo m h a e n).length with _ | j
      · simp; omega
      · simp; omega
theorem root_next (m h a e : Int) (n d : Nat) : (lst d (co (rootTo m h a e n))).set (n + 1) (wtF m (sqF m a e (n + 1)) (rootTo m h a e n) n n * h % m) = lst d (co (rootTo m h a e (n + 1))) := by
  rw [set_lst]
  apply lst_congr
  intro j _
  have hl := length_rootTo m h a e n
  unfold upd co
  simp only [rootTo, List.getD_eq_getElem?_getD, List.getElem?_append]
  by_cases h : j = n + 1
  · subst h
    simp [hl]
  · rw [if_neg h]
    split
    · rfl
    · rw [List.getElem?_eq_none (by omega), List.getElem?_eq_none (by simp; omega)]
theorem root_all (m h a e : Int) (n : Nat) : lst (n + 1) (co (rootTo m h a e n)) = rootTo m h a e n := by
  have := lst_self (rootTo m h a e n)
  rwa [length_rootTo] at this
theorem root_start (m h a e : Int) (d : Nat) : (List.replicate d (0 : Int)).set 0 1 = lst d (co (rootTo m h a e 0)) := by
  rw [replicate_lst, set_lst]
  apply lst_congr
  intro j _
  cases j with
  | zero => simp [upd, co, rootTo]
  | succ j => simp [upd, co, rootTo]
def topF (m : Int) (R : List Int) (i j : Nat) : Int := ((if i = 1 then co R j else 0) + if j = 1 then co R i else 0) % m
theorem x_root (m : Int) (n : Nat) (R : List Int) : tab n (tmF m n (co2 (tab n (axF (varL n) 0))) (co2 (tab n (axF R 1)))) = tab n fun i j => if i = 1 then co R j % m else 0 := tab_congr fun a b hab => by
  unfold tmF
  by_cases hn : 2 ≤ n
  · rw [allS_single (p := 1) (q := 0) hab (by omega) fun i j hij hne => by rw [co2_tab _ hij, axF_var n 0 i j hij, if_pos rfl, if_neg hne]]
    rw [co2_tab _ (by omega), axF_var n 0 1 0 (by omega)]
    by_cases h1 : 1 ≤ a ∧ 0 ≤ b
    · rw [if_pos h1, co2_tab _ (by omega)]
      unfold axF
      by_cases h2 : a = 1
      · subst h2; simp
      · have h4 : ¬ a - 1 = 0 := by omega
        simp [h2, h4]
    · rw [if_neg h1]
      have h2 : ¬ a = 1 := by omega
      simp [h2]
  · have ha : a = 0 := by omega
    have hb : b = 0 := by omega
    subst ha hb
    have h0 : co2 (tab n (axF (varL n) 0)) 0 0 = 0 := by rw [co2_tab _ hab, axF_var n 0 0 0 hab]; simp
    have e : allS n (co2 (tab n (axF (varL n) 0))) (co2 (tab n (axF R 1))) n 0 0 = 0 := by
      unfold allS
      apply sumN_none
      intro i hi
      unfold rowS
      apply sumN_none
      intro j hj
      have hi0 : i = 0 := by omega
      have hj0 : j = 0 := by omega
      subst hi0 hj0
      unfold fT
      rw [h0, Int.zero_mul]
      split <;> rfl
    rw [e]
    simp
theorem y_root (m : Int) (n : Nat) (R : List Int) : tab n (tmF m n (co2 (tab n (axF (varL n) 1))) (co2 (tab n (axF R 0)))) = tab n fun i j => if j = 1 then co R i % m else 0 := tab_congr fun a b hab => by
  unfold tmF
  by_cases hn : 2 ≤ n
  · rw [allS_single (p := 0) (q := 1) hab (by omega) fun i j hij hne => by rw [co2_tab _ hij, axF_var n 1 i j hij, if_neg (by decide), if_neg hne]]
    rw [co2_tab _ (by omega), axF_var n 1 0 1 (by omega)]
    by_cases h1 : 0 ≤ a ∧ 1 ≤ b
    · rw [if_pos h1, co2_tab _ (by omega)]
      unfold axF
      by_cases h2 : b = 1
      · subst h2; simp
      · have h4 : ¬ b - 1 = 0 := by omega
        simp [h2, h4]
    · rw [if_neg h1]
      have h2 : ¬ b = 1 := by omega
      simp [h2]
  · have ha : a = 0 := by omega
    have hb : b = 0 := by omega
    subst ha hb
    have h0 : co2 (tab n (axF (varL n) 1)) 0 0 = 0 := by rw [co2_tab _ hab, axF_var n 1 0 0 hab]; simp
    have e : allS n (co2 (tab n (axF (varL n) 1))) (co2 (tab n (axF R 0))) n 0 0 = 0 := by
      unfold allS
      apply sumN_none
      intro i hi
      unfold rowS
      apply sumN_none
      intro j hj
      have hi0 : i = 0 := by omega
      have hj0 : j = 0 := by omega
      subst hi0 hj0
      unfold fT
      rw [h0, Int.zero_mul]
      split <;> rfl
    rw [e]
    simp
theorem top_join (m : Int) (n : Nat) (R : List Int) : (tab n fun i j => (co2 (tab n fun i j => if i = 1 then co R j % m else 0) i j + co2 (tab n fun i j => if j = 1 then co R i % m else 0) i j) % m) = tab n (topF m R) := tab_congr fun i j hij => by
  rw [co2_tab _ hij, co2_tab _ hij]
  unfold topF
  by_cases h1 : i = 1
  · by_cases h2 : j = 1
    · rw [if_pos h1, if_pos h1, if_pos h2, if_pos h2, ← Int.add_emod]
    · rw [if_pos h1, if_pos h1, if_neg h2, if_neg h2, Int.add_zero, Int.add_zero, Int.emod_emod]
  · by_cases h2 : j = 1
    · rw [if_neg h1, if_neg h1, if_pos h2, if_pos h2, Int.zero_add, Int.zero_add, Int.emod_emod]
    · rw [if_neg h1, if_neg h1, if_neg h2, if_neg h2]
/-- The reference's top: row 1, then column 1. -/
def topA (R : List Int) (k i j : Nat) : Int := if i = 1 ∧ j < k then co R j else 0
def topB (m : Int) (R : List Int) (k i j : Nat) : Int := if j = 1 ∧ i < k then topF m R i j else if i = 1 then co R j else 0
theorem topA_zero (R : List Int) (n : Nat) : (tab n fun _ _ => 0) = tab n (topA R 0) := tab_congr fun i j _ => by simp [topA]
theorem topA_step (R : List Int) (n k : Nat) : tab n (upd2 (topA R k) 1 k (co R k)) = tab n (topA R (k + 1)) := tab_congr fun i j _ => by
  unfold upd2 topA
  by_cases h : i = 1 ∧ j = k
  · obtain ⟨rfl, rfl⟩ := h
    rw [if_pos ⟨rfl, rfl⟩, if_pos ⟨rfl, by omega⟩]
  · rw [if_neg h]
    by_cases h2 : i = 1 ∧ j < k
    · have h3 : i = 1 ∧ j < k + 1 := by omega
      rw [if_pos h2, if_pos h3]
    · have h3 : ¬ (i = 1 ∧ j < k + 1) := by omega
      rw [if_neg h2, if_neg h3]
theorem topA_all (m : Int) (R : List Int) (n : Nat) : tab n (topA R (n - 1)) = tab n (topB m R 0) := tab_congr fun i j hij => by
  unfold topA topB
  rw [if_neg (show ¬ (j = 1 ∧ i < 0) by omega)]
  by_cases h : i = 1
  · rw [if_pos ⟨h, by omega⟩, if_pos h]
  · rw [if_neg (by omega), if_neg h]
theorem topB_at (m : Int) (R : List Int) (k : Nat) : topB m R k k 1 = if k = 1 then co R 1 else 0 := by
  unfold topB
  rw [if_neg (by omega)]
theorem topB_step (m : Int) (R : List Int) (n k : Nat) : tab n (upd2 (topB m R k) k 1 ((topB m R k k 1 + co R k) % m)) = tab n (topB m R (k + 1)) := tab_congr fun i j _ => by
  rw [topB_at]
  unfold upd2
  by_cases h : i = k ∧ j = 1
  · obtain ⟨rfl, rfl⟩ := h
    rw [if_pos ⟨rfl, rfl⟩]
    have h3 : (1 : Nat) = 1 ∧ i < i + 1 := ⟨rfl, by omega⟩
    unfold topB topF
    rw [if_pos h3]
    simp
  · rw [if_neg h]
    unfold topB
    by_cases h2 : j = 1 ∧ i < k
    · have h3 : j = 1 ∧ i < k + 1 := by omega
      rw [if_pos h2, if_pos h3]
    · have h3 : ¬ (j = 1 ∧ i < k + 1) := by omega
      rw [if_neg h2, if_neg h3]
theorem topB_all (m : Int) (R : List Int) (n : Nat) (hR : NumL m R) : tab n (topB m R (n - 1)) = tab n (topF m R) := tab_congr fun i j hij => by
  unfold topB
  by_cases h : j = 1
  · rw [if_pos ⟨h, by omega⟩]
  · rw [if_neg (by omega)]
    unfold topF
    rw [if_neg h, Int.add_zero]
    split
    · exact (Int.emod_eq_of_lt (hR j).1 (hR j).2).symm
    · simp
/-- The reference's factor. -/
def facTo (m e : Int) (k i j : Nat) : Int := if i = j ∧ i % 2 = 0 ∧ i / 2 < k then gp m e (i / 2) else 0
theorem facTo_zero (m e : Int) (n : Nat) : (tab n fun _ _ => 0) = tab n (facTo m e 0) := tab_congr fun i j _ => by simp [facTo]
theorem facTo_step (m e : Int) (n k : Nat) : tab n (upd2 (facTo m e k) (2 * k) (2 * k) (gp m e k)) = tab n (facTo m e (k + 1)) := tab_congr fun i j _ => by
  unfold upd2 facTo
  by_cases h : i = 2 * k ∧ j = 2 * k
  · obtain ⟨rfl, rfl⟩ := h
    rw [if_pos ⟨rfl, rfl⟩, if_pos ⟨rfl, by omega, by omega⟩, show 2 * k / 2 = k by omega]
  · rw [if_neg h]
    by_cases h2 : i = j ∧ i % 2 = 0 ∧ i / 2 < k
    · have h3 : i = j ∧ i % 2 = 0 ∧ i / 2 < k + 1 := by omega
      rw [if_pos h2, if_pos h3]
    · have h3 : ¬ (i = j ∧ i % 2 = 0 ∧ i / 2 < k + 1) := by omega
      rw [if_neg h2, if_neg h3]
theorem facTo_all (m e : Int) (n k : Nat) (h : n ≤ 4 * k) : tab n (facTo m e k) = tab n (geoF m e 2 (n - 1)) := tab_congr fun i j hij => by
  unfold facTo geoF
  by_cases h2 : i = j ∧ i % 2 = 0 ∧ i / 2 < k
  · have h3 : i = j ∧ i % 2 = 0 ∧ i / 2 ≤ n - 1 := by omega
    rw [if_pos h2, if_pos h3]
  · have h3 : ¬ (i = j ∧ i % 2 = 0 ∧ i / 2 ≤ n - 1) := by omega
    rw [if_neg h2, if_neg h3]
theorem xy_sq (m : Int) (n : Nat) (hm : 2 ≤ m) : tab n (tmF m n (co2 (tab n fun i j => if i = 1 ∧ j = 1 then (1 : Int) else 0)) (co2 (tab n fun i j => if i = 1 ∧ j = 1 then (1 : Int) else 0))) = tab n fun i j => if i = 2 ∧ j = 2 then 1 else 0 := tab_congr fun a b hab => by
  unfold tmF
  rw [allS_single2 (p := 1) (q := 1) hab fun i j hij hne => by rw [co2_tab _ hij, if_neg hne]]
  have e1 : (1 : Int) % m = 1 := Int.emod_eq_of_lt (by omega) (by omega)
  by_cases h1 : 1 ≤ a ∧ 1 ≤ b
  · rw [if_pos h1, co2_tab _ (by omega), co2_tab _ (by omega)]
    by_cases h2 : a = 2 ∧ b = 2
    · obtain ⟨rfl, rfl⟩ := h2
      simp [e1]
    · have h3 : ¬ (a - 1 = 1 ∧ b - 1 = 1) := by omega
      rw [if_neg h3, if_neg h2, Int.zero_mul, Int.zero_emod]
  · rw [if_neg h1, if_neg (by omega), Int.zero_emod]
theorem eul_rest (m e : Int) (n : Nat) (hm : 2 ≤ m) : (tab n fun i j => (co2 (tab n (numF m 1)) i j - co2 (tab n fun i j => (co2 (tab n (numF m 1)) i j - co2 (tab n fun i j => e % m * co2 (tab n fun i j => if i = 2 ∧ j = 2 then (1 : Int) else 0) i j % m) i j) % m) i j) % m) = tab n (sing 2 (e % m)) := tab_congr fun i j hij => by
  rw [co2_tab _ hij, co2_tab _ hij, co2_tab _ hij, co2_tab _ hij, co2_tab _ hij]
  unfold numF sing
  have e1 : (1 : Int) % m = 1 := Int.emod_eq_of_lt (by omega) (by omega)
  rw [sub_emod_right]
  by_cases h1 : i = 2 ∧ j = 2
  · obtain ⟨rfl, rfl⟩ := h1
    simp
  · rw [if_neg h1, if_neg h1, Int.mul_zero, Int.zero_emod, Int.sub_zero, Int.sub_self, Int.zero_emod]

theorem num_upd (m c0 : Int) (n : Nat) : tab n (upd2 (fun _ _ => 0) 0 0 (c0 % m)) = tab n (numF m c0) := tab_congr fun i j _ => by
  unfold upd2 numF
  rfl
set_option maxRecDepth 8000 in
set_option maxHeartbeats 4000000 in
theorem number_any (w : World) (m : Int) (v : Value) (xss zss : List (List Int)) (c0 : Int) (n : Nat) (lo0 hi0 : Nat) (hv : OwnP w lo0 hi0 v xss) (hx : xss.length = n) (hm : 2 ≤ m) (hm' : m ≤ 3000000000) (hn1 : 1 ≤ n) (hn : n ≤ 1000) (hz : tab n (numF m c0) = zss) :
    Calls Try.prog 67 #[.agg #[.int .i64 m, v], .int .i64 c0] w (NewPl w m zss) := by
  obtain ⟨A, cp, e0, -, -⟩ := hv.form
  rw [hx] at e0
  subst e0
  have HZ := Lib.hid hz
  have HZL : Hid (zss.length = n) := by unfold Hid; rw [← hz, length_tab]
  clear hz hv hx
  go_enter Try.func67, Try.ntmps67
  go_upto_region 1 with fail
  go_cut [5] from 6 to 11 (fun s wx => ∃ (bo : Nat) (A' : Option Addr) (c' : Nat), s = .pointer (some ⟨bo, 0, none⟩) ∧ w.heap.size + 2 ≤ bo ∧ bo < wx.heap.size ∧ Hid (Bf wx bo (.int .i64 m) (.slice A' n c')) ∧ Hid (OwnPx wx (w.heap.size + 2) bo (.slice A' n c') (tab n fun _ _ => 0)) ∧ Hid (Bf wx w.heap.size (.int .i64 m) (.slice A n cp)) ∧ Hid (Bf wx (w.heap.size + 1) (.int .i64 0) (.slice none 0 0)) ∧ Hid (Below w.heap.size w wx))
  case first =>
    go_region_held3 (fun w' => w'.cell? ⟨w.heap.size, 0, none⟩ = some (.int .i64 m) ∧ w'.cell? ⟨w.heap.size, 1, none⟩ = some (.slice A n cp))
      (first | exact ⟨p2a, p2b⟩ | exact ⟨p1a, p1b⟩ | go_keep | (refine (fun (h : Bf _ w.heap.size (.int .i64 m) (.slice A n cp)) => ⟨h.1.2.1, h.1.2.2⟩) ((Bf.alloc1 w _ _ 24).keep ?_); (repeat (first | assumption | exact Below.refl _ _ | (refine Below.alloc ?_ ?_ _; rotate_left; (focus (first | exact Nat.le_refl _ | omega | (simp; done) | (simp; omega)))) | (refine Below.setCell ?_ ?_ _; rotate_left; (focus (first | exact Nat.le_refl _ | omega | (simp; done) | (simp; omega)))) | refine below_drew ?_ | refine below_drewN ?_ _ | (refine Below.trans ?_ (Below.mono hb2 ?_); rotate_left; (focus (first | exact Nat.le_refl _ | omega | (simp; done) | (simp; omega)))) | (refine Below.trans ?_ (Below.mono hb1 ?_); rotate_left; (focus (first | exact Nat.le_refl _ | omega | (simp; done) | (simp; omega))))))))
      (first | (go_at_call 132; refine (pDegree_any m A n cp _ (by omega)).mono ?_; rintro e w1 ⟨rfl, hb1⟩; have P1 : Bf w1 w.heap.size (.int .i64 m) (.slice A n cp) := ((Bf.alloc1 w _ _ 24).keep (by (repeat (first | assumption | exact Below.refl _ _ | (refine Below.alloc ?_ ?_ _; rotate_left; (focus (first | exact Nat.le_refl _ | omega | (simp; done) | (simp; omega)))) | (refine Below.setCell ?_ ?_ _; rotate_left; (focus (first | exact Nat.le_refl _ | omega | (simp; done) | (simp; omega)))) | refine below_drew ?_ | refine below_drewN ?_ _ | (refine Below.trans ?_ (Below.mono hb1 ?_); rotate_left; (focus (first | exact Nat.le_refl _ | omega | (simp; done) | (simp; omega)))))))); have p1a := P1.1.2.1; have p1b := P1.1.2.2; obtain ⟨hc1, hf1⟩ := bcell hb1; have z1 := hb1.size; (try simp at z1); have z1p : w.heap.size < w1.heap.size := (by omega); (first | (have y1 : w.heap.size + 2 < w1.heap.size := (by omega)) | skip)) | (go_at_call 131; refine (emptyPlane_any _ m _ n (by omega) (by omega)).mono ?_; rintro e w2 ⟨A9, c9, rfl, hr2, hb2⟩; rw [length_tab] at hr2 ⊢; have P2 : Bf w2 w.heap.size (.int .i64 m) (.slice A n cp) := ((Bf.alloc1 w _ _ 24).keep (by (repeat (first | assumption | exact Below.refl _ _ | (refine Below.alloc ?_ ?_ _; rotate_left; (focus (first | exact Nat.le_refl _ | omega | (simp; done) | (simp; omega)))) | (refine Below.setCell ?_ ?_ _; rotate_left; (focus (first | exact Nat.le_refl _ | omega | (simp; done) | (simp; omega)))) | refine below_drew ?_ | refine below_drewN ?_ _ | (refine Below.trans ?_ (Below.mono hb2 ?_); rotate_left; (focus (first | exact Nat.le_refl _ | omega | (simp; done) | (simp; omega)))) | (refine Below.trans ?_ (Below.mono hb1 ?_); rotate_left; (focus (first | exact Nat.le_refl _ | omega | (simp; done) | (simp; omega)))))))); have p2a := P2.1.2.1; have p2b := P2.1.2.2; obtain ⟨hc2, hf2⟩ := bcell hb2; have z2 := hb2.size; (try simp at z2); have z2p : w.heap.size < w2.heap.size := (by omega)))
    all_goals
      go_wp2_with fail
      go_meet
      have KK : Hid (Below w.heap.size w w2) := by (repeat (first | assumption | exact Below.refl _ _ | (refine Below.alloc ?_ ?_ _; rotate_left; (focus (first | exact Nat.le_refl _ | omega | (simp; done) | (simp; omega)))) | (refine Below.setCell ?_ ?_ _; rotate_left; (focus (first | exact Nat.le_refl _ | omega | (simp; done) | (simp; omega)))) | refine below_drew ?_ | refine below_drewN ?_ _ | (refine Below.trans ?_ (Below.mono hb2 ?_); rotate_left; (focus (first | exact Nat.le_refl _ | omega | (simp; done) | (simp; omega)))) | (refine Below.trans ?_ (Below.mono hb1 ?_); rotate_left; (focus (first | exact Nat.le_refl _ | omega | (simp; done) | (simp; omega))))))
      refine ⟨_, A9, c9, rfl, ?_, ?_, ?_, ?_, ?_, ?_, ?_⟩
      · first | omega | (simp; done) | (simp; omega)
      · first | omega | (simp; done) | (simp; omega) | (simp [World.setCell]; omega)
      · unfold Hid
        first | exact Bf.alloc1 w2 _ _ _ | exact ((Bf.alloc1 w1 _ _ _).keep hb2).store2 | exact (((Bf.q3 (w := w)).keep (below_undrew hb1)).keep hb2).store2
      · unfold Hid
        first | (refine OwnPx.of (hr2.alloc _) ?_ ?_ ?_ <;> (first | omega | (simp; done) | (simp; omega) | (right; omega) | (right; simp; done) | (right; simp; omega) | (left; omega) | (left; simp; done) | (left; simp; omega) | (simp [World.setCell]; done) | (simp [World.setCell]; omega)); done) | (refine OwnPx.of ((hr2.far ?_ _).far ?_ _) ?_ ?_ ?_ <;> (first | omega | (simp; done) | (simp; omega) | (right; omega) | (right; simp; done) | (right; simp; omega) | (left; omega) | (left; simp; done) | (left; simp; omega) | (simp [World.setCell]; done) | (simp [World.setCell]; omega)); done)
      · exact (Bf.q1 (w := w) (t := 24)).keep (by (repeat (first | assumption | exact Below.refl _ _ | (refine Below.alloc ?_ ?_ _; rotate_left; (focus (first | exact Nat.le_refl _ | omega | (simp; done) | (simp; omega)))) | (refine Below.setCell ?_ ?_ _; rotate_left; (focus (first | exact Nat.le_refl _ | omega | (simp; done) | (simp; omega)))) | refine below_drew ?_ | refine below_drewN ?_ _ | (refine Below.trans ?_ (Below.mono hb2 ?_); rotate_left; (focus (first | exact Nat.le_refl _ | omega | (simp; done) | (simp; omega)))) | (refine Below.trans ?_ (Below.mono hb1 ?_); rotate_left; (focus (first | exact Nat.le_refl _ | omega | (simp; done) | (simp; omega)))))))
      · exact (Bf.q2 (w := w) (t := 24) (t' := 24)).keep (by (repeat (first | assumption | exact Below.refl _ _ | (refine Below.alloc ?_ ?_ _; rotate_left; (focus (first | exact Nat.le_refl _ | omega | (simp; done) | (simp; omega)))) | (refine Below.setCell ?_ ?_ _; rotate_left; (focus (first | exact Nat.le_refl _ | omega | (simp; done) | (simp; omega)))) | refine below_drew ?_ | refine below_drewN ?_ _ | (refine Below.trans ?_ (Below.mono hb2 ?_); rotate_left; (focus (first | exact Nat.le_refl _ | omega | (simp; done) | (simp; omega)))) | (refine Below.trans ?_ (Below.mono hb1 ?_); rotate_left; (focus (first | exact Nat.le_refl _ | omega | (simp; done) | (simp; omega)))))))
      · (repeat (first | assumption | exact Below.refl _ _ | (refine Below.alloc ?_ ?_ _; rotate_left; (focus (first | exact Nat.le_refl _ | omega | (simp; done) | (simp; omega)))) | (refine Below.setCell ?_ ?_ _; rotate_left; (focus (first | exact Nat.le_refl _ | omega | (simp; done) | (simp; omega)))) | refine below_drew ?_ | refine below_drewN ?_ _ | (refine Below.trans ?_ (Below.mono hb2 ?_); rotate_left; (focus (first | exact Nat.le_refl _ | omega | (simp; done) | (simp; omega)))) | (refine Below.trans ?_ (Below.mono hb1 ?_); rotate_left; (focus (first | exact Nat.le_refl _ | omega | (simp; done) | (simp; omega))))))
  case rest =>
    obtain ⟨bo, A', c', rfl, hbo1, hbo2, HO, HT, HP, HQ, HB⟩ := hcut
    obtain ⟨lo, hi, hlo, hbo3, hhi, ht⟩ := HT.out
    obtain ⟨g, c2, -, -, e0, hg1, hg2, hg3, -⟩ := ht.row (k := 0) (by rw [length_tab]; omega)
    rw [length_tab] at e0
    simp only [Value.slice.injEq] at e0
    obtain ⟨rfl, -, rfl⟩ := e0
    have HT0 := Lib.hid ht
    clear ht HT
    have p1 := HP.out.1.2.1
    have o1 := HO.out.1.2.1
    have o2 := HO.out.1.2.2
    have q1 := HQ.out.1.2.1
    have q2 := HQ.out.1.2.2
    have q3 := HQ.out.2.1
    have q4 := HQ.out.2.2
    obtain ⟨gr, cr, hcr, hne, hgl, hgh, hgz, hd0, hf0, hset⟩ := HT0.out.put (i := 0) (j := 0) (by omega)
    have HSET := Lib.hid hset
    obtain ⟨r, hr⟩ : ∃ r, r = n - 0 := ⟨_, rfl⟩
    rw [← hr] at hcr
    have hr1 : 0 < r := by omega
    have hr2 : (0 : Int) < (r : Int) := by omega
    have hr3 : ¬ r = 0 := by omega
    have hn3 : 0 < n := by omega
    have hn4 : (0 : Int) < (n : Int) := by omega
    have hn5 : ¬ n = 0 := by omega
    clear hset hr
    have ne1 : (⟨gr, 0, none⟩ : Addr) ≠ ⟨w.heap.size, 0, none⟩ := by first | (simp; done) | (simp; omega)
    have ne2 : (⟨gr, 0, none⟩ : Addr) ≠ ⟨bo, 1, none⟩ := by first | (simp; done) | (simp; omega)
    have ne3 : (⟨gr, 0, none⟩ : Addr) ≠ ⟨g, 0, none⟩ := by first | (simp; done) | (simp; omega)
    go_wp2
    go_region_held3 (fun w' => w'.cell? ⟨w.heap.size, 0, none⟩ = some (.int .i64 m) ∧ w'.cell? ⟨bo, 1, none⟩ = some (.slice (some ⟨g, 0, none⟩) n c') ∧ w'.cell? ⟨g, 0, none⟩ = some (.slice (some ⟨gr, 0, none⟩) r cr))
      ((first | exact ⟨p1, o2, hcr⟩ | exact ⟨(World.cell?_setCell_other _ _ _ _ ne1).trans p1, (World.cell?_setCell_other _ _ _ _ ne2).trans o2, (World.cell?_setCell_other _ _ _ _ ne3).trans hcr⟩ | go_keep))
      (first | (go_at_call 85; refine (mod_any c0 m _ (by omega) (by omega)).mono ?_; rintro e w1 ⟨rfl, k1, rfl⟩))
    all_goals
      have hR := HSET.out (c0 % m)
      rw [num_upd, HZ.out] at hR
      have hQ := HQ.out.setCell (p := ⟨gr, 0, none⟩) (by simp; omega) (.int .i64 (c0 % m))
      have hK := HB.out.setCell (p := ⟨gr, 0, none⟩) (by simp; omega) (.int .i64 (c0 % m))
      go_wp2
      refine bodyPost_ret (v := .agg #[.int .i64 m, .slice (some ⟨g, 0, none⟩) n c']) (by simp [results, Try.results67, go_sem, q1, q2]) rfl ⟨some ⟨g, 0, none⟩, c', by rw [HZL.out], ?_, ?_⟩
      · rw [HZL.out]
        exact OwnP.mono (lo' := w.heap.size) (hR.hi_le.far2 (b := w.heap.size + 1) (x := .int .i64 m) (y := .slice (some ⟨g, 0, none⟩) n c') (.inl (by omega))) (by omega) (by first | (simp; done) | (simp; omega))
      · (repeat (first | exact HB.out | refine below_drewN ?_ _ | refine below_drew ?_ | (refine Below.setCell ?_ ?_ _; rotate_left; focus (first | omega | (simp; done) | (simp; omega)))))

/-! ### The product of two tables (spec) -/
set_option maxRecDepth 16000 in
set_option maxHeartbeats 8000000 in
theorem l03Times_any (w : World) (m : Int) (v v2 : Value) (xss yss zss : List (List Int)) (n : Nat) (lo0 hi0 lo2 hi2 : Nat) (hv : OwnP w lo0 hi0 v xss) (ht : Tri n xss) (hq : Num2 m xss) (hv2 : OwnP w lo2 hi2 v2 yss) (ht2 : Tri n yss) (hq2 : Num2 m yss) (hm : 2 ≤ m) (hm' : m ≤ 3000000000) (hn1 : 1 ≤ n) (hn : n ≤ 1000) (hz : tab n (tmF m n (co2 xss) (co2 yss)) = zss) :
    Calls Try.prog 146 #[.int .i64 m, v, v2] w (NewP w zss) := by
  obtain ⟨gA, cA, rfl, hcA1, hcA2, hgA, hA⟩ := hv.source n ht.1 hn1
  obtain ⟨gB, cB, rfl, hcB1, hcB2, hgB, hB⟩ := hv2.source n ht2.1 hn1
  have HZ := Lib.hid hz
  have HT := Lib.hid ht
  have HT2 := Lib.hid ht2
  have HQ := Lib.hid hq
  have HQ2 := Lib.hid hq2
  have HV := Lib.hid hv
  have HV2 := Lib.hid hv2
  have HL : Hid (zss.length = n) := by unfold Hid; rw [← hz, length_tab]
  clear hz ht ht2 hq hq2 hv hv2 hA hB
  go_enter Try.func146, Try.ntmps146
  go_wp2_with (go_at_call 125; refine (l03Zero_any _ _ n (by omega) (by omega)).mono ?_; rintro e w1 ⟨A1, c1, rfl, o1, hb1⟩; rw [length_tab] at o1 ⊢; obtain ⟨g, _, _, -, e0, hg1, hg2, hg3, -⟩ := o1.row (k := 0) (by rw [length_tab]; omega); rw [length_tab] at e0; simp only [Value.slice.injEq] at e0; obtain ⟨rfl, -, rfl⟩ := e0)
  rw [tP_zero m n (co2 xss) (co2 yss)] at o1
  obtain ⟨lo, hlo⟩ : ∃ lo, lo = w.heap.size := ⟨_, rfl⟩
  obtain ⟨hi, hhi⟩ : ∃ hi, hi = w1.heap.size := ⟨_, rfl⟩
  have HR0 : Hid (OwnP w1 lo hi (.slice (some ⟨g, 0, none⟩) n c1) (tab n (stP m n (co2 xss) (co2 yss) 0 0 0 0))) := by rw [hlo, hhi]; exact o1
  have HB0 := Lib.hid hb1
  have hlo2 : w.heap.size ≤ lo := by omega
  clear o1 hb1 hhi
  go_loopw [9] (fun s wr => ∃ i : Nat, i ≤ n ∧ s = .int .i64 i ∧ Hid (OwnP wr lo hi (.slice (some ⟨g, 0, none⟩) n c1) (tab n (stP m n (co2 xss) (co2 yss) i 0 0 0))) ∧ Hid (Below w.heap.size w wr)) (fun s _ => n - (intOf s).toNat)
  case atStart => exact ⟨0, Nat.zero_le _, rfl, HR0, HB0⟩
  case round =>
    clear HR0 HB0
    obtain ⟨i, hin, rfl, HR, HB⟩ := hrel
    by_cases hlti : i < n
    · obtain ⟨gx, grx, crx, e1, hx1, hx2, hx3, -, hx5⟩ := HV.out.at2 (i := i) (j := 0) (by rw [HT.out.1]; exact hlti) (by rw [HT.out.2 i hlti]; omega)
      simp only [Option.some.injEq, Addr.mk.injEq] at e1
      obtain ⟨rfl, -⟩ := e1
      obtain ⟨ri, hri⟩ : ∃ ri, ri = n - i := ⟨_, rfl⟩
      rw [HT.out.2 i hlti, ← hri] at hx2 hx5
      have hri2 : i + ri = n := by omega
      have HRI := Lib.hid hri2
      have hri3 : i + ri ≤ n ∧ n ≤ i + ri := by omega
      clear hri hri2
      have hi0 : (0 : Int) ≤ (i : Int) := by omega
      have hi1 : (i : Int) < (n : Int) := by omega
      go_wp2
      go_loopw [10] (fun s wr => ∃ j : Nat, j ≤ ri ∧ s = .int .i64 j ∧ Hid (OwnP wr lo hi (.slice (some ⟨g, 0, none⟩) n c1) (tab n (stP m n (co2 xss) (co2 yss) i j 0 0))) ∧ Hid (Below w.heap.size w wr)) (fun s _ => ri - (intOf s).toNat)
      case atStart => exact ⟨0, Nat.zero_le _, rfl, HR, HB⟩
      case round =>
        clear HR HB
        obtain ⟨j, hj, rfl, HR, HB⟩ := hrel
        by_cases hltj : j < ri
        · obtain ⟨gx2, grx2, crx2, e1, -, hy2, hy3, hy4, -⟩ := HV.out.at2 (i := i) (j := j) (by rw [HT.out.1]; exact hlti) (by rw [HT.out.2 i hlti]; omega)
          simp only [Option.some.injEq, Addr.mk.injEq] at e1
          obtain ⟨rfl, -⟩ := e1
          rw [hx2] at hy2
          simp only [Option.some.injEq, Value.slice.injEq, Addr.mk.injEq] at hy2
          obtain ⟨⟨rfl, -⟩, -, -⟩ := hy2
          have hc1 := (HB.out.cell (p := ⟨gA, i, none⟩) hx1).trans hx2
          have hc2 := (HB.out.cell (p := ⟨grx, j, none⟩) hy3).trans hy4
          have hxb := HQ.out i j
          obtain ⟨x, hx⟩ : ∃ x, x = co2 xss i j := ⟨_, rfl⟩
          rw [← hx] at hc2 hxb hy4
          have HX := Lib.hid hx
          clear hx
          have hj0 : (0 : Int) ≤ (j : Int) := by omega
          have hj1 : (j : Int) < (ri : Int) := by omega
          have hij : (i : Int) + (j : Int) < (n : Int) := by omega
          by_cases hx0 : x = 0
          · have hxz : (x == 0) = true := by simpa using hx0
            have hs := HR.out
            rw [tP_skip m n (co2 xss) (co2 yss) i j (by rw [← HX.out]; exact hx0)] at hs
            have HR' := Lib.hid hs
            clear hs hx0
            go_wp2
            go_roundw
            case rel => exact ⟨j + 1, by omega, by go_num, HR', HB⟩
            case measure => simp [intOf]; omega
          · have hxz : (x == 0) = false := by simpa using hx0
            clear hx0
            go_wp2
            clear hc2 hc1
            go_loopw [11] (fun s wr => ∃ k : Nat, i + j + k ≤ n ∧ s = .int .i64 k ∧ Hid (OwnP wr lo hi (.slice (some ⟨g, 0, none⟩) n c1) (tab n (stP m n (co2 xss) (co2 yss) i j k 0))) ∧ Hid (Below w.heap.size w wr)) (fun s _ => n + 1 - (intOf s).toNat)
            case atStart => exact ⟨0, by omega, rfl, HR, HB⟩
            case round =>
              clear HR HB
              obtain ⟨k, hk, rfl, HR, HB⟩ := hrel
              by_cases hltk : i + j + k < n
              · obtain ⟨gy, gry, cry, e1, hw1, hw2, hw3, -, hw5⟩ := HV2.out.at2 (i := k) (j := 0) (by rw [HT2.out.1]; omega) (by rw [HT2.out.2 k (by omega)]; omega)
                simp only [Option.some.injEq, Addr.mk.injEq] at e1
                obtain ⟨rfl, -⟩ := e1
                obtain ⟨rk, hrk⟩ : ∃ rk, rk = n - k := ⟨_, rfl⟩
                rw [HT2.out.2 k (by omega), ← hrk] at hw2 hw5
                obtain ⟨r, hr⟩ : ∃ r, i + j + k + r = n := ⟨n - (i + j + k), by omega⟩
                have HRR := Lib.hid hr
                have hr3 : i + j + k + r ≤ n ∧ n ≤ i + j + k + r ∧ r ≤ rk ∧ rk + k ≤ n ∧ n ≤ rk + k := by omega
                clear hrk hr
                have hc3 := (HB.out.cell (p := ⟨gB, k, none⟩) hw1).trans hw2
                obtain ⟨gr, cr, hcr, hne, hgl, hgh, hgz, -, -, -⟩ := HR.out.put (i := i + k) (j := j) (by omega)
                obtain ⟨q, hq⟩ : ∃ q, q = n - (i + k) := ⟨_, rfl⟩
                rw [← hq] at hcr
                have hq2 : q + (i + k) ≤ n ∧ n ≤ q + (i + k) := by omega
                clear hq
                have hk0 : (0 : Int) ≤ (k : Int) := by omega
                have hk1 : (k : Int) < (n : Int) := by omega
                have hk2 : (i : Int) + (j : Int) + (k : Int) < (n : Int) := by omega
                have v1 : IntKind.i64.wrap ((i : Int) + (k : Int)) = (i : Int) + (k : Int) := IntWalk.i64_in _ (by omega)
                have v5 : (0 : Int) ≤ (i : Int) + (k : Int) := by omega
                have v6 : (i : Int) + (k : Int) < (n : Int) := by omega
                have v7 : ((i : Int) + (k : Int)).toNat = i + k := by omega
                go_wp2
                go_quiet (fail)
                have HCR : Hid (wr.cell? ⟨g, i + k, none⟩ = some (.slice (some ⟨gr, 0, none⟩) q cr)) := hcr
                clear v1 hc3 hcr
                go_wp2
                go_loopw [14] (fun s wr => ∃ l : Nat, l ≤ r ∧ s = .int .i64 l ∧ Hid (wr.cell? ⟨g, i + k, none⟩ = some (.slice (some ⟨gr, 0, none⟩) q cr)) ∧ Hid (OwnP wr lo hi (.slice (some ⟨g, 0, none⟩) n c1) (tab n (stP m n (co2 xss) (co2 yss) i j k l))) ∧ Hid (Below w.heap.size w wr)) (fun s _ => r - (intOf s).toNat)
                case atStart => exact ⟨0, Nat.zero_le _, rfl, HCR, HR, below_drewN HB.out _⟩
                case round =>
                  clear HR HB HCR
                  obtain ⟨l, hl, rfl, HCR, HR, HB⟩ := hrel
                  by_cases hltl : l < r
                  · obtain ⟨gy2, gry2, cry2, e1, -, hu2, hu3, hu4, -⟩ := HV2.out.at2 (i := k) (j := l) (by rw [HT2.out.1]; omega) (by rw [HT2.out.2 k (by omega)]; omega)
                    simp only [Option.some.injEq, Addr.mk.injEq] at e1
                    obtain ⟨rfl, -⟩ := e1
                    rw [hw2] at hu2
                    simp only [Option.some.injEq, Value.slice.injEq, Addr.mk.injEq] at hu2
                    obtain ⟨⟨rfl, -⟩, -, -⟩ := hu2
                    have hc1 := (HB.out.cell (p := ⟨gA, i, none⟩) hx1).trans hx2
                    have hc2 := (HB.out.cell (p := ⟨grx, j, none⟩) hy3).trans hy4
                    have hc4 := (HB.out.cell (p := ⟨gry, l, none⟩) hu3).trans hu4
                    have hyb := HQ2.out k l
                    obtain ⟨gr2, cr2, hcr2, hne2, hgl2, hgh2, hgz2, hd0, hf0, hset⟩ := HR.out.put (i := i + k) (j := j + l) (by omega)
                    rw [HCR.out] at hcr2
                    simp only [Option.some.injEq, Value.slice.injEq, Addr.mk.injEq] at hcr2
                    obtain ⟨⟨rfl, -⟩, -, -⟩ := hcr2
                    rw [stP_at] at hd0
                    have hsb := stS_bd (show 0 < m by omega) n (co2 xss) (co2 yss) i j (i + k) (j + l)
                    have hst := tP_step' m n (co2 xss) (co2 yss) i j k l
                    rw [← HX.out] at hst
                    obtain ⟨y, hy⟩ : ∃ y, y = co2 yss k l := ⟨_, rfl⟩
                    rw [← hy] at hc4 hyb hst
                    have HST := Lib.hid hst
                    have HSET := Lib.hid hset
                    obtain ⟨s, hs⟩ : ∃ s, s = stS n (co2 xss) (co2 yss) i j (i + k) (j + l) % m := ⟨_, rfl⟩
                    rw [← hs] at hd0 hsb HST
                    clear hset hst hu4 hy hs
                    have hxy := prod_bd hxb.1 hxb.2 hyb.1 hyb.2 hm'
                    have hl0 : (0 : Int) ≤ (l : Int) := by omega
                    have hl1 : (l : Int) < (rk : Int) := by omega
                    have hl2 : (i : Int) + (j : Int) + (k : Int) + (l : Int) < (n : Int) := by omega
                    have v2 : IntKind.i64.wrap ((j : Int) + (l : Int)) = (j : Int) + (l : Int) := IntWalk.i64_in _ (by omega)
                    have v3 : IntKind.i64.wrap (s + x * y) = s + x * y := IntWalk.i64_in _ (by omega)
                    have v3' : IntKind.i64.wrap (x * y) = x * y := IntWalk.i64_in _ (by omega)
                    have v4 : (s + x * y).tmod m = (s + x * y) % m := Int.tmod_eq_emod_of_nonneg (by omega)
                    have v8 : (0 : Int) ≤ (j : Int) + (l : Int) := by omega
                    have v9 : (j : Int) + (l : Int) < (q : Int) := by omega
                    have v10 : ((j : Int) + (l : Int)).toNat = j + l := by omega
                    have v11 : (m == 0) = false := by simp; omega
                    have v12 : ¬ m = 0 := by omega
                    go_wp2
                    go_still_tail 26, (by kernel_rfl)
                    change wpList _ _ _ _ _ wr.drew
                    clear v2 v3 v3' v4
                    go_wp2
                    go_roundw
                    case rel =>
                      refine ⟨l + 1, by omega, by go_num, ?_, ?_, (below_drew HB.out).setCell (by simp; omega) _⟩
                      · unfold Hid
                        exact (World.cell?_setCell_other _ _ _ _ (by first | (simp; done) | (simp; omega))).trans HCR.out
                      · unfold Hid
                        rw [← HST.out]
                        exact HSET.out _
                    case measure => simp [intOf]; omega
                  · have hlr : l = r := by omega
                    have hs := HR.out
                    rw [hlr, tP_endl m n (co2 xss) (co2 yss) i j k r HRR.out] at hs
                    have HR' := Lib.hid hs
                    have hd6 : decide ((i : Int) + (j : Int) + (k : Int) + (l : Int) < (n : Int)) = false := by simp; omega
                    clear hs hlr
                    go_wp2
                    go_roundw
                    case rel => exact ⟨k + 1, by omega, by go_num, HR', HB⟩
                    case measure => simp [intOf]; omega
              · have hkn : i + j + k = n := by omega
                have hs := HR.out
                rw [tP_endk m n (co2 xss) (co2 yss) i j k hkn] at hs
                have HR' := Lib.hid hs
                have hd6 : decide ((i : Int) + (j : Int) + (k : Int) < (n : Int)) = false := by simp; omega
                clear hs hkn
                go_wp2
                go_roundw
                case rel => exact ⟨j + 1, by omega, by go_num, HR', HB⟩
                case measure => simp [intOf]; omega
        · have hjr : j = ri := by omega
          have hs := HR.out
          rw [hjr, tP_endj m n (co2 xss) (co2 yss) i ri HRI.out] at hs
          have HR' := Lib.hid hs
          have hd6 : decide ((i : Int) + (j : Int) < (n : Int)) = false := by simp; omega
          clear hs hjr
          go_wp2
          go_roundw
          case rel => exact ⟨i + 1, by omega, by go_num, HR', HB⟩
          case measure => simp [intOf]; omega
    · obtain rfl : i = n := by omega
      have hs := HR.out
      rw [tP_all, HZ.out] at hs
      have hd6 : decide ((i : Int) < (i : Int)) = false := by simp
      go_wp2
      go_ret
      exact ⟨some ⟨g, 0, none⟩, c1, by rw [HL.out]; rfl, by rw [HL.out]; exact hs.top (by omega), HB.out⟩

/-! ### Horner's rule over planes: the plain law (for the axioms of a law) -/
theorem sumN_mul (c : Int) (f : Nat → Int) (n : Nat) : sumN (fun i => c * f i) n = c * sumN f n := by
  induction n with
  | zero => simp [sumN]
  | succ n ih => simp only [sumN]; rw [ih, Int.mul_add]
theorem allS_smul (n : Nat) (c : Int) (f g : Nat → Nat → Int) (I a b : Nat) : allS n (fun i j => c * f i j) g I a b = c * allS n f g I a b := by
  unfold allS
  rw [← sumN_mul]
  apply sumN_congr
  intro i _
  unfold rowS
  rw [← sumN_mul]
  apply sumN_congr
  intro j _
  unfold fT
  split
  · rw [Int.mul_assoc]
  · rw [Int.mul_zero]
theorem sumN_dvd {f : Nat → Int} {m : Int} {n : Nat} (h : ∀ i, i < n → m ∣ f i) : m ∣ sumN f n := by
  induction n with
  | zero => exact Int.dvd_zero m
  | succ n ih => exact Int.dvd_add (ih fun i hi => h i (by omega)) (h n (by omega))
theorem sumN_sub (f g : Nat → Int) (n : Nat) : sumN (fun i => f i - g i) n = sumN f n - sumN g n := by
  induction n with
  | zero => simp [sumN]
  | succ n ih => simp only [sumN]; rw [ih]; omega
/-- A product of a first factor that is congruent. -/
theorem tmF_modL {m : Int} {n : Nat} {f f' g : Nat → Nat → Int} {a b : Nat} (hab : a + b < n) (h : ∀ i j, i + j < n → f i j % m = f' i j % m) : tmF m n f g a b = tmF m n f' g a b := by
  unfold tmF
  apply Int.emod_emod_of_dvd _ (Int.dvd_refl m) |>.symm.trans
  rw [Int.emod_emod]
  apply Int.emod_eq_emod_iff_emod_sub_eq_zero.2
  apply Int.emod_eq_zero_of_dvd
  unfold allS
  rw [← sumN_sub]
  apply sumN_dvd
  intro i hi
  unfold rowS
  rw [← sumN_sub]
  apply sumN_dvd
  intro j hj
  unfold fT
  split
  · rw [← Int.sub_mul]
    exact Int.dvd_mul_of_dvd_left (Int.dvd_of_emod_eq_zero (Int.emod_eq_emod_iff_emod_sub_eq_zero.1 (h i j (by omega))))
  · simp
theorem allS_sum (n : Nat) (c : Nat → Int) (P : Nat → Nat → Nat → Int) (g : Nat → Nat → Int) (s a b : Nat) : allS n (fun i j => sumN (fun q => c q * P q i j) s) g n a b = sumN (fun q => c q * allS n (P q) g n a b) s := by
  induction s with
  | zero =>
    simp only [sumN]
    unfold allS
    apply sumN_none
    intro i _
    unfold rowS
    apply sumN_none
    intro j _
    unfold fT
    split
    · rw [Int.zero_mul]
    · rfl
  | succ s ih =>
    simp only [sumN]
    rw [allS_add, allS_smul, ih]
/-- The powers of a plane, one after the other. -/
def pwP (m : Int) (n : Nat) (F : Nat → Nat → Int) : Nat → Nat → Nat → Int
  | 0 => numF m 1
  | k + 1 => tmF m n (pwP m n F k) F
/-- Horner's rule: s steps from index t - 1 downwards. -/
def hrP (m : Int) (n : Nat) (c : Nat → Int) (F : Nat → Nat → Int) (t : Nat) : Nat → Nat → Nat → Int
  | 0 => fun _ _ => 0
  | s + 1 => fun i j => if i = 0 ∧ j = 0 then (tmF m n (hrP m n c F t s) F 0 0 + c (t - 1 - s)) % m else tmF m n (hrP m n c F t s) F i j
theorem hrP_eq (m : Int) (n : Nat) (hm : 2 ≤ m) (c : Nat → Int) (F : Nat → Nat → Int) (t : Nat) : ∀ s, s ≤ t → ∀ i j, i + j < n → hrP m n c F t s i j = sumN (fun q => c (t - s + q) * pwP m n F q i j) s % m := by
  intro s
  induction s with
  | zero => intro _ i j _; simp [hrP, sumN]
  | succ s ih =>
    intro hs i j hij
    have e0 : ∀ i j, i + j < n → tmF m n (hrP m n c F t s) F i j = sumN (fun q => c (t - s + q) * pwP m n F (q + 1) i j) s % m := by
      intro i j hij
      rw [tmF_modL (f' := fun i j => sumN (fun q => c (t - s + q) * pwP m n F q i j) s) hij (fun i j hij => by rw [ih (by omega) i j hij, Int.emod_emod])]
      unfold tmF
      rw [allS_sum]
      apply Int.emod_eq_emod_iff_emod_sub_eq_zero.2
      apply Int.emod_eq_zero_of_dvd
      rw [← sumN_sub]
      apply sumN_dvd
      intro q _
      rw [← Int.mul_sub]
      apply Int.dvd_mul_of_dvd_right
      simp only [pwP, tmF]
      exact Int.dvd_self_sub_emod
    have e1 : sumN (fun q => c (t - (s + 1) + q) * pwP m n F q i j) (s + 1) = c (t - (s + 1)) * numF m 1 i j + sumN (fun q => c (t - s + q) * pwP m n F (q + 1) i j) s := by
      rw [sumN_shift']
      have e2 : sumN (fun q => c (t - (s + 1) + (q + 1)) * pwP m n F (q + 1) i j) s = sumN (fun q => c (t - s + q) * pwP m n F (q + 1) i j) s := by
        apply sumN_congr
        intro q _
        rw [show t - (s + 1) + (q + 1) = t - s + q by omega]
      rw [e2]
      rfl
    have h1 : (1 : Int) % m = 1 := Int.emod_eq_of_lt (by omega) (by omega)
    rw [e1]
    simp only [hrP]
    unfold numF
    by_cases h : i = 0 ∧ j = 0
    · obtain ⟨rfl, rfl⟩ := h
      rw [if_pos ⟨rfl, rfl⟩, e0 0 0 hij, if_pos ⟨rfl, rfl⟩, h1, Int.mul_one, Int.emod_add_emod, show t - 1 - s = t - (s + 1) by omega, Int.add_comm]
    · rw [if_neg h, e0 i j hij, if_neg h, Int.mul_zero, Int.zero_add]

/-! ### The third axiom: the program's differences and the reference's two tables -/
def defS (m : Int) (n : Nat) (F : Nat → Nat → Int) (c : Nat) (a b : Nat) (k : Nat) : Int := sumN (fun i => F i c * pwP m n F i a b % m) k
def defT (m : Int) (n : Nat) (F : Nat → Nat → Int) (a : Nat) (b c : Nat) (k : Nat) : Int := sumN (fun j => F a j * pwP m n F j b c % m) k
theorem sumN_mod_eq (m : Int) (f : Nat → Int) (n : Nat) : sumN (fun i => f i % m) n % m = sumN f n % m := by
  apply Int.emod_eq_emod_iff_emod_sub_eq_zero.2
  apply Int.emod_eq_zero_of_dvd
  rw [← sumN_sub]
  apply sumN_dvd
  intro i _
  have : m ∣ f i - f i % m := Int.dvd_self_sub_emod
  have h := Int.dvd_neg.2 this
  rwa [Int.neg_sub] at h
theorem def_iff {m : Int} {n : Nat} (hm : 2 ≤ m) (F : Nat → Nat → Int) {a b c : Nat} (h : a + b + c < n) :
    (defS m n F c a b (n - c) - defT m n F a b c (n - a)) % m = 0 ↔ hrP m n (fun i => F i c) F (n - c) (n - c) a b = hrP m n (fun j => F a j) F (n - a) (n - a) b c := by
  rw [hrP_eq m n hm _ F (n - c) (n - c) (Nat.le_refl _) a b (by omega), hrP_eq m n hm _ F (n - a) (n - a) (Nat.le_refl _) b c (by omega)]
  simp only [Nat.sub_self, Nat.zero_add]
  unfold defS defT
  rw [← Int.emod_eq_emod_iff_emod_sub_eq_zero, sumN_mod_eq, sumN_mod_eq]
/-- The axioms, as one test. -/
def lawB (m : Int) (n : Nat) (F : Nat → Nat → Int) : Bool :=
  ((List.range n).all fun i => F i 0 == if i = 1 then 1 else 0) && ((List.range n).all fun i => (List.range (n - i)).all fun j => decide (j ≤ i) || F i j == F j i) &&
  ((List.range n).all fun a => (List.range (n - a)).all fun b => (List.range (n - a - b)).all fun c => hrP m n (fun i => F i c) F (n - c) (n - c) a b == hrP m n (fun j => F a j) F (n - a) (n - a) b c)

end Go.Proofs.Ytmppmnmkhfcoaaa
