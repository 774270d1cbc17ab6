/- Contracts over this seat's translation. Condition: each contract's own. -/
import Derived.Test.YtfdklbimdkaaiaaM
import Derived.ProofKit
import Derived.Laws.Bits64b
import Derived.Lib.Mul64
import Derived.OpenShut
import Derived.Below
import Derived.ChangeSame
import Derived.Deep.Modes
import Derived.Lib.SmallJoins
import Derived.ChangeSlices
import Derived.WalkKit
import Derived.WalkSpells
import Derived.WalkLawsBesides
import Derived.Deep.QuietTactic
import Derived.BigQuiet
import Derived.Deep.RegionHeld3
import Derived.Deep.RegionWith
import Derived.Deep.RegionLaw
import Derived.Deep.AppendLies
import Derived.Laws.CopyOwn
import Derived.Deep.DeepCutAuto
import Derived.Deep.OwnRows
import Derived.Deep.LoopGhost
import Derived.Deep.DeepFit
import Derived.Deep.DeepMust
import Derived.Deep.Draws
import Derived.Deep.CutRange
import Derived.Maps.AppendAt
import Derived.Lib.Hide
import Derived.StillTailTactics
import Derived.Laws.MakeOwn
import Derived.Deep.Matrix
set_option linter.unusedVariables false
open Go Go.RowKit
namespace Go.Proofs.Ytfdklbimdkaaiaa
/-! ### Rows of binomial numbers -/
def sums : List Int → List Int
  | x :: y :: r => (x + y) :: sums (y :: r)
  | _ => []
def pasc : Nat → List Int
  | 0 => [1]
  | k + 1 => 1 :: (sums (pasc k) ++ [1])
theorem length_sums (l : List Int) : (sums l).length = l.length - 1 := by
  induction l with
  | nil => rfl
  | cons x r ih =>
    cases r with
    | nil => rfl
    | cons y r => simp only [sums, List.length_cons, ih]; omega
theorem length_pasc (k : Nat) : (pasc k).length = k + 1 := by
  induction k with
  | zero => rfl
  | succ k ih => simp [pasc, length_sums, ih]
theorem getD_sums (l : List Int) (i : Nat) (h : i + 1 < l.length) : (sums l).getD i 0 = l.getD i 0 + l.getD (i + 1) 0 := by
  induction l generalizing i with
  | nil => simp at h
  | cons x r ih =>
    cases r with
    | nil => simp at h
    | cons y r =>
      cases i with
      | zero => rfl
      | succ i =>
        have := ih i (by simpa using h)
        simpa [sums] using this
/-- All numbers of a row lie between 0 and a bound. -/
def Bd (b : Int) (l : List Int) : Prop := ∀ x ∈ l, 0 ≤ x ∧ x ≤ b
theorem bd_getD {b : Int} {l : List Int} (h : Bd b l) (hb : 0 ≤ b) (i : Nat) : 0 ≤ l.getD i 0 ∧ l.getD i 0 ≤ b := by
  rw [List.getD_eq_getElem?_getD]
  rcases Nat.lt_or_ge i l.length with hi | hi
  · rw [List.getElem?_eq_getElem hi]; exact h _ (List.getElem_mem hi)
  · rw [List.getElem?_eq_none hi]; exact ⟨Int.le_refl _, hb⟩
theorem bd_sums {b : Int} {l : List Int} (h : Bd b l) : Bd (2 * b) (sums l) := by
  induction l with
  | nil => intro x hx; simp [sums] at hx
  | cons x r ih =>
    cases r with
    | nil => intro x hx; simp [sums] at hx
    | cons y r =>
      intro z hz
      simp only [sums, List.mem_cons] at hz
      have h1 := h x (by simp)
      have h2 := h y (by simp)
      rcases hz with rfl | hz
      · omega
      · exact ih (fun u hu => h u (List.mem_cons_of_mem _ hu)) z hz
theorem bd_pasc (k : Nat) : Bd (2 ^ k) (pasc k) := by
  induction k with
  | zero => intro x hx; simp [pasc] at hx; subst hx; decide
  | succ k ih =>
    have h2 : (2 : Int) ^ (k + 1) = 2 * 2 ^ k := by rw [Int.pow_succ, Int.mul_comm]
    have h1 : (1 : Int) ≤ 2 ^ k := Int.pow_pos (by decide)
    intro x hx
    rw [h2]
    simp only [pasc, List.mem_cons, List.mem_append, List.not_mem_nil, or_false] at hx
    rcases hx with rfl | hx | rfl
    · omega
    · exact bd_sums ih x hx
    · omega
theorem two_pow_le {k : Nat} (hk : k ≤ 60) : (2 : Int) ^ k ≤ 1152921504606846976 := by
  have h : (2 : Nat) ^ k ≤ 2 ^ 60 := Nat.pow_le_pow_right (by decide) hk
  have h2 : ((2 ^ k : Nat) : Int) ≤ ((2 ^ 60 : Nat) : Int) := by exact_mod_cast h
  simpa using h2
/-- The part of the next row after i steps. -/
def nextTo (l : List Int) (i : Nat) : List Int := 1 :: (sums l).take i
theorem nextTo_succ (l : List Int) (i : Nat) (h : i + 1 < l.length) : nextTo l (i + 1) = nextTo l i ++ [l.getD i 0 + l.getD (i + 1) 0] := by
  unfold nextTo
  have hl : i < (sums l).length := by rw [length_sums]; omega
  rw [List.take_succ_eq_append_getElem hl, ← getD_sums l i h, List.getD_eq_getElem?_getD, List.getElem?_eq_getElem hl]
  rfl
theorem length_nextTo (l : List Int) (i : Nat) (h : i + 1 ≤ l.length) : (nextTo l i).length = i + 1 := by
  unfold nextTo
  have := length_sums l
  simp only [List.length_cons, List.length_take]
  omega
theorem nextTo_all (k : Nat) : nextTo (pasc k) k ++ [1] = pasc (k + 1) := by
  unfold nextTo
  rw [List.take_of_length_le (by rw [length_sums, length_pasc]; omega)]
  rfl

set_option maxHeartbeats 2000000 in
theorem l01Binomial_any (n k : Nat) (w : World) (h1 : n ≤ 60) (h2 : k ≤ n) :
    Calls Try.prog 136 #[.int .i64 n, .int .i64 k] w fun e w' => e = .returned (.int .i64 ((pasc n).getD k 0)) ∧ Below w.heap.size w w' := by
  have hd1 : decide (n < k) = false := by simp; omega
  have hd2 : decide ((k : Int) < 0) = false := by simp
  go_enter Try.func136, Try.ntmps136
  go_wp2
  go_loopw [5, 6, 7, 8] (fun r t _ _ wr => ∃ j g c : Nat, j ≤ n ∧ t = .int .i64 j ∧ r = .slice (some ⟨g, 0, none⟩) (j + 1) c ∧ w.heap.size ≤ g ∧ RowI wr g c (pasc j) ∧ Below w.heap.size w wr) (fun _ t _ _ _ => n - (intOf t).toNat)
  case atStart => exact ⟨0, _, 1, Nat.zero_le _, rfl, rfl, Nat.le_refl _, RowI.lit _ [1] _ rfl (by unfold maxLen; decide), (Below.refl _ _).alloc (Nat.le_refl _) _⟩
  case round =>
    obtain ⟨j, g, c, hj, rfl, rfl, hg, hrow, hb⟩ := hrel
    have hlt0 := hrow.lt
    have hsz := hb.size
    have HL := Lib.hid (length_pasc j)
    by_cases hlt : j < n
    · obtain ⟨wo, rfl⟩ : ∃ wo : World, wo = wr := ⟨_, rfl⟩
      go_wp2
      go_loopw [7, 8] (fun v i w2 => ∃ q gv cv : Nat, q ≤ j ∧ i = .int .i64 ((q : Int) + 1) ∧ v = .slice (some ⟨gv, 0, none⟩) (q + 1) cv ∧ wo.heap.size ≤ gv ∧ RowI w2 gv cv (nextTo (pasc j) q) ∧ RowI w2 g c (pasc j) ∧ Below w.heap.size w w2 ∧ wo.heap.size ≤ w2.heap.size) (fun _ i _ => j + 1 - (intOf i).toNat)
      case atStart => exact ⟨0, _, 1, Nat.zero_le _, rfl, rfl, Nat.le_refl _, RowI.lit _ [1] _ rfl (by unfold maxLen; decide), hrow.alloc _, hb.alloc hsz _, by simp⟩
      case round =>
        obtain ⟨q, gv, cv, hq, rfl, rfl, hgv, hown, hrow2, hb2, hsz2⟩ := hrel
        clear hrow hb
        have hgvlt := hown.lt
        by_cases hlt2 : q < j
        · have hc1 := hrow2.cell (k := q) (by rw [HL.out]; omega)
          have hc2 := hrow2.cell (k := q + 1) (by rw [HL.out]; omega)
          have hb3 := bd_getD (bd_pasc j) (Int.le_of_lt (Int.pow_pos (by decide))) q
          have hb4 := bd_getD (bd_pasc j) (Int.le_of_lt (Int.pow_pos (by decide))) (q + 1)
          have hb5 := two_pow_le (k := j) (by omega)
          have HN := Lib.hid (nextTo_succ (pasc j) q (by rw [HL.out]; omega))
          have HL2 := Lib.hid (length_nextTo (pasc j) q (by rw [HL.out]; omega))
          generalize (pasc j).getD q 0 = x at *
          generalize (pasc j).getD (q + 1) 0 = y at *
          generalize (2 : Int) ^ j = z at *
          have hq0 : (0 : Int) ≤ (q : Int) := Int.natCast_nonneg _
          have hq3 : (0 : Int) ≤ (q : Int) + 1 := by omega
          have hq1 : (q : Int) + 1 < (j : Int) + 1 := by omega
          have hq2 : (q : Int) < (j : Int) + 1 := by omega
          have hne : some g ≠ (Value.slice (some ⟨gv, 0, none⟩) (q + 1) cv).ownBlock := by simp [Value.ownBlock]; omega
          have hwA : IntKind.i64.wrap (q : Int) = (q : Int) := IntWalk.i64_in _ (by omega)
          have hwB : IntKind.i64.wrap (x + y) = x + y := IntWalk.i64_in _ (by omega)
          have hwC : IntKind.i64.wrap ((q : Int) + 1 - 1) = (q : Int) := by rw [Int.add_sub_cancel]; exact hwA
          go_wp2
          go_region_held3 (fun w' => w'.cell? ⟨g, q, none⟩ = some (.int .i64 x) ∧ w'.cell? ⟨g, q + 1, none⟩ = some (.int .i64 y))
            (first
              | go_keep
              | (go_split_ands
                 refine ⟨?_, ?_⟩
                 · (rw [hgrow.cell_far _ (by simp; omega) hne]; assumption)
                 · (rw [hgrow.cell_far _ (by simp; omega) hne]; assumption)))
            ((refine stepAppend1 _ _ wo.heap.size (.slice (some ⟨gv, 0, none⟩) (q + 1) cv) (nextTo (pasc j) q) (q + 1) (x + y) wr.heap.size (wr.heap.size + 1) (by rfl) (by rfl) (by rfl) (by rfl) (((hown.alloc _).drew).own' hgv HL2.out) HL2.out (RowI.block1 _) (by omega) (by simp; omega) (by simp) ?_; intro gg cap w1 hown1 hge hgrow hat))
          clear hwA hwB hwC
          go_wp2
          go_roundw
          case rel =>
            have hb6 : Below w.heap.size w w1 := by
              refine ((hb2.alloc (by omega) _).drew).grown hgrow (by simp; omega) fun b hb => ?_
              simp [Value.ownBlock] at hb
              omega
            have hrow3 : RowI w1 g c (pasc j) := ((hrow2.alloc _).drew).grown hgrow hne
            exact ⟨q + 1, gg, cap, by omega, by go_num, rfl, hge, by rw [HN.out]; exact hown1, hrow3, hb6, by have := hgrow.size; simp at this; omega⟩
          case measure => simp [intOf]; omega
        · obtain rfl : q = j := by omega
          have HL2 := Lib.hid (length_nextTo (pasc q) q (by rw [HL.out]; omega))
          have HN := Lib.hid (nextTo_all q)
          go_wp2_with (at_builtin; refine wpAppend1 _ _ wo.heap.size (.slice (some ⟨gv, 0, none⟩) (q + 1) cv) (nextTo (pasc q) q) (q + 1) 1 wr.heap.size (wr.heap.size + 1) (by rfl) (by rfl) (by rfl) (by rfl) ((hown.alloc _).own' hgv HL2.out) HL2.out (RowI.block1 _) (by omega) (by simp; omega) (by simp) ?_; intro gg cap w1 hown1 hge hgrow hat)
          go_roundw
          case rel =>
            have hb6 : Below w.heap.size w w1 := by
              refine (hb2.alloc (by omega) _).grown hgrow (by simp; omega) fun b hb => ?_
              simp [Value.ownBlock] at hb
              omega
            exact ⟨q + 1, gg, cap, by omega, by go_num, rfl, by omega, by rw [← HN.out]; exact hown1, hb6⟩
          case measure => simp [intOf]; omega
    · obtain rfl : j = n := by omega
      have hc := hrow.cell (k := k) (by rw [HL.out]; omega)
      obtain ⟨x, hx⟩ : ∃ x, x = (pasc j).getD k 0 := ⟨_, rfl⟩
      rw [← hx] at hc
      have HX := Lib.hid hx
      clear hx
      go_wp2
      go_ret
      exact ⟨by rw [← HX.out]; rfl, hb⟩

/-! ### Binomial numbers and their common divisors -/
def binN (n k : Int) : Int := if n < k then 0 else (pasc n.toNat).getD k.toNat 0
theorem binN_lt {n k : Int} (h : n < k) : binN n k = 0 := by simp [binN, h]
theorem binN_ge {n k : Int} (h : ¬ n < k) : binN n k = (pasc n.toNat).getD k.toNat 0 := by simp [binN, h]
theorem binN_bd {n k : Int} (h1 : n ≤ 60) : 0 ≤ binN n k ∧ binN n k ≤ 1152921504606846976 := by
  by_cases h : n < k
  · rw [binN_lt h]; omega
  · rw [binN_ge h]
    have h2 := bd_getD (bd_pasc n.toNat) (Int.le_of_lt (Int.pow_pos (by decide))) k.toNat
    have h3 := two_pow_le (k := n.toNat) (by omega)
    omega
theorem l01Binomial_int (n k : Int) (w : World) (h0 : 0 ≤ n) (h1 : n ≤ 60) (h2 : 0 ≤ k) (h3 : k ≤ 60) :
    Calls Try.prog 136 #[.int .i64 n, .int .i64 k] w fun e w' => e = .returned (.int .i64 (binN n k)) ∧ Below w.heap.size w w' := by
  by_cases h : n < k
  · have HF := Lib.hid (binN_lt h)
    go_enter Try.func136, Try.ntmps136
    go_wp2
    go_ret
    exact ⟨by rw [HF.out]; rfl, Below.refl _ _⟩
  · obtain ⟨a, rfl⟩ := Int.eq_ofNat_of_zero_le h0
    obtain ⟨b, rfl⟩ := Int.eq_ofNat_of_zero_le h2
    rw [binN_ge h]
    exact l01Binomial_any a b w (by omega) (by omega)
def binR (n k : Int) : Int × Int := if inB n 0 60 = false ∨ inB k 0 60 = false then (0, 2) else (binN n k, 0)
/-- The greatest common divisor of the binomial numbers below 1, .., k - 1. -/
def lazN (n : Int) : Nat → Int
  | 0 => 0
  | 1 => 0
  | k + 2 => (Int.gcd (lazN n (k + 1)) (binN n ((k + 1 : Nat) : Int)) : Int)
theorem lazN_succ (n : Int) {k : Nat} (hk : 1 ≤ k) : lazN n (k + 1) = (Int.gcd (lazN n k) (binN n (k : Int)) : Int) := by
  obtain ⟨j, rfl⟩ : ∃ j, k = j + 1 := ⟨k - 1, by omega⟩
  rfl
theorem gcd_le_of {a b c : Int} (ha : 0 ≤ a ∧ a ≤ c) (hb : 0 ≤ b ∧ b ≤ c) : 0 ≤ (Int.gcd a b : Int) ∧ (Int.gcd a b : Int) ≤ c := by
  refine ⟨Int.natCast_nonneg _, ?_⟩
  unfold Int.gcd
  by_cases h : a.natAbs = 0
  · rw [h, Nat.gcd_zero_left]; omega
  · have := Nat.gcd_le_left b.natAbs (Nat.pos_of_ne_zero h)
    omega
theorem lazN_bd (n : Int) (h : n ≤ 60) (k : Nat) : 0 ≤ lazN n k ∧ lazN n k ≤ 1152921504606846976 := by
  induction k with
  | zero => simp [lazN]
  | succ k ih =>
    by_cases hk : 1 ≤ k
    · rw [lazN_succ n hk]; exact gcd_le_of ih (binN_bd h)
    · obtain rfl : k = 0 := by omega
      simp [lazN]
theorem l01Lazard_any (n : Int) (w : World) (h1 : 2 ≤ n) (h2 : n ≤ 60) : Calls Try.prog 135 #[.int .i64 n] w fun e w' => e = .returned (.int .i64 (lazN n n.toNat)) ∧ Below w.heap.size w w' := by
  go_enter Try.func135, Try.ntmps135
  go_wp2
  go_loopw [3, 4] (fun d t wr => ∃ k : Nat, 1 ≤ k ∧ (k : Int) ≤ n ∧ t = .int .i64 k ∧ d = .int .i64 (lazN n k) ∧ Below w.heap.size w wr) (fun _ t _ => (n - intOf t).toNat)
  case atStart => exact ⟨1, by omega, by omega, rfl, rfl, Below.refl _ _⟩
  case round =>
    obtain ⟨k, hk1, hk2, rfl, rfl, hb⟩ := hrel
    have hz := hb.size
    have hl := lazN_bd n h2 k
    have hbn := binN_bd (n := n) (k := (k : Int)) h2
    by_cases hlt : (k : Int) < n
    · have HS := Lib.hid (lazN_succ n hk1)
      go_wp2_with (first | (go_at_call 136; refine (l01Binomial_int n k _ (by omega) (by omega) (by omega) (by omega)).mono ?_; rintro e w1 ⟨rfl, hb1⟩) | (go_at_call 116; refine (l01Gcd_any _ _ _ (by omega) (by omega) (by omega) (by omega)).mono ?_; rintro e w2 ⟨rfl, k2, rfl⟩))
      go_roundw
      case rel => exact ⟨k + 1, by omega, by omega, by go_num, by rw [HS.out], below_drewN (hb.trans (hb1.mono hz)) _⟩
      case measure => simp [intOf]; omega
    · have hkn : Hid (n.toNat = k) := by unfold Hid; omega
      go_wp2
      go_ret
      exact ⟨by rw [hkn.out]; rfl, hb⟩
def lazR (n : Int) : Int × Int := if inB n 2 60 = false then (0, 2) else (lazN n n.toNat, 0)

/-! ### TypicalFactor: sums of tables, copies, powers (reference) -/
theorem lst_succ2 (n : Nat) (f : Nat → Int) : lst (n + 1) f = lst n f ++ [f n] := by
  unfold lst; rw [List.range_succ, List.map_append]; rfl
theorem co2_tab_num3 {m : Int} (hm : 0 < m) (n : Nat) (f : Nat → Nat → Int) (h : ∀ i j, 0 ≤ f i j ∧ f i j < m) : Num2 m (tab n f) := Num2.tab hm n f h
def addL (m : Int) (xs ys : List Int) : List Int := lst xs.length fun k => (co xs k + co ys k) % m
theorem length_addL (m : Int) (xs ys : List Int) : (addL m xs ys).length = xs.length := length_lst _ _
set_option maxRecDepth 4000 in
set_option maxHeartbeats 1000000 in
theorem l02Add_any (m : Int) (w : World) (v v2 : Value) (xs ys zs : List Int) (B B2 : Nat) (hv : OwnI w B v xs) (hv2 : OwnI w B2 v2 ys) (hl2 : ys.length = xs.length) (hy : addL m xs ys = zs) (hm : 2 ≤ m) (hm' : m ≤ 3000000000) (hn : NumL m xs) (hn2 : NumL m ys) (hl : xs.length ≤ 1000000) :
    Calls Try.prog 137 #[.int .i64 m, v, v2] w (NewI w zs) := by
  obtain ⟨A, cp, e0, hc1, hc2, hA⟩ := hv.open_
  obtain ⟨A2, cp2, e2, hc3, hc4, hA2⟩ := hv2.open_
  subst e0 e2
  unfold maxLen at hc2 hc4
  have HY := Lib.hid hy
  have HN := Lib.hid hn
  have HN2 := Lib.hid hn2
  have HA := Lib.hid hA
  have HA2 := Lib.hid hA2
  rw [hl2] at HA2 hc3 ⊢
  clear hy hn hn2 hA hA2 hv hv2 hl2
  go_enter Try.func137, Try.ntmps137
  go_wp2
  go_loopw [7, 8] (fun r i wr => ∃ k g c' : Nat, k ≤ xs.length ∧ i = .int .i64 k ∧ r = .slice (some ⟨g, 0, none⟩) k c' ∧ w.heap.size ≤ g ∧ Hid (RowI wr g c' (lst k (fun k => (co xs k + co ys k) % m))) ∧ Hid (Below w.heap.size w wr)) (fun _ i _ => xs.length - (intOf i).toNat)
  case atStart => exact ⟨0, w.heap.size, 0, Nat.zero_le _, rfl, rfl, Nat.le_refl _, RowI.lit w [] #[] rfl (by simp), by unfold Hid; (repeat (first | assumption | exact Below.refl _ _ | refine Below.alloc ?_ (by first | omega | (simp; done) | (simp; omega)) _ | refine Below.setCell ?_ (by first | omega | (simp; done) | (simp; omega)) _ | refine below_drewN ?_ _))⟩
  case round =>
    obtain ⟨k, g, c', hk, rfl, rfl, hg, hrow, hb⟩ := hrel
    have hz := hb.out.size
    have hglt := hrow.out.lt
    by_cases hlt : k < xs.length
    · obtain ⟨b, rfl, hb1, hb2, hcell, hfr⟩ := HA.out k hlt
      obtain ⟨b', rfl, hb3, hb4, hcell2, hfr2⟩ := HA2.out k hlt
      have hcx : wr.cell? ⟨b, k, none⟩ = some (.int .i64 (co xs k)) := (hb.out.cell (p := ⟨b, k, none⟩) hb2).trans hcell
      have hcy : wr.cell? ⟨b', k, none⟩ = some (.int .i64 (co ys k)) := (hb.out.cell (p := ⟨b', k, none⟩) hb4).trans hcell2
      clear hcell hcell2 hfr hfr2
      have hnx : 0 ≤ co xs k ∧ co xs k < m := HN.out k
      have hny : 0 ≤ co ys k ∧ co ys k < m := HN2.out k
      have HS := Lib.hid (lst_succ2 k (fun k => (co xs k + co ys k) % m))
      have HL : Hid ((lst k (fun k => (co xs k + co ys k) % m)).length = k) := length_lst _ _
      obtain ⟨x, hx⟩ : ∃ x, x = co xs k := ⟨_, rfl⟩
      obtain ⟨y, hy⟩ : ∃ y, y = co ys k := ⟨_, rfl⟩
      rw [← hx] at hcx hnx
      rw [← hy] at hcy hny
      have HXY : Hid ((co xs k + co ys k) % m = (x + y) % m) := by unfold Hid; rw [hx, hy]
      clear hx hy
      have hk0 : (0 : Int) ≤ (k : Int) := by omega
      have hk1 : (k : Int) < (xs.length : Int) := by omega
      have v3 : IntKind.i64.wrap (x + y) = x + y := IntWalk.i64_in _ (by omega)
      have v4 : (x + y).tmod m = (x + y) % m := Int.tmod_eq_emod_of_nonneg (by omega)
      have v11 : (m == 0) = false := by simp; omega
      have v12 : ¬ m = 0 := by omega
      go_wp2
      go_region_law ((refine stepAppend1 _ _ w.heap.size (.slice (some ⟨g, 0, none⟩) k c') (lst k (fun k => (co xs k + co ys k) % m)) k ((x + y) % m) wr.heap.size (wr.heap.size + 1) (by rfl) (by rfl) (by rfl) (by rfl) (((hrow.out.alloc _).drew).own' hg HL.out) HL.out (RowI.block1 _) (by omega) (by simp; omega) (by simp) ?_; intro gg cap w1 hown1 hge hgrow hat))
      all_goals
        clear v3 v4
        go_wp2
        go_roundw
        case rel =>
          refine ⟨k + 1, gg, cap, by omega, by go_num, rfl, hge, by unfold Hid; rw [HS.out, HXY.out]; exact hown1, ?_⟩
          refine Below.grown (below_drew (hb.out.alloc hz _)) hgrow (by simp; omega) fun b hb => ?_
          simp [Value.ownBlock] at hb
          omega
        case measure => simp [intOf]; omega
    · have hkn : k = xs.length := by omega
      have hrow' : Hid (RowI wr g c' zs) := by rw [← HY.out]; unfold addL; rw [← hkn]; exact hrow
      have hly : Hid (zs.length = xs.length) := by unfold Hid; rw [← HY.out, length_addL]
      have hd5 : decide ((k : Int) < (xs.length : Int)) = false := by simp; omega
      go_wp2
      go_ret
      exact ⟨_, _, by rw [hly.out, ← hkn]; rfl, hrow'.out.own hg, hb.out⟩
theorem add_rows (m : Int) (xss yss : List (List Int)) (n : Nat) (ht : Tri n xss) : rowsF (fun i => addL m (xss.getD i []) (yss.getD i [])) n = tab n fun i j => (co2 xss i j + co2 yss i j) % m := by
  unfold rowsF tab
  apply List.map_congr_left
  intro i hi
  have hi' : i < n := by simpa using hi
  unfold addL
  rw [ht.2 i hi']
  rfl
set_option maxRecDepth 8000 in
set_option maxHeartbeats 2000000 in
theorem l03Add_any (w : World) (m : Int) (v v2 : Value) (xss yss zss : List (List Int)) (n : Nat) (lo hi lo2 hi2 : Nat) (hv : OwnP w lo hi v xss) (ht : Tri n xss) (hq : Num2 m xss) (hv2 : OwnP w lo2 hi2 v2 yss) (ht2 : Tri n yss) (hq2 : Num2 m yss) (hm : 2 ≤ m) (hm' : m ≤ 3000000000) (hn1 : 1 ≤ n) (hn : n ≤ 1000) (hz : (tab n fun i j => (co2 xss i j + co2 yss i j) % m) = zss) :
    Calls Try.prog 119 #[.int .i64 m, v, v2] w (NewP w zss) := by
  obtain ⟨g, c, rfl, hc1, hc2, hg, hA⟩ := hv.source n ht.1 hn1
  obtain ⟨g2, c2, rfl, hc3, hc4, hg2, hA2⟩ := hv2.source n ht2.1 hn1
  have HRW : Hid (rowsF (fun i => addL m (xss.getD i []) (yss.getD i [])) n = zss) := by
    unfold Hid
    rw [add_rows m xss yss n ht]
    exact hz
  have HA := Lib.hid hA
  have HA2 := Lib.hid hA2
  have HT := Lib.hid ht
  have HQ := Lib.hid hq
  have HT2 := Lib.hid ht2
  have HQ2 := Lib.hid hq2
  clear hA hv ht hz hq hA2 hv2 ht2 hq2
  go_enter Try.func119, Try.ntmps119
  go_wp2
  go_loopw [7, 8] (fun s i wr => ∃ (k : Nat) (A : Option Addr) (c : Nat), k ≤ n ∧ s = .slice A k c ∧ i = .int .i64 k ∧ Hid (OwnP wr w.heap.size wr.heap.size (.slice A k c) (rowsF (fun i => addL m (xss.getD i []) (yss.getD i [])) k)) ∧ Hid (Below w.heap.size w wr)) (fun _ i _ => n + 2 - (intOf i).toNat)
  case atStart => exact ⟨0, _, 0, Nat.zero_le _, rfl, rfl, OwnP.start (Nat.le_refl _), by unfold Hid; (repeat (first | assumption | exact Below.refl _ _ | refine Below.alloc ?_ (by first | omega | (simp; done) | (simp; omega)) _ | refine Below.setCell ?_ (by first | omega | (simp; done) | (simp; omega)) _ | refine below_drewN ?_ _))⟩
  case round =>
    obtain ⟨k, A, c', hk, rfl, rfl, HO, HB⟩ := hrel
    have hz := HB.out.size
    by_cases hlt : k < n
    · have hk1 : (k : Int) < (n : Int) := by omega
      obtain ⟨Ar, cr, hcell, hown⟩ := HA.out k (by omega)
      obtain ⟨Ar2, cr2, hcell2, hown2⟩ := HA2.out k (by omega)
      have hc0 := (HB.out.cell (p := ⟨g, k, none⟩) hg).trans hcell
      have hc0' := (HB.out.cell (p := ⟨g2, k, none⟩) hg2).trans hcell2
      have HOX := Lib.hid (hown.keep HB.out (Nat.le_refl _))
      have HOX2 := Lib.hid (hown2.keep HB.out (Nat.le_refl _))
      obtain ⟨x, hx⟩ : ∃ x, x = xss.getD k [] := ⟨_, rfl⟩
      obtain ⟨x2, hx2⟩ : ∃ x2, x2 = yss.getD k [] := ⟨_, rfl⟩
      have HXL : Hid (x2.length = x.length) := by unfold Hid; rw [hx, hx2, HT.out.2 k (by omega), HT2.out.2 k (by omega)]
      have hxl : x.length ≤ 1000 := by rw [hx, HT.out.2 k (by omega)]; omega
      have HXN : Hid (NumL m x) := fun j => by rw [hx]; exact HQ.out k j
      have HXN2 : Hid (NumL m x2) := fun j => by rw [hx2]; exact HQ2.out k j
      obtain ⟨y, hy⟩ : ∃ y, addL m x x2 = y := ⟨_, rfl⟩
      have HS2 : Hid (rowsF (fun i => addL m (xss.getD i []) (yss.getD i [])) (k + 1) = rowsF (fun i => addL m (xss.getD i []) (yss.getD i [])) k ++ [y]) := by unfold Hid; rw [rowsF_succ, ← hy, hx, hx2]
      rw [← hx] at hc0 HOX
      rw [← hx2] at hc0' HOX2
      have HY := Lib.hid hy
      clear hcell hown hx hy hcell2 hown2 hx2
      have hk0 : (0 : Int) ≤ (k : Int) := by omega
      go_wp2
      go_region_law ((first | (go_simp; go_at_call 137; refine (l02Add_any m _ _ _ x x2 y lo lo2 (HOX.out.drewN 1) (HOX2.out.drewN 1) HXL.out HY.out (by omega) (by omega) HXN.out HXN2.out (by omega)).mono ?_; rintro e w3 ⟨A3, c3, rfl, o3, hb3⟩; have O3 := Lib.hid o3; have R3 := Lib.hid (below_undrew hb3); have s3 : wr.heap.size ≤ w3.heap.size := hb3.size; clear o3 hb3) | (refine stepAppendP _ _ w.heap.size wr.heap.size (.slice A k c') (.slice A3 y.length c3) (rowsF (fun i => addL m (xss.getD i []) (yss.getD i [])) k) y k w3.heap.size (w3.heap.size + 1) (by rfl) (by rfl) (by rfl) (by rfl) ((HO.out.keep R3.out).alloc _) (length_rowsF _ _) (by simp; omega) ((O3.out.alloc _).mono (by show w.heap.size ≤ wr.heap.size; omega)) (fun g hg => (O3.out.block_ge hg).1) (heap_alloc_new w3 _) (by omega) (by simp; omega) (by simp) ?_; intro gg cap w2 ho2 hg9 hat9)))
      all_goals
        go_wp2
        go_roundw
        case rel =>
          refine ⟨k + 1, some ⟨gg, 0, none⟩, cap, by omega, rfl, by go_num, by rw [HS2.out]; exact ho2, ?_⟩
          unfold Hid
          exact below_grownP ((HB.out.trans (R3.out.mono hz)).alloc (by omega) _) (by simp; omega) hg9 (fun g hg => ownP_block_ge HO.out hg)
        case measure => simp [intOf]; omega
    · have hkn : k = n := by omega
      have hd5 : decide ((k : Int) < (n : Int)) = false := by simp; omega
      have hO := HO.out
      rw [hkn, HRW.out] at hO
      have HL : Hid (zss.length = n) := by unfold Hid; rw [← HRW.out, length_rowsF]
      have HO2 := Lib.hid hO
      clear hO
      go_wp2
      go_ret
      exact ⟨A, c', by rw [HL.out, ← hkn]; rfl, by rw [HL.out]; exact HO2.out, HB.out⟩
theorem rows_self (xss : List (List Int)) (n : Nat) (h : xss.length = n) : rowsF (fun i => xss.getD i []) n = xss := by
  subst h
  unfold rowsF
  apply List.ext_getElem
  · simp
  · intro k h1 h2
    simp [List.getD_eq_getElem?_getD, h2]
set_option maxRecDepth 8000 in
set_option maxHeartbeats 2000000 in
theorem l01Own2_any (w : World) (v : Value) (xss : List (List Int)) (n : Nat) (lo hi : Nat) (hv : OwnP w lo hi v xss) (ht : Tri n xss) (hn1 : 1 ≤ n) (hn : n ≤ 1000) :
    Calls Try.prog 138 #[v] w (NewP w xss) := by
  obtain ⟨g, c, rfl, hc1, hc2, hg, hA⟩ := hv.source n ht.1 hn1
  have HRW := Lib.hid (rows_self xss n ht.1)
  have HA := Lib.hid hA
  have HT := Lib.hid ht
  clear hA hv ht
  go_enter Try.func138, Try.ntmps138
  go_wp2
  go_loopw [3, 4] (fun s i wr => ∃ (k : Nat) (A : Option Addr) (c : Nat), k ≤ n ∧ s = .slice A k c ∧ i = .int .i64 k ∧ Hid (OwnP wr w.heap.size wr.heap.size (.slice A k c) (rowsF (fun i => xss.getD i []) k)) ∧ Hid (Below w.heap.size w wr)) (fun _ i _ => n + 2 - (intOf i).toNat)
  case atStart => exact ⟨0, _, 0, Nat.zero_le _, rfl, rfl, OwnP.start (Nat.le_refl _), by unfold Hid; (repeat (first | assumption | exact Below.refl _ _ | refine Below.alloc ?_ (by first | omega | (simp; done) | (simp; omega)) _ | refine Below.setCell ?_ (by first | omega | (simp; done) | (simp; omega)) _ | refine below_drewN ?_ _))⟩
  case round =>
    obtain ⟨k, A, c', hk, rfl, rfl, HO, HB⟩ := hrel
    have hz := HB.out.size
    by_cases hlt : k < n
    · have hk1 : (k : Int) < (n : Int) := by omega
      obtain ⟨Ar, cr, hcell, hown⟩ := HA.out k (by omega)
      have hc0 := (HB.out.cell (p := ⟨g, k, none⟩) hg).trans hcell
      have HOX := Lib.hid (hown.keep HB.out (Nat.le_refl _))
      obtain ⟨x, hx⟩ : ∃ x, x = xss.getD k [] := ⟨_, rfl⟩
      have hxl : x.length ≤ 1000 := by rw [hx, HT.out.2 k (by omega)]; omega
      have HS2 : Hid (rowsF (fun i => xss.getD i []) (k + 1) = rowsF (fun i => xss.getD i []) k ++ [x]) := by unfold Hid; rw [rowsF_succ, hx]
      rw [← hx] at hc0 HOX
      clear hcell hown hx
      have hk0 : (0 : Int) ≤ (k : Int) := by omega
      go_wp2_with (first | (go_at_call 85; refine (l01Own_all _ _ x HOX.out.rd (by omega)).mono ?_; rintro e w3 ⟨A3, c3, rfl, o3, hb3⟩; have O3 := Lib.hid o3; have R3 := Lib.hid hb3; have s3 := hb3.size; clear o3) | (at_builtin; refine appendP _ _ w.heap.size wr.heap.size (.slice A k c') (.slice A3 x.length c3) (rowsF (fun i => xss.getD i []) k) x w3.heap.size (by rfl) (by rfl) (by rfl) (by rfl) ((HO.out.keep R3.out).alloc _) (by simp; omega) ((O3.out.alloc _).mono (by omega)) (fun g hg => (O3.out.block_ge hg).1) (heap_alloc_new w3 _) (by rw [length_rowsF]; omega) (by simp; omega) ?_; intro A2 c2 w2 ho2 hg2; rw [length_rowsF] at ho2 ⊢))
      go_roundw
      case rel =>
        refine ⟨k + 1, A2, c2, by omega, rfl, by go_num, by rw [HS2.out]; exact ho2, ?_⟩
        unfold Hid
        exact below_grownP ((HB.out.trans (R3.out.mono hz)).alloc (by omega) _) (by simp; omega) hg2 (fun g hg => ownP_block_ge HO.out hg)
      case measure => simp [intOf]; omega
    · have hkn : k = n := by omega
      have hd5 : decide ((k : Int) < (n : Int)) = false := by simp; omega
      have hO := HO.out
      rw [hkn, HRW.out] at hO
      have HL : Hid (xss.length = n) := HT.out.1
      have HO2 := Lib.hid hO
      clear hO
      go_wp2
      go_ret
      exact ⟨A, c', by rw [HL.out, ← hkn]; rfl, by rw [HL.out]; exact HO2.out, HB.out⟩
/-- F times itself, k times. -/
def pqF (m : Int) (n : Nat) (F : Nat → Nat → Int) : Nat → Nat → Nat → Int
  | 0 => F
  | k + 1 => tmF m n (pqF m n F k) F
theorem pqF_bd {m : Int} (hm : 0 < m) (n : Nat) (F : Nat → Nat → Int) (h : ∀ i j, 0 ≤ F i j ∧ F i j < m) : ∀ k i j, 0 ≤ pqF m n F k i j ∧ pqF m n F k i j < m
  | 0, i, j => h i j
  | k + 1, i, j => tmF_bd hm _ _ _ _ _
theorem tmF_tab2 (m : Int) (n : Nat) (f F : Nat → Nat → Int) : tab n (tmF m n (co2 (tab n f)) F) = tab n (tmF m n f F) := tab_congr fun a b hab => tmF_modL hab fun i j hij => by rw [co2_tab _ hij]
set_option maxRecDepth 4000 in
set_option maxHeartbeats 2000000 in
theorem l09Power_any (w : World) (m : Int) (v : Value) (xss zss : List (List Int)) (n e : Nat) (lo hi : Nat) (hv : OwnP w lo hi v xss) (ht : Tri n xss) (hq : Num2 m xss) (hm : 2 ≤ m) (hm' : m ≤ 3000000000) (hn1 : 1 ≤ n) (hn : n ≤ 1000) (he : e ≤ 1000000) (hs : tab n (co2 xss) = xss) (hz : tab n (pqF m n (co2 xss) e) = zss) :
    Calls Try.prog 139 #[.int .i64 m, v, .int .i64 ((e : Int) + 1)] w (fun en w' => ∃ A c, en = .returned (.slice A n c) ∧ (∃ lo2 hi2, hi2 ≤ w'.heap.size ∧ OwnP w' lo2 hi2 (.slice A n c) zss) ∧ Below w.heap.size w w') := by
  obtain ⟨A, cp, e0, -, -⟩ := hv.form
  rw [ht.1] at e0
  subst e0
  have HV := Lib.hid hv
  have HT := Lib.hid ht
  have HQ := Lib.hid hq
  have HZ := Lib.hid hz
  have HSF := Lib.hid hs
  clear hv ht hq hz hs
  go_enter Try.func139, Try.ntmps139
  go_wp2
  go_loopw [2, 7] (fun i s wr => ∃ (k r : Nat) (A : Option Addr) (c : Nat), k + r = e ∧ i = .int .i64 ((r : Int) + 1) ∧ s = .slice A n c ∧ Hid (∃ lo2 hi2, hi2 ≤ wr.heap.size ∧ OwnP wr lo2 hi2 (.slice A n c) (tab n (pqF m n (co2 xss) k))) ∧ Hid (Below w.heap.size w wr)) (fun i _ _ => (intOf i).toNat)
  case atStart => exact ⟨0, e, A, cp, by omega, rfl, rfl, ⟨lo, w.heap.size, Nat.le_refl _, by rw [pqF, HSF.out]; exact HV.out.hi_le⟩, Below.refl _ _⟩
  case round =>
    obtain ⟨k, r, A', c', hk, rfl, rfl, HO, HB⟩ := hrel
    have hz := HB.out.size
    by_cases hlt : 0 < r
    · obtain ⟨lo2, hi2, ho1, ho2⟩ := HO.out
      have HO2 := Lib.hid ho2
      clear ho2
      have hr1 : (1 : Int) < (r : Int) + 1 := by omega
      have v1 : IntKind.i64.wrap ((r : Int) + 1 - 1) = (r : Int) := by rw [show (r : Int) + 1 - 1 = (r : Int) by omega]; exact IntWalk.i64_in _ (by omega)
      have v2 : IntKind.i64.wrap (r : Int) = (r : Int) := IntWalk.i64_in _ (by omega)
      go_wp2_with (go_at_call 142; refine (l03Times_any _ m _ _ _ xss _ n lo2 hi2 lo hi HO2.out (Tri.tab n _) (co2_tab_num3 (by omega) n _ (pqF_bd (by omega) n _ (fun i j => HQ.out i j) k)) (HV.out.keep HB.out) HT.out HQ.out hm hm' hn1 hn (tmF_tab2 m n _ _)).mono ?_; rintro e w2 ⟨A2, c2, rfl, o2, hb2⟩; rw [length_tab] at *)
      go_roundw
      case rel =>
        refine ⟨k + 1, r - 1, A2, c2, by omega, by go_num, rfl, ⟨_, _, Nat.le_refl _, o2⟩, HB.out.trans (hb2.mono hz)⟩
      case measure => simp [intOf] <;> omega
    · have hr : r = 0 := by omega
      have hkn : k = e := by omega
      obtain ⟨lo2, hi2, ho1, ho2⟩ := HO.out
      rw [hkn, HZ.out] at ho2
      have HO2 := Lib.hid ho2
      clear ho2
      have hd6 : decide ((1 : Int) < (r : Int) + 1) = false := by simp; omega
      go_wp2
      go_ret
      exact ⟨A', c', rfl, ⟨lo2, hi2, ho1, HO2.out⟩, HB.out⟩

/-! ### TypicalFactor: the sum that has to be 0 (reference) -/
theorem l09Most_any (w : World) (p d k : Nat) (hp : 2 ≤ p) (hp' : p ≤ 7) (hd : d ≤ 1000) (h1 : p ^ k ≤ d) (h2 : d < p ^ (k + 1)) : Calls Try.prog 84 #[.int .i64 p, .int .i64 d] w fun e w' => e = .returned (.tuple #[.int .i64 k, .int .i64 ((p ^ k : Nat) : Int)]) ∧ Below w.heap.size w w' := by
  have hk1 : k < 1000 := by
    have := Nat.lt_pow_self (n := k) (show 1 < p by omega)
    omega
  have H1 := Lib.hid h1
  have H2 := Lib.hid h2
  clear h1 h2
  go_enter Try.func84, Try.ntmps84
  go_wp2
  go_loopw [6, 7] (fun i q wr => ∃ j P : Nat, j ≤ k ∧ i = .int .i64 j ∧ q = .int .i64 P ∧ Hid (P = p ^ j) ∧ P ≤ d ∧ Hid (Below w.heap.size w wr)) (fun i _ _ => k - (intOf i).toNat)
  case atStart => exact ⟨0, 1, Nat.zero_le _, rfl, rfl, by unfold Hid; simp, by have := H1.out; have : 0 < p ^ k := Nat.pow_pos (by omega); omega, Below.refl _ _⟩
  case round =>
    obtain ⟨j, P, hj, rfl, rfl, HP, hP, HB⟩ := hrel
    have hb := mul_bd' (show (0 : Int) ≤ (P : Int) by omega) (show (P : Int) ≤ 1000 by omega) (show (0 : Int) ≤ (p : Int) by omega) (show (p : Int) ≤ 7 by omega)
    have v1 : IntKind.i64.wrap ((P : Int) * (p : Int)) = (P : Int) * (p : Int) := IntWalk.i64_in _ (by omega)
    have HM : Hid (P * p = p ^ (j + 1)) := by unfold Hid; rw [HP.out, Nat.pow_succ]
    have hc : (P : Int) * (p : Int) = ((P * p : Nat) : Int) := by simp
    by_cases hlt : j < k
    · have hle : P * p ≤ d := by
        rw [HM.out]
        exact Nat.le_trans (Nat.pow_le_pow_right (by omega) hlt) H1.out
      obtain ⟨R, hR⟩ : ∃ R, P * p = R := ⟨_, rfl⟩
      rw [hR] at hc hle
      have HR : Hid (R = p ^ (j + 1)) := by unfold Hid; rw [← hR]; exact HM.out
      have hle2 : (R : Int) ≤ (d : Int) := by omega
      rw [hc] at v1
      clear hb
      clear hR
      go_wp2
      go_roundw
      case rel => exact ⟨j + 1, R, by omega, by go_num, rfl, HR, by omega, HB⟩
      case measure => simp [intOf]; omega
    · have hjk : j = k := by omega
      have HF : Hid (P = p ^ k) := by rw [← hjk]; exact HP
      have hle : d < P * p := by
        rw [HM.out, hjk]
        exact H2.out
      obtain ⟨R, hR⟩ : ∃ R, P * p = R := ⟨_, rfl⟩
      rw [hR] at hc hle
      have hle2 : ¬ (R : Int) ≤ (d : Int) := by omega
      have hd6 : decide ((R : Int) ≤ (d : Int)) = false := by simp; omega
      rw [hc] at v1
      clear hb hR
      go_wp2
      refine bodyPost_ret (v := .tuple #[.int .i64 k, .int .i64 P]) (by simp [results, Try.results84, go_sem]) rfl ⟨by have h1 := HF.out; subst h1; simp, HB.out⟩
def owF (W : Int) (n q : Nat) (g : Nat → Nat → Int) : Nat → Nat → Int := if q < n then upd2 (upd2 g q 0 ((g q 0 - 1) % W)) 0 q ((g 0 q - 1) % W) else g
/-- The sum after k terms. -/
def rsF (W : Int) (p most : Nat) (ns : List Int) (n : Nat) (F : Nat → Nat → Int) : Nat → Nat → Nat → Int
  | 0 => fun _ _ => 0
  | k + 1 => fun i j => (rsF W p most ns n F k i j + powN W (p : Int) (most - k) * co ns k % W * owF W n (p ^ k) (pqF W n F (p ^ k - 1)) i j % W) % W
theorem rsF_bd {W : Int} (hW : 0 < W) (p most : Nat) (ns : List Int) (n : Nat) (F : Nat → Nat → Int) : ∀ k i j, 0 ≤ rsF W p most ns n F k i j ∧ rsF W p most ns n F k i j < W
  | 0, i, j => by unfold rsF; omega
  | k + 1, i, j => ⟨Int.emod_nonneg _ (by omega), Int.emod_lt_of_pos _ hW⟩
theorem owF_bd {W : Int} (hW : 0 < W) (n q : Nat) {g : Nat → Nat → Int} (h : ∀ i j, 0 ≤ g i j ∧ g i j < W) (i j : Nat) : 0 ≤ owF W n q g i j ∧ owF W n q g i j < W := by
  have e : ∀ x : Int, 0 ≤ x % W ∧ x % W < W := fun x => ⟨Int.emod_nonneg _ (by omega), Int.emod_lt_of_pos _ hW⟩
  unfold owF
  split
  · unfold upd2
    split
    · exact e _
    · split
      · exact e _
      · exact h i j
  · exact h i j
set_option maxRecDepth 8000 in
set_option maxHeartbeats 4000000 in
theorem l09Rest_any (w : World) (p most n : Nat) (W : Int) (vn v : Value) (ns : List Int) (xss zss : List (List Int)) (B lo hi : Nat) (hn : OwnI w B vn ns) (hnn : NumL W ns) (hnl : most + 1 ≤ ns.length) (hnl2 : ns.length ≤ 10) (hv : OwnP w lo hi v xss) (ht : Tri n xss) (hq : Num2 W xss) (hs : tab n (co2 xss) = xss) (hW : 2 ≤ W) (hW' : W ≤ 1000000) (hp : 2 ≤ p) (hp' : p ≤ 7) (hmo : most ≤ 3) (hn1 : 1 ≤ n) (hn2 : n ≤ 100) (hz : tab n (rsF W p most ns n (co2 xss) (most + 1)) = zss) :
    Calls Try.prog 122 #[.int .i64 p, .int .i64 W, .int .i64 most, vn, v] w (NewP w zss) := by
  obtain ⟨A, cp, e0, -, -⟩ := hv.form
  rw [ht.1] at e0
  subst e0
  obtain ⟨An, cn, e1, hc1, hc2, hAn⟩ := hn.open_
  subst e1
  unfold maxLen at hc2
  have HV := Lib.hid hv
  have HT := Lib.hid ht
  have HQ := Lib.hid hq
  have HS := Lib.hid hs
  have HZ := Lib.hid hz
  have HAN := Lib.hid hAn
  have HNN := Lib.hid hnn
  clear hv ht hq hs hz hAn hnn hn
  go_enter Try.func122, Try.ntmps122
  go_wp2_with (go_at_call 121; refine (l03Zero_any _ _ n (by omega) (by omega)).mono ?_; rintro e w1 ⟨A1, c1, rfl, o1, hb1⟩; rw [length_tab] at *)
  have HO1 := Lib.hid o1
  have HB1 := Lib.hid hb1
  clear o1 hb1
  go_loopw [12, 13, 14] (fun s q i wr => ∃ (k e : Nat) (A' : Option Addr) (c' : Nat), k ≤ most + 1 ∧ e ≤ 2400 ∧ Hid (e + 1 = p ^ k) ∧ i = .int .i64 k ∧ q = .int .i64 ((e : Int) + 1) ∧ s = .slice A' n c' ∧ Hid (OwnP wr w.heap.size wr.heap.size (.slice A' n c') (tab n (rsF W p most ns n (co2 xss) k))) ∧ Hid (Below w.heap.size w wr)) (fun _ _ i _ => most + 1 - (intOf i).toNat)
  case atStart => exact ⟨0, 0, A1, c1, Nat.zero_le _, by omega, by unfold Hid; simp, rfl, rfl, rfl, HO1.out, HB1.out⟩
  case round =>
    clear HO1 HB1
    obtain ⟨k, e, A', c', hk, he, HE, rfl, rfl, rfl, HO, HB⟩ := hrel
    have hz := HB.out.size
    by_cases hlt : k < most + 1
    · have hk1 : (k : Int) ≤ (most : Int) := by omega
      have HE1 : Hid (p ^ k - 1 = e) := by have := HE.out; unfold Hid; omega
      by_cases hen : e + 1 < n
      · have hen1 : (e : Int) + 1 ≤ (n : Int) - 1 := by omega
        have hd8 : decide ((e : Int) + 1 ≤ (n : Int) - 1) = true := by simp; omega
        go_wp2_with (first | (go_at_call 139; refine (l09Power_any _ W (.slice A n cp) xss _ n e lo hi (HV.out.keep HB.out) HT.out HQ.out hW (by omega) hn1 (by omega) (by omega) HS.out rfl).mono ?_; rintro en w2 ⟨A2, c2, rfl, ⟨lo2, hi2, hh2, o2⟩, hb2⟩; have O2 := Lib.hid o2; have z2 := hb2.size; have HB2 := Lib.hid (HB.out.trans (hb2.mono hz)); have HO2 := Lib.hid (HO.out.keep hb2); clear o2 hb2) | (go_at_call 138; refine (l01Own2_any _ _ _ n lo2 hi2 O2.out (Tri.tab n _) hn1 (by omega)).mono ?_; rintro en w3 ⟨A3, c3, rfl, o3, hb3⟩; rw [length_tab] at *; have O3 := Lib.hid o3; have z3 := hb3.size; have HB3 := Lib.hid (HB2.out.trans (hb3.mono (by omega))); have HO3 := Lib.hid (HO2.out.keep hb3); clear o3 hb3))
        obtain ⟨g3, c5, e5, -, -, hg3, -⟩ := O3.out.source n (length_tab _ _) hn1
        simp only [Value.slice.injEq, true_and] at e5
        obtain ⟨rfl, rfl⟩ := e5
        obtain ⟨gr, cr, hcr, hne, hgl, hgh, hgz, hd0, hf0, hset⟩ := O3.out.put (i := e + 1) (j := 0) (by omega)
        obtain ⟨g0, c0, hcr0, hne0, hgl0, hgh0, hgz0, hd1, hf1', -⟩ := O3.out.put (i := 0) (j := e + 1) (by omega)
        have hS1 := hset ((pqF W n (co2 xss) e (e + 1) 0 - 1) % W)
        obtain ⟨g1, c1', hcr1, hne1, hgl1, hgh1, hgz1, hd2, hf2', hset2⟩ := hS1.put (i := 0) (j := e + 1) (by omega)
        have hE1 : (w3.setCell ⟨gr, 0, none⟩ (.int .i64 ((pqF W n (co2 xss) e (e + 1) 0 - 1) % W))).cell? ⟨g3, 0, none⟩ = w3.cell? ⟨g3, 0, none⟩ := World.cell?_setCell_other _ _ _ _ (by first | (simp; done) | (simp; omega))
        rw [hE1, hcr0] at hcr1
        simp only [Option.some.injEq, Value.slice.injEq, Addr.mk.injEq] at hcr1
        obtain ⟨⟨rfl, -⟩, -, -⟩ := hcr1
        have hup : upd2 (pqF W n (co2 xss) e) (e + 1) 0 ((pqF W n (co2 xss) e (e + 1) 0 - 1) % W) 0 (e + 1) = pqF W n (co2 xss) e 0 (e + 1) := by unfold upd2; rw [if_neg (by omega)]
        rw [hup] at hd2
        have hS2 := hset2 ((pqF W n (co2 xss) e 0 (e + 1) - 1) % W)
        have HOW : Hid (owF W n (p ^ k) (pqF W n (co2 xss) e) = upd2 (upd2 (pqF W n (co2 xss) e) (e + 1) 0 ((pqF W n (co2 xss) e (e + 1) 0 - 1) % W)) 0 (e + 1) ((pqF W n (co2 xss) e 0 (e + 1) - 1) % W)) := by unfold Hid owF; rw [← HE.out, if_pos hen]
        have HOB := Lib.hid (owF_bd (show 0 < W by omega) n (p ^ k) (pqF_bd (show 0 < W by omega) n (co2 xss) (fun i j => HQ.out i j) e))
        rw [HOW.out] at HOB
        have hab := pqF_bd (show 0 < W by omega) n (co2 xss) (fun i j => HQ.out i j) e (e + 1) 0
        have hbb := pqF_bd (show 0 < W by omega) n (co2 xss) (fun i j => HQ.out i j) e 0 (e + 1)
        generalize hOW : upd2 (upd2 (pqF W n (co2 xss) e) (e + 1) 0 ((pqF W n (co2 xss) e (e + 1) 0 - 1) % W)) 0 (e + 1) ((pqF W n (co2 xss) e 0 (e + 1) - 1) % W) = OW at *
        generalize hya : pqF W n (co2 xss) e (e + 1) 0 = ya at *
        generalize hyb : pqF W n (co2 xss) e 0 (e + 1) = yb at *
        simp only [Nat.sub_zero] at hcr0
        obtain ⟨rA, hrA⟩ : ∃ rA, rA = n - (e + 1) := ⟨_, rfl⟩
        rw [← hrA] at hcr
        have hrA2 : 0 < rA := by omega
        have hrA3 : (0 : Int) < (rA : Int) := by omega
        clear hrA hE1 hup hset hset2 hS1
        have HS2 := Lib.hid hS2
        clear hS2
        have hi0 : (0 : Int) ≤ (e : Int) + 1 := by omega
        have hi1 : (e : Int) + 1 < (n : Int) := by omega
        have hi2 : ((e : Int) + 1).toNat = e + 1 := by omega
        have hn0 : 0 < n := by omega
        have hn00 : (0 : Int) < (n : Int) := by omega
        have u1 : IntKind.i64.wrap (ya - 1) = ya - 1 := IntWalk.i64_in _ (by omega)
        have u2' : IntKind.i64.wrap (yb - 1) = yb - 1 := IntWalk.i64_in _ (by omega)
        go_quiet (fail)
        go_wp2_with (go_at_call 124; refine (l01Mod_any _ W _ (by omega) (by omega)).mono ?_; rintro en w5 ⟨rfl, n5, rfl⟩)
        have HOQ0 : ∀ a b, OwnP ((((w3.drewN a).setCell ⟨gr, 0, none⟩ (.int .i64 ((ya - 1) % W))).drewN b).setCell ⟨g0, e + 1, none⟩ (.int .i64 ((yb - 1) % W))) w2.heap.size w3.heap.size (.slice (some ⟨g3, 0, none⟩) n c3) (tab n OW) := fun a b => HS2.out
        have HOQ20 : ∀ a b, OwnP ((((w3.drewN a).setCell ⟨gr, 0, none⟩ (.int .i64 ((ya - 1) % W))).drewN b).setCell ⟨g0, e + 1, none⟩ (.int .i64 ((yb - 1) % W))) w.heap.size wr.heap.size (.slice A' n c') (tab n (rsF W p most ns n (co2 xss) k)) := fun a b => ((((HO3.out.drewN a).far (p := ⟨gr, 0, none⟩) (.inr (by simp; omega)) _).drewN b).far (p := ⟨g0, e + 1, none⟩) (.inr (by simp; omega)) _)
        have HBQ0 : ∀ a b, Below w.heap.size w ((((w3.drewN a).setCell ⟨gr, 0, none⟩ (.int .i64 ((ya - 1) % W))).drewN b).setCell ⟨g0, e + 1, none⟩ (.int .i64 ((yb - 1) % W))) := fun a b => (below_drewN ((below_drewN HB3.out a).setCell (p := ⟨gr, 0, none⟩) (by simp; omega) _) b).setCell (p := ⟨g0, e + 1, none⟩) (by simp; omega) _
        generalize hwq : World.setCell _ ⟨g0, e + 1, none⟩ _ = wq
        have HOQ : Hid (OwnP wq w2.heap.size w3.heap.size (.slice (some ⟨g3, 0, none⟩) n c3) (tab n OW)) := by unfold Hid; rw [← hwq]; exact HOQ0 _ _
        have HOQ2 : Hid (OwnP wq w.heap.size wr.heap.size (.slice A' n c') (tab n (rsF W p most ns n (co2 xss) k))) := by unfold Hid; rw [← hwq]; exact HOQ20 _ _
        have HBQ : Hid (Below w.heap.size w wq) := by unfold Hid; rw [← hwq]; exact HBQ0 _ _
        clear HOQ0 HOQ20 HBQ0 hwq HS2 HO3 HB3 O3
        obtain ⟨r, hr⟩ : ∃ r : Nat, (most : Int) - (k : Int) = (r : Int) := ⟨most - k, by omega⟩
        have hrm : most - k = r := by omega
        have HRM := Lib.hid hrm
        have v0 : IntKind.i64.wrap (r : Int) = (r : Int) := IntWalk.i64_in _ (by omega)
        obtain ⟨gn, rfl, -, hgn, hcn, -⟩ := HAN.out k (by omega)
        have hcn2 := (HBQ.out.cell (p := ⟨gn, k, none⟩) hgn).trans hcn
        have hnx := HNN.out k
        obtain ⟨x, hx⟩ : ∃ x, ns.getD k 0 = x := ⟨_, rfl⟩
        rw [hx] at hcn2 hnx
        have HX : Hid (co ns k = x) := hx
        clear hcn hx hrm
        have hf1 : 0 ≤ powN W (p : Int) r := Int.emod_nonneg _ (by omega)
        have hf2 : powN W (p : Int) r < W := Int.emod_lt_of_pos _ (by omega)
        obtain ⟨f, hf⟩ : ∃ f, powN W (p : Int) r = f := ⟨_, rfl⟩
        have HFE : Hid (powN W (p : Int) r = f) := hf
        rw [hf] at hf1 hf2
        clear hf
        have hfx := mul_bd' hf1 (show f ≤ 1000000 by omega) hnx.1 (show x ≤ 1000000 by omega)
        have v1 : IntKind.i64.wrap (f * x) = f * x := IntWalk.i64_in _ (by omega)
        have v2 : (f * x).tmod W = f * x % W := Int.tmod_eq_emod_of_nonneg (by omega)
        have v3 : (W == 0) = false := by simp; omega
        have v4 : ¬ W = 0 := by omega
        have hk0 : (0 : Int) ≤ (k : Int) := by omega
        have hkl : (k : Int) < (ns.length : Int) := by omega
        have hkl2 : k < ns.length := by omega
        have hfm := (⟨Int.emod_nonneg _ (by omega), Int.emod_lt_of_pos _ (by omega)⟩ : 0 ≤ f * x % W ∧ f * x % W < W)
        obtain ⟨e2, he2⟩ : ∃ e2, (e + 1) * p = e2 + 1 := ⟨(e + 1) * p - 1, by have := Nat.mul_le_mul (show 1 ≤ e + 1 by omega) (show 1 ≤ p by omega); omega⟩
        have HE2 : Hid (e2 + 1 = p ^ (k + 1)) := by unfold Hid; rw [← he2, Nat.pow_succ, HE.out]
        have he3 : e2 ≤ 2400 := by
          have h1 : p ^ (k + 1) ≤ 7 ^ (k + 1) := Nat.pow_le_pow_left hp' _
          have h2 : 7 ^ (k + 1) ≤ 7 ^ 4 := Nat.pow_le_pow_right (by omega) (by omega)
          have := HE2.out
          omega
        have hmul : ((e : Int) + 1) * (p : Int) = (e2 : Int) + 1 := by
          have h : (((e + 1) * p : Nat) : Int) = ((e2 + 1 : Nat) : Int) := by rw [he2]
          simpa using h
        have v5 : IntKind.i64.wrap (((e : Int) + 1) * (p : Int)) = (e2 : Int) + 1 := by rw [hmul]; exact IntWalk.i64_in _ (by omega)
        have v6 : IntKind.i64.wrap ((e2 : Int) + 1) = (e2 : Int) + 1 := IntWalk.i64_in _ (by omega)
        clear he2
        have HNX : Hid (tab n (fun i j => (co2 (tab n (rsF W p most ns n (co2 xss) k)) i j + co2 (tab n (fun i j => f * x % W * co2 (tab n OW) i j % W)) i j) % W) = tab n (rsF W p most ns n (co2 xss) (k + 1))) := tab_congr fun i j hij => by
          rw [co2_tab _ hij, co2_tab _ hij, co2_tab _ hij]
          show _ = (rsF W p most ns n (co2 xss) k i j + powN W (p : Int) (most - k) * co ns k % W * owF W n (p ^ k) (pqF W n (co2 xss) (p ^ k - 1)) i j % W) % W
          rw [HRM.out, HFE.out, HX.out, HE1.out, HOW.out]
        rw [hr]
        refine (l01Pow_big W (p : Int) r _ hW (by omega) (by omega) (by omega) (by omega)).mono ?_
        rintro en w5 ⟨rfl, n5, rfl⟩
        rw [HFE.out]
        go_wp2_with (first | (go_at_call 120; refine (l03Scale_any _ W (f * x % W) _ _ _ n _ _ (HOQ.out.drewN n5) (Tri.tab n _) (co2_tab_num3 (by omega) n _ HOB.out) hW (by omega) hfm hn1 (by omega) rfl).mono ?_; rintro en w6 ⟨A6, c6, rfl, o6, hb6⟩; rw [length_tab] at *; have O6 := Lib.hid o6; have z6 : wq.heap.size ≤ w6.heap.size := hb6.size; have hb6' : Below wq.heap.size wq w6 := ⟨hb6.os, hb6.tape, hb6.output, hb6.size, hb6.block⟩; have HB6 := Lib.hid (HBQ.out.trans (hb6'.mono HBQ.out.size)); have HO6 := Lib.hid ((HOQ2.out.drewN n5).keep hb6); clear o6 hb6) | (go_at_call 119; refine (l03Add_any _ W _ _ _ _ _ n _ _ _ _ HO6.out (Tri.tab n _) (co2_tab_num3 (by omega) n _ (rsF_bd (by omega) p most ns n _ k)) O6.out (Tri.tab n _) (co2_tab_num3 (by omega) n _ (fun i j => ⟨Int.emod_nonneg _ (by omega), Int.emod_lt_of_pos _ (by omega)⟩)) hW (by omega) hn1 (by omega) HNX.out).mono ?_; rintro en w7 ⟨A7, c7, rfl, o7, hb7⟩; rw [length_tab] at *))
        go_roundw
        case rel => exact ⟨k + 1, e2, A7, c7, by omega, by omega, HE2, by go_num, rfl, rfl, o7.mono HB6.out.size (Nat.le_refl _), HB6.out.trans (hb7.mono HB6.out.size)⟩
        case measure => simp [intOf]; omega
      · have hen1 : ¬ (e : Int) + 1 ≤ (n : Int) - 1 := by omega
        have hd8 : decide ((e : Int) + 1 ≤ (n : Int) - 1) = false := by simp; omega
        have HOW : Hid (owF W n (p ^ k) (pqF W n (co2 xss) e) = pqF W n (co2 xss) e) := by unfold Hid owF; rw [← HE.out, if_neg hen]
        go_wp2_with (first | (go_at_call 139; refine (l09Power_any _ W (.slice A n cp) xss _ n e lo hi (HV.out.keep HB.out) HT.out HQ.out hW (by omega) hn1 (by omega) (by omega) HS.out rfl).mono ?_; rintro en w2 ⟨A2, c2, rfl, ⟨lo2, hi2, hh2, o2⟩, hb2⟩; have O2 := Lib.hid o2; have z2 := hb2.size; have HB2 := Lib.hid (HB.out.trans (hb2.mono hz)); have HO2 := Lib.hid (HO.out.keep hb2); clear o2 hb2) | (go_at_call 138; refine (l01Own2_any _ _ _ n lo2 hi2 O2.out (Tri.tab n _) hn1 (by omega)).mono ?_; rintro en w3 ⟨A3, c3, rfl, o3, hb3⟩; rw [length_tab] at *; have O3 := Lib.hid o3; have z3 := hb3.size; have HB3 := Lib.hid (HB2.out.trans (hb3.mono (by omega))); have HO3 := Lib.hid (HO2.out.keep hb3); clear o3 hb3))
        have HBQ := HB3
        have HOQ := O3
        have HOQ2 := HO3
        have HOB := Lib.hid (pqF_bd (show 0 < W by omega) n (co2 xss) (fun i j => HQ.out i j) e)
        obtain ⟨OW, hOW⟩ : ∃ OW, pqF W n (co2 xss) e = OW := ⟨_, rfl⟩
        have HOW2 : Hid (owF W n (p ^ k) (pqF W n (co2 xss) e) = OW) := by unfold Hid; rw [← hOW]; exact HOW.out
        clear HOW
        have HOW := HOW2
        rw [hOW] at HOB HOQ
        obtain ⟨wq, hwq⟩ : ∃ wq, wq = w3 := ⟨_, rfl⟩
        rw [← hwq] at HBQ HOQ HOQ2 ⊢
        clear hOW hwq O3 HO3 HB3
        obtain ⟨r, hr⟩ : ∃ r : Nat, (most : Int) - (k : Int) = (r : Int) := ⟨most - k, by omega⟩
        have hrm : most - k = r := by omega
        have HRM := Lib.hid hrm
        have v0 : IntKind.i64.wrap (r : Int) = (r : Int) := IntWalk.i64_in _ (by omega)
        obtain ⟨gn, rfl, -, hgn, hcn, -⟩ := HAN.out k (by omega)
        have hcn2 := (HBQ.out.cell (p := ⟨gn, k, none⟩) hgn).trans hcn
        have hnx := HNN.out k
        obtain ⟨x, hx⟩ : ∃ x, ns.getD k 0 = x := ⟨_, rfl⟩
        rw [hx] at hcn2 hnx
        have HX : Hid (co ns k = x) := hx
        clear hcn hx hrm
        have hf1 : 0 ≤ powN W (p : Int) r := Int.emod_nonneg _ (by omega)
        have hf2 : powN W (p : Int) r < W := Int.emod_lt_of_pos _ (by omega)
        obtain ⟨f, hf⟩ : ∃ f, powN W (p : Int) r = f := ⟨_, rfl⟩
        have HFE : Hid (powN W (p : Int) r = f) := hf
        rw [hf] at hf1 hf2
        clear hf
        have hfx := mul_bd' hf1 (show f ≤ 1000000 by omega) hnx.1 (show x ≤ 1000000 by omega)
        have v1 : IntKind.i64.wrap (f * x) = f * x := IntWalk.i64_in _ (by omega)
        have v2 : (f * x).tmod W = f * x % W := Int.tmod_eq_emod_of_nonneg (by omega)
        have v3 : (W == 0) = false := by simp; omega
        have v4 : ¬ W = 0 := by omega
        have hk0 : (0 : Int) ≤ (k : Int) := by omega
        have hkl : (k : Int) < (ns.length : Int) := by omega
        have hkl2 : k < ns.length := by omega
        have hfm := (⟨Int.emod_nonneg _ (by omega), Int.emod_lt_of_pos _ (by omega)⟩ : 0 ≤ f * x % W ∧ f * x % W < W)
        obtain ⟨e2, he2⟩ : ∃ e2, (e + 1) * p = e2 + 1 := ⟨(e + 1) * p - 1, by have := Nat.mul_le_mul (show 1 ≤ e + 1 by omega) (show 1 ≤ p by omega); omega⟩
        have HE2 : Hid (e2 + 1 = p ^ (k + 1)) := by unfold Hid; rw [← he2, Nat.pow_succ, HE.out]
        have he3 : e2 ≤ 2400 := by
          have h1 : p ^ (k + 1) ≤ 7 ^ (k + 1) := Nat.pow_le_pow_left hp' _
          have h2 : 7 ^ (k + 1) ≤ 7 ^ 4 := Nat.pow_le_pow_right (by omega) (by omega)
          have := HE2.out
          omega
        have hmul : ((e : Int) + 1) * (p : Int) = (e2 : Int) + 1 := by
          have h : (((e + 1) * p : Nat) : Int) = ((e2 + 1 : Nat) : Int) := by rw [he2]
          simpa using h
        have v5 : IntKind.i64.wrap (((e : Int) + 1) * (p : Int)) = (e2 : Int) + 1 := by rw [hmul]; exact IntWalk.i64_in _ (by omega)
        have v6 : IntKind.i64.wrap ((e2 : Int) + 1) = (e2 : Int) + 1 := IntWalk.i64_in _ (by omega)
        clear he2
        have HNX : Hid (tab n (fun i j => (co2 (tab n (rsF W p most ns n (co2 xss) k)) i j + co2 (tab n (fun i j => f * x % W * co2 (tab n OW) i j % W)) i j) % W) = tab n (rsF W p most ns n (co2 xss) (k + 1))) := tab_congr fun i j hij => by
          rw [co2_tab _ hij, co2_tab _ hij, co2_tab _ hij]
          show _ = (rsF W p most ns n (co2 xss) k i j + powN W (p : Int) (most - k) * co ns k % W * owF W n (p ^ k) (pqF W n (co2 xss) (p ^ k - 1)) i j % W) % W
          rw [HRM.out, HFE.out, HX.out, HE1.out, HOW.out]
        rw [hr]
        refine (l01Pow_big W (p : Int) r _ hW (by omega) (by omega) (by omega) (by omega)).mono ?_
        rintro en w5 ⟨rfl, n5, rfl⟩
        rw [HFE.out]
        go_wp2_with (first | (go_at_call 120; refine (l03Scale_any _ W (f * x % W) _ _ _ n _ _ (HOQ.out.drewN n5) (Tri.tab n _) (co2_tab_num3 (by omega) n _ HOB.out) hW (by omega) hfm hn1 (by omega) rfl).mono ?_; rintro en w6 ⟨A6, c6, rfl, o6, hb6⟩; rw [length_tab] at *; have O6 := Lib.hid o6; have z6 : wq.heap.size ≤ w6.heap.size := hb6.size; have hb6' : Below wq.heap.size wq w6 := ⟨hb6.os, hb6.tape, hb6.output, hb6.size, hb6.block⟩; have HB6 := Lib.hid (HBQ.out.trans (hb6'.mono HBQ.out.size)); have HO6 := Lib.hid ((HOQ2.out.drewN n5).keep hb6); clear o6 hb6) | (go_at_call 119; refine (l03Add_any _ W _ _ _ _ _ n _ _ _ _ HO6.out (Tri.tab n _) (co2_tab_num3 (by omega) n _ (rsF_bd (by omega) p most ns n _ k)) O6.out (Tri.tab n _) (co2_tab_num3 (by omega) n _ (fun i j => ⟨Int.emod_nonneg _ (by omega), Int.emod_lt_of_pos _ (by omega)⟩)) hW (by omega) hn1 (by omega) HNX.out).mono ?_; rintro en w7 ⟨A7, c7, rfl, o7, hb7⟩; rw [length_tab] at *))
        go_roundw
        case rel => exact ⟨k + 1, e2, A7, c7, by omega, by omega, HE2, by go_num, rfl, rfl, o7.mono HB6.out.size (Nat.le_refl _), HB6.out.trans (hb7.mono HB6.out.size)⟩
        case measure => simp [intOf]; omega
    · have hkm : k = most + 1 := by omega
      have hO := HO.out
      rw [hkm, HZ.out] at hO
      have HL : Hid (zss.length = n) := by unfold Hid; rw [← HZ.out, length_tab]
      have HO2 := Lib.hid hO
      clear hO
      have hd6 : decide ((k : Int) ≤ (most : Int)) = false := by simp; omega
      clear hkm
      go_wp2
      go_ret
      exact ⟨A', c', by rw [HL.out]; rfl, by rw [HL.out]; exact HO2.out, HB.out⟩

/-! ### TypicalFactor: the plain law -/
theorem allS_term {n : Nat} {f f' g g' : Nat → Nat → Int} {a b : Nat} (h : ∀ i j, i ≤ a → j ≤ b → f i j * g (a - i) (b - j) = f' i j * g' (a - i) (b - j)) : allS n f g n a b = allS n f' g' n a b := by
  unfold allS
  apply sumN_congr
  intro i _
  unfold rowS
  apply sumN_congr
  intro j _
  unfold fT
  by_cases hij : i ≤ a ∧ j ≤ b
  · rw [if_pos hij, if_pos hij]
    exact h i j hij.1 hij.2
  · rw [if_neg hij, if_neg hij]
theorem allS_addR (n : Nat) (f g g' : Nat → Nat → Int) (I a b : Nat) : allS n f (fun i j => g i j + g' i j) I a b = allS n f g I a b + allS n f g' I a b := by
  unfold allS
  rw [← sumN_add]
  apply sumN_congr
  intro i _
  unfold rowS
  rw [← sumN_add]
  apply sumN_congr
  intro j _
  unfold fT
  split
  · rw [Int.mul_add]
  · rfl
def linX (i j : Nat) : Int := if i = 1 ∧ j = 0 then 1 else 0
def linY (i j : Nat) : Int := if i = 0 ∧ j = 1 then 1 else 0
theorem allS_lin {n : Nat} {f : Nat → Nat → Int} {a b : Nat} (hab : a + b < n) : allS n f (fun i j => linX i j + linY i j) n a b = (if 1 ≤ a then f (a - 1) b else 0) + (if 1 ≤ b then f a (b - 1) else 0) := by
  rw [allS_addR, allS_single2 (p := 1) (q := 0) hab (fun i j _ h => by unfold linX; rw [if_neg h]), allS_single2 (p := 0) (q := 1) hab (fun i j _ h => by unfold linY; rw [if_neg h])]
  simp [linX, linY]
/-- The binomial numbers. -/
def biN : Nat → Nat → Int
  | 0, 0 => 1
  | 0, _ + 1 => 0
  | _ + 1, 0 => 1
  | n + 1, k + 1 => biN n k + biN n (k + 1)
theorem biN_gt : ∀ n k, n < k → biN n k = 0
  | 0, 0, h => by omega
  | 0, _ + 1, _ => rfl
  | _ + 1, 0, h => by omega
  | n + 1, k + 1, h => by
    show biN n k + biN n (k + 1) = 0
    rw [biN_gt n k (by omega), biN_gt n (k + 1) (by omega)]
    rfl
theorem biN_zero (n : Nat) : biN n 0 = 1 := by cases n <;> rfl
theorem pq_low {W : Int} (hW : 2 ≤ W) {n : Nat} {F : Nat → Nat → Int} (h0 : F 0 0 = 0) (h1 : F 1 0 = 1) (h2 : F 0 1 = 1) : ∀ e a b, a + b < n → (a + b < e + 1 → pqF W n F e a b = 0) ∧ (a + b = e + 1 → pqF W n F e a b = biN (e + 1) a % W)
  | 0, a, b, hab => by
    have e1 : (1 : Int) % W = 1 := Int.emod_eq_of_lt (by omega) (by omega)
    refine ⟨fun h => ?_, fun h => ?_⟩
    · obtain rfl : a = 0 := by omega
      obtain rfl : b = 0 := by omega
      exact h0
    · by_cases ha : a = 0
      · subst ha
        obtain rfl : b = 1 := by omega
        show F 0 1 = 1 % W
        rw [e1, h2]
      · obtain rfl : a = 1 := by omega
        obtain rfl : b = 0 := by omega
        show F 1 0 = (1 + 0) % W
        rw [h1]
        simp [e1]
  | e + 1, a, b, hab => by
    have ih := pq_low (n := n) hW h0 h1 h2 e
    have key : a + b ≤ e + 2 → allS n (pqF W n F e) F n a b = allS n (pqF W n F e) (fun i j => linX i j + linY i j) n a b := fun hle => allS_term fun i j hi hj => by
      by_cases hlt : i + j < e + 1
      · rw [(ih i j (by omega)).1 hlt, Int.zero_mul, Int.zero_mul]
      · have hF : F (a - i) (b - j) = linX (a - i) (b - j) + linY (a - i) (b - j) := by
          rcases Nat.lt_or_ge 0 (a - i) with hx | hx
          · rw [show a - i = 1 by omega, show b - j = 0 by omega, h1]
            simp [linX, linY]
          · rw [show a - i = 0 by omega]
            rcases Nat.lt_or_ge 0 (b - j) with hy | hy
            · rw [show b - j = 1 by omega, h2]
              simp [linX, linY]
            · rw [show b - j = 0 by omega, h0]
              simp [linX, linY]
        rw [hF]
    refine ⟨fun h => ?_, fun h => ?_⟩
    · show allS n (pqF W n F e) F n a b % W = 0
      rw [key (by omega), allS_lin hab]
      have z1 : (if 1 ≤ a then pqF W n F e (a - 1) b else 0) = 0 := by
        split
        · exact (ih _ _ (by omega)).1 (by omega)
        · rfl
      have z2 : (if 1 ≤ b then pqF W n F e a (b - 1) else 0) = 0 := by
        split
        · exact (ih _ _ (by omega)).1 (by omega)
        · rfl
      rw [z1, z2]
      simp
    · show allS n (pqF W n F e) F n a b % W = biN (e + 2) a % W
      rw [key (by omega), allS_lin hab]
      rcases a with _ | a
      · rw [if_neg (by omega), if_pos (by omega), (ih 0 (b - 1) (by omega)).2 (by omega), biN_zero, biN_zero, Int.zero_add, Int.emod_emod]
      · rw [if_pos (by omega), show a + 1 - 1 = a by omega, (ih a b (by omega)).2 (by omega)]
        show _ = (biN (e + 1) a + biN (e + 1) (a + 1)) % W
        by_cases hb : 1 ≤ b
        · rw [if_pos hb, (ih (a + 1) (b - 1) (by omega)).2 (by omega), ← Int.add_emod]
        · rw [if_neg hb, biN_gt (e + 1) (a + 1) (by omega), Int.add_zero, Int.add_zero, Int.emod_emod]
/-- The coefficients of the typical law modulo W, as far as degree t + 1. -/
def lwF (W : Int) (p most : Nat) (top : Int) (ns : List Int) : Nat → Nat → Nat → Int
  | 0 => fun i j => if (i = 1 ∧ j = 0) ∨ (i = 0 ∧ j = 1) then 1 else 0
  | t + 1 => fun i j => if 1 ≤ i ∧ 1 ≤ j ∧ i + j = t + 2 then (-(rsF W p most ns (t + 3) (co2 (tab (t + 3) (lwF W p most top ns t))) (most + 1) i j / top)) % W else lwF W p most top ns t i j
theorem lwF_bd {W : Int} (hW : 2 ≤ W) (p most : Nat) (top : Int) (ns : List Int) : ∀ t i j, 0 ≤ lwF W p most top ns t i j ∧ lwF W p most top ns t i j < W
  | 0, i, j => by
    unfold lwF
    split <;> omega
  | t + 1, i, j => by
    unfold lwF
    split
    · exact ⟨Int.emod_nonneg _ (by omega), Int.emod_lt_of_pos _ (by omega)⟩
    · exact lwF_bd hW p most top ns t i j
theorem lwF_edge (W : Int) (p most : Nat) (top : Int) (ns : List Int) (i j : Nat) (h : ¬ (1 ≤ i ∧ 1 ≤ j)) : ∀ t, lwF W p most top ns t i j = if (i = 1 ∧ j = 0) ∨ (i = 0 ∧ j = 1) then 1 else 0
  | 0 => rfl
  | t + 1 => by
    unfold lwF
    rw [if_neg (by omega)]
    exact lwF_edge W p most top ns i j h t
theorem rsF_same {W : Int} {p most n k : Nat} {A B : List Int} {F : Nat → Nat → Int} (h : ∀ l, l < k → co A l = co B l) (i j : Nat) : ∀ kk, kk ≤ k → rsF W p most A n F kk i j = rsF W p most B n F kk i j
  | 0, _ => rfl
  | kk + 1, hk => by
    unfold rsF
    rw [rsF_same h i j kk (by omega), h kk (by omega)]
theorem lw_low {W : Int} (hW : 2 ≤ W) (p most : Nat) (top : Int) (ns : List Int) (t e a b n : Nat) (hn : 2 ≤ n) (hab : a + b < n) : (a + b < e + 1 → pqF W n (co2 (tab n (lwF W p most top ns t))) e a b = 0) ∧ (a + b = e + 1 → pqF W n (co2 (tab n (lwF W p most top ns t))) e a b = biN (e + 1) a % W) :=
  pq_low hW (by rw [co2_tab _ (by omega), lwF_edge _ _ _ _ _ _ _ (by omega)]; simp) (by rw [co2_tab _ (by omega), lwF_edge _ _ _ _ _ _ _ (by omega)]; simp) (by rw [co2_tab _ (by omega), lwF_edge _ _ _ _ _ _ _ (by omega)]; simp) e a b hab
theorem lw_same {W : Int} (hW : 2 ≤ W) {p k : Nat} {top : Int} {A B : List Int} (h : ∀ l, l < k → co A l = co B l) (hq : 2 ≤ p ^ k) : ∀ t, t + 2 ≤ p ^ k → lwF W p k top A t = lwF W p k top B t
  | 0, _ => rfl
  | t + 1, ht => by
    have ih := lw_same (top := top) hW h hq t (by omega)
    funext i j
    unfold lwF
    rw [ih]
    split
    · rename_i hij
      have e : rsF W p k A (t + 3) (co2 (tab (t + 3) (lwF W p k top B t))) (k + 1) i j = rsF W p k B (t + 3) (co2 (tab (t + 3) (lwF W p k top B t))) (k + 1) i j := by
        show (rsF W p k A _ _ k i j + powN W (p : Int) (k - k) * co A k % W * owF W (t + 3) (p ^ k) _ i j % W) % W = (rsF W p k B _ _ k i j + powN W (p : Int) (k - k) * co B k % W * owF W (t + 3) (p ^ k) _ i j % W) % W
        rw [rsF_same h i j k (Nat.le_refl _)]
        unfold owF
        rw [if_neg (by omega), (lw_low hW p k top B t (p ^ k - 1) i j (t + 3) (by omega) (by omega)).1 (by omega), Int.mul_zero, Int.mul_zero]
      rw [e]
    · rfl
theorem em_of {x y m z : Int} (h : x = y + m * z) : x % m = y % m := by rw [h, Int.add_mul_emod_self_left]
theorem em_to {x y m : Int} (h : x % m = y % m) : ∃ z, x = y + m * z := by
  have := Int.emod_eq_emod_iff_emod_sub_eq_zero.1 h
  obtain ⟨z, hz⟩ := Int.dvd_of_emod_eq_zero this
  exact ⟨z, by omega⟩
theorem em_self (x m : Int) : ∃ z, x % m = x + m * z := em_to (Int.emod_emod _ _)
/-- The sum at the highest degree, modulo W. -/
theorem lw_rest {W : Int} (hW : 2 ≤ W) {p k : Nat} {top : Int} {A : List Int} (ns : List Int) (hq : 2 ≤ p ^ k) (i j : Nat) (hi : 1 ≤ i) (hj : 1 ≤ j) (hij : i + j = p ^ k) : ∃ z, rsF W p k A (p ^ k + 1) (co2 (tab (p ^ k + 1) (lwF W p k top ns (p ^ k - 2)))) (k + 1) i j = rsF W p k A (p ^ k + 1) (co2 (tab (p ^ k + 1) (lwF W p k top ns (p ^ k - 2)))) k i j + co A k * biN (p ^ k) i + W * z := by
  have ho : owF W (p ^ k + 1) (p ^ k) (pqF W (p ^ k + 1) (co2 (tab (p ^ k + 1) (lwF W p k top ns (p ^ k - 2)))) (p ^ k - 1)) i j = biN (p ^ k) i % W := by
    unfold owF upd2
    rw [if_pos (by omega), if_neg (by omega), if_neg (by omega), (lw_low hW p k top ns (p ^ k - 2) (p ^ k - 1) i j (p ^ k + 1) (by omega) (by omega)).2 (by omega), show p ^ k - 1 + 1 = p ^ k by omega]
  apply em_to
  show (rsF W p k A _ _ k i j + powN W (p : Int) (k - k) * co A k % W * owF W (p ^ k + 1) (p ^ k) _ i j % W) % W % W = _
  rw [ho, Int.emod_emod, Int.add_emod, Int.emod_emod, Int.add_emod (rsF W p k A _ _ k i j)]
  congr 2
  have e1 : powN W (p : Int) (k - k) = 1 := by
    unfold powN
    rw [Nat.sub_self, Int.pow_zero]
    exact Int.emod_eq_of_lt (by omega) (by omega)
  rw [e1, Int.one_mul, ← Int.mul_emod]
/-- At the highest degree the coefficients differ by -c C. -/
theorem lw_top {W m c eps C : Int} (hm : 2 ≤ m) {p k : Nat} (hp : 2 ≤ p) {A B : List Int} (hWm : W = m * (p : Int) ^ k * (p : Int)) (hW : 2 ≤ W) (h : ∀ l, l < k → co A l = co B l) (hk : ∃ z, co B k = co A k + (p : Int) ^ (k - 1) * (c - eps * m) + W * z) (hk1 : 1 ≤ k) (hq : 2 ≤ p ^ k) (i j : Nat) (hi : 1 ≤ i) (hj : 1 ≤ j) (hij : i + j = p ^ k) (hC : biN (p ^ k) i = (p : Int) * C) : lwF W p k ((p : Int) ^ k) B (p ^ k - 1) i j % m = (lwF W p k ((p : Int) ^ k) A (p ^ k - 1) i j - c * C) % m := by
  obtain ⟨t, ht⟩ : ∃ t, p ^ k = t + 2 := ⟨p ^ k - 2, by omega⟩
  obtain ⟨z0, hz0⟩ := hk
  have hs := lw_same (top := (p : Int) ^ k) hW h hq (p ^ k - 2) (by omega)
  obtain ⟨zA, hA⟩ := lw_rest (top := (p : Int) ^ k) (A := A) hW A hq i j hi hj hij
  obtain ⟨zB, hB⟩ := lw_rest (top := (p : Int) ^ k) (A := B) hW B hq i j hi hj hij
  rw [← hs, ← rsF_same h i j k (Nat.le_refl _)] at hB
  have hpp : (p : Int) ^ k = (p : Int) ^ (k - 1) * (p : Int) := by rw [← Int.pow_succ, Nat.succ_eq_add_one, show k - 1 + 1 = k by omega]
  have htop : (0 : Int) < (p : Int) ^ k := Int.pow_pos (by omega)
  have eA : lwF W p k ((p : Int) ^ k) A (p ^ k - 1) i j = (-(rsF W p k A (p ^ k + 1) (co2 (tab (p ^ k + 1) (lwF W p k ((p : Int) ^ k) A (p ^ k - 2)))) (k + 1) i j / (p : Int) ^ k)) % W := by
    rw [ht, show t + 2 - 1 = t + 1 by omega, show t + 2 - 2 = t by omega]
    show (if 1 ≤ i ∧ 1 ≤ j ∧ i + j = t + 2 then _ else _) = _
    rw [if_pos (by omega)]
  have eB : lwF W p k ((p : Int) ^ k) B (p ^ k - 1) i j = (-(rsF W p k B (p ^ k + 1) (co2 (tab (p ^ k + 1) (lwF W p k ((p : Int) ^ k) A (p ^ k - 2)))) (k + 1) i j / (p : Int) ^ k)) % W := by
    rw [hs, ht, show t + 2 - 1 = t + 1 by omega, show t + 2 - 2 = t by omega]
    show (if 1 ≤ i ∧ 1 ≤ j ∧ i + j = t + 2 then _ else _) = _
    rw [if_pos (by omega)]
  rw [eA, eB]
  clear eA eB hs
  generalize rsF W p k A (p ^ k + 1) (co2 (tab (p ^ k + 1) (lwF W p k ((p : Int) ^ k) A (p ^ k - 2)))) (k + 1) i j = rA at *
  generalize rsF W p k B (p ^ k + 1) (co2 (tab (p ^ k + 1) (lwF W p k ((p : Int) ^ k) A (p ^ k - 2)))) (k + 1) i j = rB at *
  generalize rsF W p k A (p ^ k + 1) (co2 (tab (p ^ k + 1) (lwF W p k ((p : Int) ^ k) A (p ^ k - 2)))) k i j = S at *
  rw [hC] at hA hB
  generalize co A k = a at *
  generalize co B k = b at *
  have hr : rB = rA + (p : Int) ^ k * ((c - eps * m) * C + m * (p : Int) * (z0 * ((p : Int) * C) + zB - zA)) := by
    rw [hB, hA, hz0, hWm, hpp]
    generalize (p : Int) ^ (k - 1) = P
    generalize (p : Int) = q
    simp only [Int.mul_add, Int.add_mul, Int.mul_sub, Int.sub_mul]
    ac_nf
    omega
  rw [hr, Int.add_mul_ediv_left _ _ (by omega)]
  generalize rA / (p : Int) ^ k = x
  obtain ⟨z1, hz1⟩ := em_self (-x) W
  obtain ⟨z2, hz2⟩ := em_self (-(x + ((c - eps * m) * C + m * (p : Int) * (z0 * ((p : Int) * C) + zB - zA)))) W
  rw [hz1, hz2]
  apply em_of (z := eps * C - (p : Int) * (z0 * ((p : Int) * C) + zB - zA) + (p : Int) ^ k * (p : Int) * z2 - (p : Int) ^ k * (p : Int) * z1)
  rw [hWm]
  generalize (p : Int) ^ k = P
  generalize (p : Int) = q
  simp only [Int.mul_add, Int.mul_sub, Int.sub_mul, Int.neg_add]
  ac_nf
  omega
theorem nmTo_congr (m : Int) (p : Nat) (xs ys : List Int) : ∀ j, (∀ l, l < j → co xs l = co ys l) → nmTo m p xs j = nmTo m p ys j
  | 0, _ => rfl
  | j + 1, h => by
    have ih := nmTo_congr m p xs ys j fun l hl => h l (by omega)
    have hs : ∀ out i, i ≤ j + 1 → nmS m p xs out (j + 1) i = nmS m p ys out (j + 1) i := by
      intro out i
      induction i with
      | zero => intro _; rfl
      | succ i ih2 =>
        intro hi
        unfold nmS
        rw [ih2 (by omega), h (j + 1 - i - 1) (by omega)]
    show nmTo m p xs j ++ [nmS m p xs (nmTo m p xs j) (j + 1) (j + 1)] = nmTo m p ys j ++ [nmS m p ys (nmTo m p ys j) (j + 1) (j + 1)]
    rw [ih, hs _ _ (Nat.le_refl _)]
theorem nmTo_co (m : Int) (p : Nat) (xs : List Int) (j : Nat) : ∀ t, j + 1 ≤ t → co (nmTo m p xs t) (j + 1) = nmS m p xs (nmTo m p xs j) (j + 1) (j + 1)
  | 0, h => by omega
  | t + 1, h => by
    show co (nmTo m p xs t ++ [nmS m p xs (nmTo m p xs t) (t + 1) (t + 1)]) (j + 1) = _
    unfold co
    rw [List.getD_eq_getElem?_getD]
    by_cases hj : j = t
    · subst hj
      rw [List.getElem?_append_right (by rw [length_nmTo]; omega), length_nmTo]
      simp
    · rw [List.getElem?_append_left (by rw [length_nmTo]; omega), ← List.getD_eq_getElem?_getD]
      exact nmTo_co m p xs j t (by omega)
theorem nmTo_co0 (m : Int) (p : Nat) (xs : List Int) : ∀ t, co (nmTo m p xs t) 0 = 1 % m
  | 0 => rfl
  | t + 1 => by
    show co (nmTo m p xs t ++ [_]) 0 = _
    unfold co
    rw [List.getD_eq_getElem?_getD, List.getElem?_append_left (by rw [length_nmTo]; omega), ← List.getD_eq_getElem?_getD]
    exact nmTo_co0 m p xs t
/-- Numerator number j + 1 if parameter number j changes by D. -/
theorem nmS_diff {W : Int} (hW : 2 ≤ W) (p : Nat) {xs ys out : List Int} {j : Nat} {D : Int} (h : ∀ l, l < j → co xs l = co ys l) (hj : co ys j = co xs j + D) (h0 : co out 0 = 1) : ∀ i, i ≤ j → ∃ z, nmS W p ys out (j + 1) (i + 1) = nmS W p xs out (j + 1) (i + 1) + (p : Int) ^ j * D + W * z
  | 0, _ => by
    have e : ∀ zs : List Int, nmS W p zs out (j + 1) 1 % W = ((p : Int) ^ j * co zs j) % W := fun zs => by
      show (0 + powN W (p : Int) (j + 1 - 1 - 0) * co out 0 % W * powN W (co zs (j + 1 - 0 - 1)) (p ^ 0)) % W % W = _
      rw [h0, Int.mul_one, Int.zero_add, Int.emod_emod]
      simp only [powN, Nat.add_sub_cancel, Nat.sub_zero, Nat.pow_zero]
      rw [Int.emod_emod, ← Int.mul_emod, Int.pow_succ, Int.pow_zero, Int.one_mul]
    obtain ⟨a, ha⟩ := em_to (e xs)
    obtain ⟨b, hb⟩ := em_to (e ys)
    refine ⟨b - a, ?_⟩
    rw [ha, hb, hj, Int.mul_add, Int.mul_sub]
    omega
  | i + 1, hi => by
    obtain ⟨z, hz⟩ := nmS_diff hW p h hj h0 i (by omega)
    show ∃ z, (nmS W p ys out (j + 1) (i + 1) + powN W (p : Int) (j + 1 - 1 - (i + 1)) * co out (i + 1) % W * powN W (co ys (j + 1 - (i + 1) - 1)) (p ^ (i + 1))) % W = (nmS W p xs out (j + 1) (i + 1) + powN W (p : Int) (j + 1 - 1 - (i + 1)) * co out (i + 1) % W * powN W (co xs (j + 1 - (i + 1) - 1)) (p ^ (i + 1))) % W + (p : Int) ^ j * D + W * z
    rw [h (j + 1 - (i + 1) - 1) (by omega), hz]
    generalize powN W (p : Int) (j + 1 - 1 - (i + 1)) * co out (i + 1) % W * powN W (co ys (j + 1 - (i + 1) - 1)) (p ^ (i + 1)) = T
    obtain ⟨a, ha⟩ := em_self (nmS W p xs out (j + 1) (i + 1) + T) W
    obtain ⟨b, hb⟩ := em_self (nmS W p xs out (j + 1) (i + 1) + (p : Int) ^ j * D + W * z + T) W
    refine ⟨z + b - a, ?_⟩
    rw [ha, hb, Int.mul_sub, Int.mul_add]
    omega
theorem co_pad3 (xs : List Int) (l : Nat) : co (pad3 xs) l = co xs l := by
  unfold co pad3
  simp only [List.getD_eq_getElem?_getD, List.getElem?_append]
  split
  · rfl
  · rename_i h
    rw [List.getElem?_eq_none (l := xs) (by omega), List.getElem?_replicate]
    split <;> rfl
theorem co_set (xs : List Int) (k : Nat) (y : Int) (l : Nat) : co (xs.set k y) l = if l = k ∧ k < xs.length then y else co xs l := by
  unfold co
  simp only [List.getD_eq_getElem?_getD, List.getElem?_set]
  by_cases h : k = l
  · subst h
    by_cases h2 : k < xs.length
    · simp [h2]
    · simp [h2]
  · rw [if_neg h, if_neg (by omega)]
theorem nm_lists {W m c : Int} (hW : 2 ≤ W) (p : Nat) {xs : List Int} {k : Nat} (hl : xs.length ≤ 3) (hk1 : 1 ≤ k) (hk2 : k ≤ xs.length) : (∀ l, l < k → co (nmL W p (pad3 xs)) l = co (nmL W p (pad3 (xs.set (k - 1) ((co xs (k - 1) + c) % m)))) l) ∧ ∃ z, co (nmL W p (pad3 (xs.set (k - 1) ((co xs (k - 1) + c) % m)))) k = co (nmL W p (pad3 xs)) k + (p : Int) ^ (k - 1) * (c - (co xs (k - 1) + c) / m * m) + W * z := by
  obtain ⟨j, rfl⟩ : ∃ j, k = j + 1 := ⟨k - 1, by omega⟩
  rw [Nat.add_sub_cancel]
  obtain ⟨ys, hys⟩ : ∃ ys, xs.set j ((co xs j + c) % m) = ys := ⟨_, rfl⟩
  have hyl : ys.length = xs.length := by rw [← hys, List.length_set]
  have hj : co (pad3 ys) j = co (pad3 xs) j + (c - (co xs j + c) / m * m) := by
    rw [co_pad3, co_pad3, ← hys, co_set, if_pos (by omega)]
    have := Int.emod_add_mul_ediv (co xs j + c) m
    rw [Int.mul_comm] at this
    omega
  have hlo : ∀ l, l ≠ j → co (pad3 xs) l = co (pad3 ys) l := fun l hl => by
    rw [co_pad3, co_pad3, ← hys, co_set, if_neg (by omega)]
  rw [hys]
  unfold nmL
  rw [length_pad3 hl, length_pad3 (by omega)]
  have hT := nmTo_congr W p (pad3 xs) (pad3 ys) j fun l hl => hlo l (by omega)
  refine ⟨fun l hl => ?_, ?_⟩
  · rcases l with _ | l
    · rw [nmTo_co0, nmTo_co0]
    · have e := nmTo_congr W p (pad3 xs) (pad3 ys) (l + 1) fun l2 hl => hlo l2 (by omega)
      have e1 := nmTo_co W p (pad3 xs) l (l + 1) (by omega)
      have e2 := nmTo_co W p (pad3 ys) l (l + 1) (by omega)
      rw [nmTo_co W p (pad3 xs) l 3 (by omega), nmTo_co W p (pad3 ys) l 3 (by omega), ← e1, ← e2, e]
  · rw [nmTo_co W p (pad3 xs) j 3 (by omega), nmTo_co W p (pad3 ys) j 3 (by omega), ← hT]
    exact nmS_diff hW p (fun l hl => hlo l (by omega)) hj (by rw [nmTo_co0]; exact Int.emod_eq_of_lt (by omega) (by omega)) j (Nat.le_refl _)
/-- The primes and exponents at hand. -/
def pkB (p k : Nat) : Bool := (p == 2 && (k == 1 || k == 2 || k == 3)) || (p == 3 && (k == 1 || k == 2)) || (p == 5 && k == 1) || (p == 7 && k == 1)
theorem pk_cases {p k : Nat} (h : pkB p k = true) : (p = 2 ∧ k = 1) ∨ (p = 2 ∧ k = 2) ∨ (p = 2 ∧ k = 3) ∨ (p = 3 ∧ k = 1) ∨ (p = 3 ∧ k = 2) ∨ (p = 5 ∧ k = 1) ∨ (p = 7 ∧ k = 1) := by
  unfold pkB at h
  simp only [Bool.or_eq_true, Bool.and_eq_true, beq_iff_eq] at h
  omega
def cocC (d i : Nat) : Int := binN (d : Int) (i : Int) / lazN (d : Int) d
theorem pk_bin {p k : Nat} (h : pkB p k = true) : ∀ i, i < p ^ k → 1 ≤ i → biN (p ^ k) i = (p : Int) * cocC (p ^ k) i := by
  rcases pk_cases h with ⟨rfl, rfl⟩ | ⟨rfl, rfl⟩ | ⟨rfl, rfl⟩ | ⟨rfl, rfl⟩ | ⟨rfl, rfl⟩ | ⟨rfl, rfl⟩ | ⟨rfl, rfl⟩ <;> decide +kernel
/-- One combination of the numbers C(i) is 1. -/
theorem pk_one {p k : Nat} (h : pkB p k = true) : ∃ i j : Nat, ∃ a b : Int, 1 ≤ i ∧ i < p ^ k ∧ 1 ≤ j ∧ j < p ^ k ∧ a * cocC (p ^ k) i + b * cocC (p ^ k) j = 1 := by
  rcases pk_cases h with ⟨rfl, rfl⟩ | ⟨rfl, rfl⟩ | ⟨rfl, rfl⟩ | ⟨rfl, rfl⟩ | ⟨rfl, rfl⟩ | ⟨rfl, rfl⟩ | ⟨rfl, rfl⟩
  · exact ⟨1, 1, 1, 0, by decide +kernel⟩
  · exact ⟨2, 1, 1, -1, by decide +kernel⟩
  · exact ⟨1, 4, 9, -1, by decide +kernel⟩
  · exact ⟨1, 1, 1, 0, by decide +kernel⟩
  · exact ⟨3, 1, 1, -9, by decide +kernel⟩
  · exact ⟨1, 1, 1, 0, by decide +kernel⟩
  · exact ⟨1, 1, 1, 0, by decide +kernel⟩
theorem pk_two {p k : Nat} (h : pkB p k = true) : 2 ≤ p ^ k ∧ p ^ k ≤ 9 ∧ p ^ k * p ≤ 49 ∧ 2 ≤ p ∧ p ≤ 7 ∧ 1 ≤ k ∧ k ≤ 3 := by
  rcases pk_cases h with ⟨rfl, rfl⟩ | ⟨rfl, rfl⟩ | ⟨rfl, rfl⟩ | ⟨rfl, rfl⟩ | ⟨rfl, rfl⟩ | ⟨rfl, rfl⟩ | ⟨rfl, rfl⟩ <;> decide
/-- The modulus in which the law is found. -/
def bigW (p : Nat) (m : Int) (k : Nat) : Int := m * (p : Int) ^ k * (p : Int)
/-- The coefficients of the typical law of degree p^k. -/
def lawG (p : Nat) (m : Int) (k : Nat) (xs : List Int) (i j : Nat) : Int := lwF (bigW p m k) p k ((p : Int) ^ k) (nmL (bigW p m k) p (pad3 xs)) (p ^ k - 1) i j % m
def gapG (p : Nat) (m : Int) (k : Nat) (xs ys : List Int) (i j : Nat) : Int := (lawG p m k ys i j + (m - 1) * lawG p m k xs i j % m) % m
def baseG (m : Int) (d i : Nat) : Int := if 1 ≤ i ∧ i < d then cocC d i % m else 0
theorem bigW_ge {p k : Nat} {m : Int} (h : pkB p k = true) (hm : 2 ≤ m) (hm' : m ≤ 10000) : 2 ≤ bigW p m k ∧ bigW p m k ≤ 1000000 := by
  have := pk_two h
  unfold bigW
  rcases pk_cases h with ⟨rfl, rfl⟩ | ⟨rfl, rfl⟩ | ⟨rfl, rfl⟩ | ⟨rfl, rfl⟩ | ⟨rfl, rfl⟩ | ⟨rfl, rfl⟩ | ⟨rfl, rfl⟩ <;> simp <;> omega
theorem gap_at {p k : Nat} {m c : Int} {xs : List Int} (h : pkB p k = true) (hm : 2 ≤ m) (hm' : m ≤ 10000) (hl : xs.length ≤ 3) (hk2 : k ≤ xs.length) (i : Nat) (hi : i ≤ p ^ k) : gapG p m k xs (xs.set (k - 1) ((co xs (k - 1) + c) % m)) i (p ^ k - i) = ((-c) % m) * baseG m (p ^ k) i % m := by
  have h2 := pk_two h
  have hW := bigW_ge h hm hm'
  unfold gapG baseG
  by_cases hin : 1 ≤ i ∧ i < p ^ k
  · rw [if_pos hin]
    obtain ⟨hn1, hn2⟩ := nm_lists (m := m) (c := c) hW.1 p hl (show 1 ≤ k by omega) hk2
    have ht := lw_top (m := m) (c := c) (C := cocC (p ^ k) i) hm (show 2 ≤ p by omega) rfl hW.1 hn1 hn2 (by omega) h2.1 i (p ^ k - i) hin.1 (by omega) (by omega) (pk_bin h i hin.2 hin.1)
    unfold lawG
    have ht2 : lwF (bigW p m k) p k ((p : Int) ^ k) (nmL (bigW p m k) p (pad3 (xs.set (k - 1) ((co xs (k - 1) + c) % m)))) (p ^ k - 1) i (p ^ k - i) % m = (lwF (bigW p m k) p k ((p : Int) ^ k) (nmL (bigW p m k) p (pad3 xs)) (p ^ k - 1) i (p ^ k - i) - c * cocC (p ^ k) i) % m := ht
    rw [ht2]
    generalize lwF (bigW p m k) p k ((p : Int) ^ k) (nmL (bigW p m k) p (pad3 xs)) (p ^ k - 1) i (p ^ k - i) = x
    generalize cocC (p ^ k) i = C
    obtain ⟨z1, hz1⟩ := em_self (x - c * C) m
    obtain ⟨z2, hz2⟩ := em_self x m
    obtain ⟨z3, hz3⟩ := em_self ((m - 1) * (x % m)) m
    rw [← Int.mul_emod, hz1, hz3, hz2]
    apply em_of (z := z1 + x + (m - 1) * z2 + z3)
    simp only [Int.mul_add, Int.mul_sub, Int.sub_mul, Int.neg_mul]
    ac_nf
    omega
  · rw [if_neg hin]
    unfold lawG
    rw [lwF_edge _ _ _ _ _ _ _ (by omega), lwF_edge _ _ _ _ _ _ _ (by omega), if_neg (by omega)]
    simp
theorem gap_only {p k : Nat} {m c : Int} {xs : List Int} (h : pkB p k = true) (hm : 2 ≤ m) (hm' : m ≤ 10000) (hl : xs.length ≤ 3) (hk2 : k ≤ xs.length) (c' : Int) (h0 : 0 ≤ c') (h1 : c' < m) (hf : ∀ i, i ≤ p ^ k → c' * baseG m (p ^ k) i % m = gapG p m k xs (xs.set (k - 1) ((co xs (k - 1) + c) % m)) i (p ^ k - i)) : c' = (-c) % m := by
  obtain ⟨i, j, a, b, hi1, hi2, hj1, hj2, hab⟩ := pk_one h
  have fi := hf i (by omega)
  have fj := hf j (by omega)
  rw [gap_at h hm hm' hl hk2 i (by omega)] at fi
  rw [gap_at h hm hm' hl hk2 j (by omega)] at fj
  unfold baseG at fi fj
  rw [if_pos (by omega)] at fi
  rw [if_pos (by omega)] at fj
  have ei : c' * cocC (p ^ k) i % m = -c * cocC (p ^ k) i % m := by rw [Int.mul_emod, Int.mul_emod (-c)]; rw [Int.mul_emod, Int.emod_emod] at fi; rw [fi]; try rw [Int.emod_emod]
  have ej : c' * cocC (p ^ k) j % m = -c * cocC (p ^ k) j % m := by rw [Int.mul_emod, Int.mul_emod (-c)]; rw [Int.mul_emod, Int.emod_emod] at fj; rw [fj]; try rw [Int.emod_emod]
  obtain ⟨z1, hz1⟩ := em_to ei
  obtain ⟨z2, hz2⟩ := em_to ej
  have e : c' = -c + m * (a * z1 + b * z2) := by
    have q : c' * (a * cocC (p ^ k) i + b * cocC (p ^ k) j) = a * (c' * cocC (p ^ k) i) + b * (c' * cocC (p ^ k) j) := by
      simp only [Int.mul_add]
      ac_rfl
    rw [hab, hz1, hz2, Int.mul_one] at q
    rw [q]
    have q2 : a * (-c * cocC (p ^ k) i + m * z1) + b * (-c * cocC (p ^ k) j + m * z2) = -c * (a * cocC (p ^ k) i + b * cocC (p ^ k) j) + m * (a * z1 + b * z2) := by
      simp only [Int.mul_add]
      ac_rfl
    rw [q2, hab, Int.mul_one]
  have := em_of e
  rw [Int.emod_eq_of_lt h0 h1] at this
  exact this

end Go.Proofs.Ytfdklbimdkaaiaa
