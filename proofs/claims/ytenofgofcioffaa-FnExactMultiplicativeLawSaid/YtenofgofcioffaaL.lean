/- Contracts over this seat's translation. Condition: each contract's own. -/
import Derived.Test.YtenofgofcioffaaK
import Derived.ProofKit
import Derived.OpenShut
import Derived.Below
import Derived.ChangeSame
import Derived.Deep.Modes
import Derived.Lib.SmallJoins
import Derived.ChangeSlices
import Derived.WalkKit
import Derived.WalkSpells
import Derived.WalkLawsBesides
import Derived.Deep.QuietTactic
import Derived.BigQuiet
import Derived.Deep.RegionHeld3
import Derived.Deep.RegionWith
import Derived.Deep.RegionLaw
import Derived.Deep.AppendLies
import Derived.Laws.CopyOwn
import Derived.Deep.DeepCutAuto
import Derived.Deep.OwnRows
import Derived.Deep.LoopGhost
import Derived.Deep.DeepFit
import Derived.Deep.DeepMust
import Derived.Deep.Draws
import Derived.Deep.CutRange
import Derived.Maps.AppendAt
import Derived.Lib.Hide
import Derived.StillTailTactics
import Derived.Laws.MakeOwn
import Derived.Deep.Matrix
set_option linter.unusedVariables false
open Go Go.RowKit
namespace Go.Proofs.Ytenofgofcioffaa
/-! ### Powers -/
theorem pow_mod (a m : Int) (n : Nat) : (a % m) ^ n % m = a ^ n % m := by
  induction n with
  | zero => simp
  | succ n ih => rw [Int.pow_succ, Int.pow_succ, Int.mul_emod, ih, Int.emod_emod, ← Int.mul_emod]
theorem sq_pow (x : Int) (j : Nat) : (x * x) ^ j = x ^ (2 * j) := by
  induction j with
  | zero => simp
  | succ j ih => rw [Int.pow_succ, ih, show 2 * (j + 1) = 2 * j + 1 + 1 by omega, Int.pow_succ, Int.pow_succ, Int.mul_assoc]
theorem pow_even (o x m : Int) (j : Nat) : o * (x * x % m) ^ j % m = o * x ^ (2 * j) % m := by
  rw [Int.mul_emod, pow_mod, sq_pow, ← Int.mul_emod]
theorem pow_odd (o x m : Int) (j : Nat) : o * x % m * (x * x % m) ^ j % m = o * x ^ (2 * j + 1) % m := by
  rw [Int.mul_emod, pow_mod, sq_pow, Int.emod_emod, ← Int.mul_emod, Int.pow_succ, Int.mul_assoc, Int.mul_comm x]
theorem mul_bd' {a b m n : Int} (ha : 0 ≤ a) (ha' : a ≤ m) (hb : 0 ≤ b) (hb' : b ≤ n) : 0 ≤ a * b ∧ a * b ≤ m * n := ⟨Int.mul_nonneg ha hb, Int.mul_le_mul ha' hb' hb (by omega)⟩
theorem prod_bd {a b m : Int} (h1 : 0 ≤ a) (h2 : a < m) (h3 : 0 ≤ b) (h4 : b < m) (h5 : m ≤ 3000000000) : 0 ≤ a * b ∧ a * b ≤ 9000000000000000000 := by
  have := mul_bd' h1 (show a ≤ 3000000000 by omega) h3 (show b ≤ 3000000000 by omega)
  omega
theorem mul_any (m a b : Int) (w : World) (hm : 0 < m) (hm' : m ≤ 3000000000) (ha : 0 ≤ a) (ha' : a < m) (hb : 0 ≤ b) (hb' : b < m) : Calls Try.prog 115 #[.int .i64 m, .int .i64 a, .int .i64 b] w fun e w' => e = .returned (.int .i64 (a * b % m)) ∧ w = w' := by
  have hp := prod_bd ha ha' hb hb' hm'
  go_enter Try.func115, Try.ntmps115
  go_wp2
  go_ret
  exact ⟨rfl, rfl⟩
def powN (m a : Int) (k : Nat) : Int := a ^ k % m
def PowerModuloR (m a k : Int) : Int × Int := if codeR m [a] = 0 then (if inB k 0 1000000000000 = false then (0, 2) else (powN m a k.toNat, 0)) else (0, codeR m [a])

/-! ### ScaleSeries -/
theorem NewS.of {w : World} {m : Int} {xs ys : List Int} {e : Ending} {w' : World} (h : NewS w m xs e w') (he : Hid (xs = ys)) : NewS w m ys e w' := by rw [← he.out]; exact h
theorem isSer_NumL {m : Int} {xs : List Int} (h : isSer m xs = true) : NumL m xs := isSer_num h
theorem scaleL_step (m c : Int) (xs : List Int) (k : Nat) : lst (k + 1) (fun j => c * co xs j % m) = lst k (fun j => c * co xs j % m) ++ [c * co xs k % m] := lst_succ _ _
theorem l02Scale_any (m c : Int) (w : World) (v : Value) (xs ys : List Int) (B : Nat) (hv : OwnI w B v xs) (hy : scaleL m c xs = ys) (hm : 2 ≤ m) (hm' : m ≤ 3000000000) (hc0 : 0 ≤ c) (hc0' : c < m) (hn : NumL m xs) (hl : xs.length ≤ 1000000) :
    Calls Try.prog 113 #[.int .i64 m, .int .i64 c, v] w (NewI w ys) := by
  obtain ⟨A, cp, e0, hc1, hc2, hA⟩ := hv.open_
  subst e0
  unfold maxLen at hc2
  have HY := Lib.hid hy
  have HN := Lib.hid hn
  clear hy hn
  go_enter Try.func113, Try.ntmps113
  go_wp2
  go_loopw [7, 8] (fun r i wr => ∃ k g c' : Nat, k ≤ xs.length ∧ i = .int .i64 k ∧ r = .slice (some ⟨g, 0, none⟩) k c' ∧ w.heap.size ≤ g ∧ RowI wr g c' (lst k (fun j => c * co xs j % m)) ∧ Below w.heap.size w wr) (fun _ i _ => xs.length - (intOf i).toNat)
  case atStart => exact ⟨0, w.heap.size, 0, Nat.zero_le _, rfl, rfl, Nat.le_refl _, RowI.lit w [] #[] rfl (by simp), by (repeat (first | assumption | exact Below.refl _ _ | refine Below.alloc ?_ (by first | omega | (simp; done) | (simp; omega)) _ | refine Below.setCell ?_ (by first | omega | (simp; done) | (simp; omega)) _ | refine below_drewN ?_ _))⟩
  case round =>
    obtain ⟨k, g, c', hk, rfl, rfl, hg, hrow, hb⟩ := hrel
    have hz := hb.size
    have hglt := hrow.lt
    by_cases hlt : k < xs.length
    · obtain ⟨b, rfl, hb1, hb2, hcell, hfr⟩ := hA k hlt
      clear hA
      have hcell' : wr.cell? ⟨b, k, none⟩ = some (.int .i64 (co xs k)) := (hb.cell (p := ⟨b, k, none⟩) hb2).trans hcell
      clear hcell
      have hnk : 0 ≤ co xs k ∧ co xs k < m := HN.out k
      have HS := Lib.hid (scaleL_step m c xs k)
      have HL : Hid ((lst k (fun j => c * co xs j % m)).length = k) := length_lst _ _
      obtain ⟨x, hx⟩ : ∃ x, x = co xs k := ⟨_, rfl⟩
      rw [← hx] at hcell' hnk HS
      have hp := prod_bd hc0 hc0' hnk.1 hnk.2 hm'
      have hk0 : (0 : Int) ≤ (k : Int) := by omega
      have hk1 : (k : Int) < (xs.length : Int) := by omega
      clear hx
      go_wp2_with (at_builtin; refine wpAppend1 _ _ w.heap.size (.slice (some ⟨g, 0, none⟩) k c') (lst k (fun j => c * co xs j % m)) k (c * x % m) wr.heap.size (wr.heap.size + 1) (by rfl) (by rfl) (by rfl) (by rfl) ((hrow.alloc _).own' hg HL.out) HL.out (RowI.block1 _) (by omega) (by simp; omega) (by simp) ?_; intro gg cap w1 hown1 hge hgrow hat)
      go_roundw
      case rel =>
        refine ⟨k + 1, gg, cap, by omega, by go_num, rfl, hge, by rw [HS.out]; exact hown1, ?_⟩
        refine Below.grown (hb.alloc hz _) hgrow (by simp; omega) fun b hb => ?_
        simp [Value.ownBlock] at hb
        omega
      case measure => simp [intOf]; omega
    · obtain rfl : k = xs.length := by omega
      have hrow' : RowI wr g c' ys := by rw [← HY.out]; exact hrow
      have hly : Hid (ys.length = xs.length) := by unfold Hid; rw [← HY.out, length_scaleL]
      go_wp2
      go_ret
      have ho := hrow'.own hg
      exact ⟨_, _, by rw [hly.out]; rfl, ho, hb⟩
def ScaleSeriesR (m : Int) (xs : List Int) (c : Int) : (Int × List Int) × Int := if isSer m xs = false then ((0, []), 1) else if isNumB c m = false then ((0, []), 2) else ((m, scaleL m c xs), 0)
theorem ScaleSeriesR_len (m : Int) (xs : List Int) (c : Int) : (ScaleSeriesR m xs c).1.2.length ≤ 100 := by
  unfold ScaleSeriesR
  cases h : isSer m xs
  · simp
  · have := (isSer_true h).2.1
    split
    · simp
    · split
      · simp
      · simp only [length_scaleL]; omega

/-! ### PartialPlane -/
def prF (xss : List (List Int)) (k : Int) (i j : Nat) : Int := if k = 0 then ((i : Int) + 1) * co2 xss (i + 1) j else ((j : Int) + 1) * co2 xss i (j + 1)
theorem first3c {w w1 : World} {x y k x' y' : Value} {t tk t' : TypeId} (hb : Below (((w.alloc (.cells #[x, y] t)).alloc (.cells #[k] tk)).alloc (.cells #[x', y'] t')).heap.size (((w.alloc (.cells #[x, y] t)).alloc (.cells #[k] tk)).alloc (.cells #[x', y'] t')) w1) :
    Bf w1 w.heap.size x y ∧ w1.cell? ⟨w.heap.size + 1, 0, none⟩ = some k ∧ Bf w1 (w.heap.size + 2) x' y' ∧ Below w.heap.size w w1 := by
  refine ⟨(((Bf.alloc1 w x y t).alloc _).alloc _).keep hb, ?_, ?_, ?_⟩
  · rw [hb.cell (p := ⟨w.heap.size + 1, 0, none⟩) (by simp)]
    have h1 : ((w.alloc (.cells #[x, y] t)).alloc (.cells #[k] tk)).cell? ⟨w.heap.size + 1, 0, none⟩ = some k := by
      simp
    have h2 := (below_alloc1 ((w.alloc (.cells #[x, y] t)).alloc (.cells #[k] tk)) (.cells #[x', y'] t')).cell (p := ⟨w.heap.size + 1, 0, none⟩) (by simp)
    exact h2.trans h1
  · have := (Bf.alloc1 ((w.alloc (.cells #[x, y] t)).alloc (.cells #[k] tk)) x' y' t').keep hb
    simpa using this
  · refine Below.trans ?_ (hb.mono (by simp; omega))
    exact (((Below.refl _ _).alloc (Nat.le_refl _) _).alloc (by simp) _).alloc (by simp; omega) _
set_option maxHeartbeats 1000000 in
theorem partial1_pred (w : World) (b bk : Nat) (m : Int) (A : Option Addr) (n c lo hi : Nat) (xss : List (List Int)) (k : Int) (hbk : w.cell? ⟨bk, 0, none⟩ = some (.int .i64 k)) (hbk' : bk < w.heap.size) (hb : w.cell? ⟨b, 1, none⟩ = some (.slice A n c)) (hb' : b < w.heap.size) (hv : OwnP w lo hi (.slice A n c) xss) (ht : Tri n xss) (hq : Num2 m xss) (hm : m ≤ 10000) (hn : n ≤ 1000) :
    Pred2 w 97 #[.pointer (some ⟨bk, 0, none⟩), .pointer (some ⟨b, 0, none⟩)] (n - 1) (prF xss k) := by
  refine ⟨Try.call97, fun W i j hW hij => ?_⟩
  have hck := (hW.cell (p := ⟨bk, 0, none⟩) hbk').trans hbk
  have hc := (hW.cell (p := ⟨b, 1, none⟩) hb').trans hb
  by_cases hk : k = 0
  · have hkb : (k == 0) = true := by simpa using hk
    obtain ⟨g, gr, cr, rfl, h1, h2, h3, h4, -⟩ := hv.at2 (i := i + 1) (j := j) (by rw [ht.1]; omega) (by rw [ht.2 (i + 1) (by omega)]; omega)
    have h2' := (hW.cell (p := ⟨g, i + 1, none⟩) h1).trans h2
    have h4' := (hW.cell (p := ⟨gr, j, none⟩) h3).trans h4
    rw [ht.2 (i + 1) (by omega)] at h2'
    obtain ⟨r, hr⟩ : ∃ r, r = n - (i + 1) := ⟨_, rfl⟩
    rw [← hr] at h2'
    have hx0 := hq (i + 1) j
    obtain ⟨x, hx⟩ : ∃ x, x = co2 xss (i + 1) j := ⟨_, rfl⟩
    rw [← hx] at h4' hx0
    have HF : Hid (prF xss k i j = ((i : Int) + 1) * x) := by unfold Hid prF; rw [if_pos hk, hx]
    have hp := mul_bd (show (0 : Int) ≤ (i : Int) + 1 by omega) (show (i : Int) + 1 ≤ 3000000000 by omega) hx0.1 (show x ≤ 3000000000 by omega)
    have hi0 : (0 : Int) ≤ (i : Int) + 1 := by omega
    have hi1 : (i : Int) + 1 < (n : Int) := by omega
    have hj0 : (0 : Int) ≤ (j : Int) := by omega
    have hj1 : (j : Int) < (r : Int) := by omega
    have hj2 : j < r := by omega
    have hi2 : i + 1 < n := by omega
    have hi3 : ((i : Int) + 1).toNat = i + 1 := by omega
    clear hW hb hbk h2 h4 hr hv ht hx hk hq
    go_enter Try.func97, Try.ntmps97
    go_wp2
    go_ret
    exact ⟨by rw [HF.out]; rfl, 0, rfl⟩
  · have hkb : (k == 0) = false := by simpa using hk
    obtain ⟨g, gr, cr, rfl, h1, h2, h3, h4, -⟩ := hv.at2 (i := i) (j := j + 1) (by rw [ht.1]; omega) (by rw [ht.2 i (by omega)]; omega)
    have h2' := (hW.cell (p := ⟨g, i, none⟩) h1).trans h2
    have h4' := (hW.cell (p := ⟨gr, j + 1, none⟩) h3).trans h4
    rw [ht.2 i (by omega)] at h2'
    obtain ⟨r, hr⟩ : ∃ r, r = n - i := ⟨_, rfl⟩
    rw [← hr] at h2'
    have hx0 := hq i (j + 1)
    obtain ⟨x, hx⟩ : ∃ x, x = co2 xss i (j + 1) := ⟨_, rfl⟩
    rw [← hx] at h4' hx0
    have HF : Hid (prF xss k i j = ((j : Int) + 1) * x) := by unfold Hid prF; rw [if_neg hk, hx]
    have hp := mul_bd (show (0 : Int) ≤ (j : Int) + 1 by omega) (show (j : Int) + 1 ≤ 3000000000 by omega) hx0.1 (show x ≤ 3000000000 by omega)
    have hi0 : (0 : Int) ≤ (i : Int) := by omega
    have hi1 : (i : Int) < (n : Int) := by omega
    have hj0 : (0 : Int) ≤ (j : Int) + 1 := by omega
    have hj1 : (j : Int) + 1 < (r : Int) := by omega
    have hj2 : j + 1 < r := by omega
    have hi2 : i < n := by omega
    have hj3 : ((j : Int) + 1).toNat = j + 1 := by omega
    clear hW hb hbk h2 h4 hr hv ht hx hk hq
    go_enter Try.func97, Try.ntmps97
    go_wp2
    go_ret
    exact ⟨by rw [HF.out]; rfl, 0, rfl⟩
theorem partial_rows (m : Int) (xss : List (List Int)) (n : Nat) (ht : Tri n xss) : rowsF (fun i => scaleL m (((i : Int) + 1) % m) (xss.getD (i + 1) [])) (n - 1) = tab (n - 1) fun i j => prF xss 0 i j % m := by
  unfold rowsF tab
  apply List.map_congr_left
  intro i hi
  have hi' := List.mem_range.1 hi
  unfold scaleL
  rw [ht.2 (i + 1) (by omega), show n - (i + 1) = n - 1 - i by omega]
  apply lst_congr
  intro j _
  simp only [prF, if_true]
  rw [Int.mul_emod (((i : Int) + 1) % m), Int.emod_emod, ← Int.mul_emod]
  rfl
set_option maxRecDepth 8000 in
set_option maxHeartbeats 2000000 in
theorem l03Partial_any (w : World) (m : Int) (v : Value) (xss zss : List (List Int)) (n : Nat) (lo hi : Nat) (hv : OwnP w lo hi v xss) (ht : Tri n xss) (hq : Num2 m xss) (hm : 2 ≤ m) (hm' : m ≤ 10000) (hn1 : 1 ≤ n) (hn : n ≤ 1000) (hz : (tab (n - 1) fun i j => prF xss 0 i j % m) = zss) :
    Calls Try.prog 94 #[.int .i64 m, v] w (NewP w zss) := by
  obtain ⟨g, c, rfl, hc1, hc2, hg, hA⟩ := hv.source n ht.1 hn1
  have HRW : Hid (rowsF (fun i => scaleL m (((i : Int) + 1) % m) (xss.getD (i + 1) [])) (n - 1) = zss) := by
    unfold Hid
    rw [partial_rows m xss n ht]
    exact hz
  have HA := Lib.hid hA
  have HT := Lib.hid ht
  have HQ := Lib.hid hq
  obtain ⟨n1, hn2⟩ : ∃ n1, n1 = n - 1 := ⟨_, rfl⟩
  rw [← hn2] at HRW
  have hn3 : n1 + 1 ≤ n ∧ n ≤ n1 + 1 := by omega
  clear hA hv ht hz hq hn2
  go_enter Try.func94, Try.ntmps94
  go_wp2
  go_loopw [5, 6] (fun s i wr => ∃ (k : Nat) (A : Option Addr) (c : Nat), k ≤ n1 ∧ s = .slice A k c ∧ i = .int .i64 ((k : Int) + 1) ∧ Hid (OwnP wr w.heap.size wr.heap.size (.slice A k c) (rowsF (fun i => scaleL m (((i : Int) + 1) % m) (xss.getD (i + 1) [])) k)) ∧ Hid (Below w.heap.size w wr)) (fun _ i _ => n + 2 - (intOf i).toNat)
  case atStart => exact ⟨0, _, 0, Nat.zero_le _, rfl, rfl, OwnP.start (Nat.le_refl _), by unfold Hid; (repeat (first | assumption | exact Below.refl _ _ | refine Below.alloc ?_ (by first | omega | (simp; done) | (simp; omega)) _ | refine Below.setCell ?_ (by first | omega | (simp; done) | (simp; omega)) _ | refine below_drewN ?_ _))⟩
  case round =>
    obtain ⟨k, A, c', hk, rfl, rfl, HO, HB⟩ := hrel
    have hz := HB.out.size
    by_cases hlt : k < n1
    · have hk1 : (k : Int) + 1 < (n : Int) := by omega
      obtain ⟨Ar, cr, hcell, hown⟩ := HA.out (k + 1) (by omega)
      have hc0 := (HB.out.cell (p := ⟨g, k + 1, none⟩) hg).trans hcell
      have HOX := Lib.hid (hown.keep HB.out (Nat.le_refl _))
      obtain ⟨x, hx⟩ : ∃ x, x = xss.getD (k + 1) [] := ⟨_, rfl⟩
      have hxl : x.length ≤ 1000 := by rw [hx, HT.out.2 (k + 1) (by omega)]; omega
      have HXN : Hid (NumL m x) := fun j => by rw [hx]; exact HQ.out (k + 1) j
      have he1 : 0 ≤ ((k : Int) + 1) % m := Int.emod_nonneg _ (by omega)
      have he2 : ((k : Int) + 1) % m < m := Int.emod_lt_of_pos _ (by omega)
      obtain ⟨y, hy⟩ : ∃ y, scaleL m (((k : Int) + 1) % m) x = y := ⟨_, rfl⟩
      have HS2 : Hid (rowsF (fun i => scaleL m (((i : Int) + 1) % m) (xss.getD (i + 1) [])) (k + 1) = rowsF (fun i => scaleL m (((i : Int) + 1) % m) (xss.getD (i + 1) [])) k ++ [y]) := by unfold Hid; rw [rowsF_succ, ← hy, hx]
      rw [← hx] at hc0 HOX
      have HY := Lib.hid hy
      clear hcell hown hx hy
      have hk0 : (0 : Int) ≤ (k : Int) + 1 := by omega
      have hk2 : ((k : Int) + 1).toNat = k + 1 := by omega
      have v3 : ((k : Int) + 1).tmod m = ((k : Int) + 1) % m := Int.tmod_eq_emod_of_nonneg (by omega)
      have v8 : ¬ m = 0 := by omega
      have hne : some g ≠ (Value.slice A k c').ownBlock := fun e => by have := ownP_block_ge HO.out e.symm; omega
      go_wp2
      go_region_held3 (fun w' => w'.cell? ⟨g, k + 1, none⟩ = some (.slice Ar x.length cr))
        (first | exact hc0 | exact c3x | exact c4x | exact c9x | go_keep)
        (first | (go_at_call 113; refine (l02Scale_any m (((k : Int) + 1) % m) _ _ x y lo (HOX.out.drewN 1) HY.out (by omega) (by omega) he1 he2 HXN.out (by omega)).mono ?_; rintro e w3 ⟨A3, c3, rfl, o3, hb3⟩; have O3 := Lib.hid o3; have R3 := Lib.hid (below_undrew hb3); have s3 : wr.heap.size ≤ w3.heap.size := hb3.size; clear o3; have c3x : w3.cell? ⟨g, k + 1, none⟩ = some (.slice Ar x.length cr) := (R3.out.cell (p := ⟨g, k + 1, none⟩) (by show g < wr.heap.size; omega)).trans hc0; have c4x : (w3.alloc (.cells #[.slice A3 y.length c3] 40)).cell? ⟨g, k + 1, none⟩ = some (.slice Ar x.length cr) := ((below_alloc1 w3 _).cell (p := ⟨g, k + 1, none⟩) (by show g < w3.heap.size; omega)).trans c3x) | (refine stepAppendP _ _ w.heap.size wr.heap.size (.slice A k c') (.slice A3 y.length c3) (rowsF (fun i => scaleL m (((i : Int) + 1) % m) (xss.getD (i + 1) [])) k) y k w3.heap.size (w3.heap.size + 1) (by rfl) (by rfl) (by rfl) (by rfl) ((HO.out.keep R3.out).alloc _) (length_rowsF _ _) (by simp; omega) ((O3.out.alloc _).mono (by show w.heap.size ≤ wr.heap.size; omega)) (fun g hg => (O3.out.block_ge hg).1) (heap_alloc_new w3 _) (by omega) (by simp; omega) (by simp) ?_; intro gg cap w9 ho9 hg9 hat9; have c9x : w9.cell? ⟨g, k + 1, none⟩ = some (.slice Ar x.length cr) := (hg9.cell_far ⟨g, k + 1, none⟩ (by simp; omega) hne).trans c4x))
      clear v3
      go_wp2
      go_roundw
      case rel =>
        refine ⟨k + 1, some ⟨gg, 0, none⟩, cap, by omega, rfl, by go_num, by rw [HS2.out]; exact ho9, ?_⟩
        unfold Hid
        exact below_grownP ((HB.out.trans (R3.out.mono hz)).alloc (by omega) _) (by simp; omega) hg9 (fun g hg => ownP_block_ge HO.out hg)
      case measure => simp [intOf]; omega
    · have hkn : k = n1 := by omega
      have hd5 : decide ((k : Int) + 1 < (n : Int)) = false := by simp; omega
      have hO := HO.out
      rw [hkn, HRW.out] at hO
      have HL : Hid (zss.length = n1) := by unfold Hid; rw [← HRW.out, length_rowsF]
      have HO2 := Lib.hid hO
      clear hO
      subst hkn
      go_wp2
      go_ret
      exact ⟨A, c', by rw [HL.out]; rfl, by rw [HL.out]; exact HO2.out, HB.out⟩
def PartialPlaneR (m : Int) (xss : List (List Int)) (k : Int) : (Int × List (List Int)) × Int := if isPl m xss = false then ((0, []), 1) else if inB k 0 1 = false then ((0, []), 2) else if xss.length = 2 then ((0, []), 5) else ((m, tab (xss.length - 1) fun i j => prF xss k i j % m), 0)
theorem PartialPlaneR_len (m : Int) (xss : List (List Int)) (k : Int) : cntP (PartialPlaneR m xss k).1.2 ≤ 200 := by
  unfold PartialPlaneR
  cases h : isPl m xss
  · simp [cntP]
  · have h2 := (isPl_true h).2.1
    simp only [Bool.true_eq_false, if_false]
    split
    · simp [cntP]
    · split
      · simp [cntP]
      · exact cntP_tab_100 _ (by omega)
theorem partial_turn (m : Int) (xss : List (List Int)) (n : Nat) (k : Int) (hk : ¬ k = 0) (hn : 1 ≤ n) : (tab (n - 1) fun i j => co2 (tab (n - 1) fun i j => prF (tab n fun i j => co2 xss j i) 0 i j % m) j i) = tab (n - 1) fun i j => prF xss k i j % m := by
  apply tab_congr
  intro i j hij
  rw [co2_tab _ (by omega)]
  simp only [prF, if_true, if_neg hk]
  rw [co2_tab _ (by omega)]

set_option maxRecDepth 8000 in
set_option maxHeartbeats 2000000 in
theorem iPartialPlaneR_any (w : World) (m : Int) (v : Value) (xss : List (List Int)) (k : Int) (lo hi : Nat) (hv : OwnP w lo hi v xss) (hl : szP xss ≤ 2000000) : Calls Try.prog 46 #[.agg #[.int .i64 m, v], .int .i64 k] w (RetPI w (PartialPlaneR m xss k)) := by
  obtain ⟨A, c, rfl, -, -⟩ := hv.form
  have hxl := Nat.le_trans (length_le_szP xss) hl
  have HV := Lib.hid hv
  clear hv
  cases hs : isPl m xss
  · have HF : PartialPlaneR m xss k = ((0, []), 1) := by simp [PartialPlaneR, hs]
    rw [HF]
    have HS := Lib.hid hs
    clear HF hs
    go_enter Try.func46, Try.ntmps46
    go_wp2_with (go_at_call 18; refine (iIsPlane_any _ m _ xss lo hi (OwnP.keep HV.out (by (repeat (first | assumption | exact Below.refl _ _ | refine Below.alloc ?_ (by first | omega | (simp; done) | (simp; omega)) _ | refine Below.setCell ?_ (by first | omega | (simp; done) | (simp; omega)) _ | refine below_drewN ?_ _)))) hl).mono ?_; rintro e w1 ⟨rfl, hb1⟩; rw [HS.out]; obtain ⟨P1, C1, Q1, K1⟩ := first3c hb1; have p1a := P1.1.2.1; have p1b := P1.1.2.2; have q1a := Q1.1.2.1; have q1b := Q1.1.2.2; have q1c := Q1.2.1; have q1d := Q1.2.2; have y1 := Q1.1.1)
    exact bodyPost_ret (v := .tuple #[.agg #[.int .i64 0, .slice none 0 0], .int .i64 1]) (by simp [results, Try.results46, go_sem, q1a, q1b]) rfl (RetPI.zero ((K1.setCell (by simp; omega) _).setCell (by simp; omega) _))
  · have HS := Lib.hid hs
    have hm := isModB_true (isPl_true hs).1
    have hlen := (isPl_true hs).2.1
    have HT := Lib.hid (isPl_tri hs)
    have HN := Lib.hid (isPl_num2 hs)
    cases hd : inB k 0 1
    · have HF : PartialPlaneR m xss k = ((0, []), 2) := by simp [PartialPlaneR, hs, hd]
      rw [HF]
      have HD := Lib.hid hd
      clear HF hs hd
      go_enter Try.func46, Try.ntmps46
      go_wp2_with (first | (go_at_call 18; refine (iIsPlane_any _ m _ xss lo hi (OwnP.keep HV.out (by (repeat (first | assumption | exact Below.refl _ _ | refine Below.alloc ?_ (by first | omega | (simp; done) | (simp; omega)) _ | refine Below.setCell ?_ (by first | omega | (simp; done) | (simp; omega)) _ | refine below_drewN ?_ _)))) hl).mono ?_; rintro e w1 ⟨rfl, hb1⟩; rw [HS.out]; obtain ⟨P1, C1, Q1, K1⟩ := first3c hb1; have p1a := P1.1.2.1; have p1b := P1.1.2.2; have q1a := Q1.1.2.1; have q1b := Q1.1.2.2; have q1c := Q1.2.1; have q1d := Q1.2.2; have y1 := Q1.1.1) | (go_at_call 63; refine (isSide_any _ _).mono ?_; rintro e w3 ⟨rfl, k3, rfl⟩; rw [HD.out]))
      exact bodyPost_ret (v := .tuple #[.agg #[.int .i64 0, .slice none 0 0], .int .i64 2]) (by simp [results, Try.results46, go_sem, q1a, q1b]) rfl (RetPI.zero (below_drewN K1 _ |> fun h => (h.setCell (by simp; omega) _).setCell (by simp; omega) _))
    · have HD := Lib.hid hd
      by_cases h2 : xss.length = 2
      · have HF : PartialPlaneR m xss k = ((0, []), 5) := by simp only [PartialPlaneR, hs, hd, h2]; simp
        rw [HF]
        have h3 : ((xss.length : Int) - 1 == 1) = true := by simp; omega
        clear HF hs hd h2
        go_enter Try.func46, Try.ntmps46
        go_wp2_with (first | (go_at_call 18; refine (iIsPlane_any _ m _ xss lo hi (OwnP.keep HV.out (by (repeat (first | assumption | exact Below.refl _ _ | refine Below.alloc ?_ (by first | omega | (simp; done) | (simp; omega)) _ | refine Below.setCell ?_ (by first | omega | (simp; done) | (simp; omega)) _ | refine below_drewN ?_ _)))) hl).mono ?_; rintro e w1 ⟨rfl, hb1⟩; rw [HS.out]; obtain ⟨P1, C1, Q1, K1⟩ := first3c hb1; have p1a := P1.1.2.1; have p1b := P1.1.2.2; have q1a := Q1.1.2.1; have q1b := Q1.1.2.2; have q1c := Q1.2.1; have q1d := Q1.2.2; have y1 := Q1.1.1) | (go_at_call 63; refine (isSide_any _ _).mono ?_; rintro e w3 ⟨rfl, k3, rfl⟩; rw [HD.out]) | (go_at_call 54; refine (pDegree_any m A xss.length c _ (by omega)).mono ?_; rintro e w2 ⟨rfl, hb2⟩; have Q2 := (Q1.drewN k3).keep hb2; have q2a := Q2.1.2.1; have q2b := Q2.1.2.2; have q2c := Q2.2.1; have q2d := Q2.2.2; have K2 := (below_drewN K1 k3).trans (hb2.mono (by simp; omega))))
        exact bodyPost_ret (v := .tuple #[.agg #[.int .i64 0, .slice none 0 0], .int .i64 5]) (by simp [results, Try.results46, go_sem, q2a, q2b]) rfl (RetPI.zero ((K2.setCell (by simp; omega) _).setCell (by simp; omega) _))
      · obtain ⟨ys, hy⟩ : ∃ ys, (tab (xss.length - 1) fun i j => prF xss k i j % m) = ys := ⟨_, rfl⟩
        have HF : PartialPlaneR m xss k = ((m, ys), 0) := by simp only [PartialPlaneR, hs, hd, hy]; simp [h2]
        have HYL : Hid (ys.length = xss.length - 1) := by unfold Hid; rw [← hy, length_tab]
        rw [HF]
        have h3 : ((xss.length : Int) - 1 == 1) = false := by simp; omega
        have HY := Lib.hid hy
        obtain ⟨n1, hn1⟩ : ∃ n1, n1 = xss.length - 1 := ⟨_, rfl⟩
        rw [← hn1] at HYL HY
        have hn2 : n1 + 1 ≤ xss.length ∧ xss.length ≤ n1 + 1 := by omega
        have HN1 := Lib.hid hn1
        have v1 : IntKind.i64.wrap ((xss.length : Int) - 1 - 1) = (xss.length : Int) - 1 - 1 := IntWalk.i64_in _ (by omega)
        clear HF hs hd h2 hy hn1
        go_enter Try.func46, Try.ntmps46
        go_wp2_with (first | (go_at_call 18; refine (iIsPlane_any _ m _ xss lo hi (OwnP.keep HV.out (by (repeat (first | assumption | exact Below.refl _ _ | refine Below.alloc ?_ (by first | omega | (simp; done) | (simp; omega)) _ | refine Below.setCell ?_ (by first | omega | (simp; done) | (simp; omega)) _ | refine below_drewN ?_ _)))) hl).mono ?_; rintro e w1 ⟨rfl, hb1⟩; rw [HS.out]; obtain ⟨P1, C1, Q1, K1⟩ := first3c hb1; have p1a := P1.1.2.1; have p1b := P1.1.2.2; have q1a := Q1.1.2.1; have q1b := Q1.1.2.2; have q1c := Q1.2.1; have q1d := Q1.2.2; have y1 := Q1.1.1) | (go_at_call 63; refine (isSide_any _ _).mono ?_; rintro e w3 ⟨rfl, k3, rfl⟩; rw [HD.out]) | (go_at_call 54; refine (pDegree_any m A xss.length c _ (by omega)).mono ?_; rintro e w2 ⟨rfl, hb2⟩; have P2 := (P1.drewN k3).keep hb2; have Q2 := (Q1.drewN k3).keep hb2; have C2 := (hb2.cell (p := ⟨w.heap.size + 1, 0, none⟩) (by show w.heap.size + 1 < w1.heap.size; omega)).trans (show (w1.drewN k3).cell? ⟨w.heap.size + 1, 0, none⟩ = some (.int .i64 k) from C1); have K2 := (below_drewN K1 k3).trans (hb2.mono (by simp; omega)); have p2a := P2.1.2.1; have p2b := P2.1.2.2; have y2 := Q2.1.1; have q2a := Q2.1.2.1; have q2b := Q2.1.2.2; have q2c := Q2.2.1; have q2d := Q2.2.2))
        have HV2 := Lib.hid (HV.out.keep K2)
        go_region_held3 (fun w' => w'.cell? ⟨w.heap.size, 0, none⟩ = some (.int .i64 m) ∧ w'.cell? ⟨w.heap.size, 1, none⟩ = some (.slice A xss.length c)) (first | exact ⟨p2a, p2b⟩ | exact ⟨p4a, p4b⟩ | exact ⟨p5a, p5b⟩ | exact ⟨p6a, p6b⟩ | exact ⟨cell_store2 p6a (by omega), cell_store2 p6b (by omega)⟩ | go_keep)
          (first | (go_at_call 54; refine (pDegree_any m A xss.length c _ (by omega)).mono ?_; rintro e w4 ⟨rfl, hb4⟩; have R4 : Below w2.heap.size w2 w4 := below_undrew hb4; have P4 := P2.keep R4; have Q4 := Q2.keep R4; have C4 := (R4.cell (p := ⟨w.heap.size + 1, 0, none⟩) (by show w.heap.size + 1 < w2.heap.size; omega)).trans C2; have p4a := P4.1.2.1; have p4b := P4.1.2.2; have y4 := Q4.1.1; have K4 := K2.trans (R4.mono (by omega)); have HV4 := Lib.hid (HV2.out.keep R4)) | (go_at_call 95; refine (emptyPlane_any _ m _ n1 (by omega) (by omega)).mono ?_; rintro e w5 ⟨A5, c5, rfl, o5, hb5⟩; rw [length_tab] at o5 ⊢; have P5 := P4.keep hb5; have Q5 := Q4.keep hb5; have C5 := (hb5.cell (p := ⟨w.heap.size + 1, 0, none⟩) (by show w.heap.size + 1 < w4.heap.size; omega)).trans C4; have p5a := P5.1.2.1; have p5b := P5.1.2.2; have y5 := Q5.1.1; have K5 := K4.trans (hb5.mono (by omega)); have HV5 := Lib.hid (HV4.out.keep hb5); have O5 := Lib.hid o5; clear o5) | (go_at_call 96; refine (mapped_any _ m _ (tab n1 fun _ _ => 0) n1 _ _ O5.out (length_tab _ _) (by omega) (by omega) (by omega) (by omega) _ _ _ (by have h9 := partial1_pred w5 w.heap.size (w.heap.size + 1) m A xss.length c lo hi xss k C5 (by omega) p5b (by omega) HV5.out HT.out HN.out (by omega) (by omega); rw [← HN1.out] at h9; exact h9) ys HY.out).mono ?_; rintro e w6 ⟨A6, c6, rfl, o6, hb6⟩; rw [HYL.out] at o6 ⊢; have P6 := P5.keep hb6; have Q6 := Q5.keep hb6; have p6a := P6.1.2.1; have p6b := P6.1.2.2; have q6a := Q6.1.2.1; have q6b := Q6.1.2.2; have q6c := Q6.2.1; have q6d := Q6.2.2; have y6 := Q6.1.1; have K6 := K5.trans (hb6.mono (by omega))))
        all_goals go_wp2
        all_goals exact bodyPost_ret (v := .tuple #[.agg #[.int .i64 m, .slice A6 n1 c6], .int .i64 0]) (by simp [results, Try.results46, go_sem, q6a, q6b]) rfl (RetPI.mk (o6.far2 (.inl (by omega))) HYL.out (by omega) ((K6.setCell (by simp; omega) _).setCell (by simp; omega) _))

theorem Num2.tab {m : Int} (hm : 0 < m) (n : Nat) (f : Nat → Nat → Int) (h : ∀ i j, 0 ≤ f i j ∧ f i j < m) : Num2 m (tab n f) := fun i j => by
  unfold co2
  rcases Nat.lt_or_ge i n with hi | hi
  · rw [getD_tab f hi]
    exact NumL.lst hm (fun k _ => h i k) j
  · rw [show (Go.Proofs.Ytenofgofcioffaa.tab n f).getD i [] = [] by rw [List.getD_eq_getElem?_getD, List.getElem?_eq_none (by rw [length_tab]; omega)]; rfl]
    simp [co]
    omega
theorem l01In_b (n l h : Int) (w : World) (b : Bool) (hb : Hid (inB n l h = b)) : Calls Try.prog 60 #[.int .i64 n, .int .i64 l, .int .i64 h] w fun e w' => e = .returned (.bool b) ∧ Below w.heap.size w w' :=
  (l01In_any n l h w).mono fun _ _ ⟨h1, k, e⟩ => ⟨by rw [h1, hb.out], by rw [e]; exact below_drewN (Below.refl _ _) k⟩
set_option maxRecDepth 8000 in
set_option maxHeartbeats 2000000 in
theorem sPartialPlaneR_any (w : World) (m : Int) (v : Value) (xss : List (List Int)) (k : Int) (lo hi : Nat) (hv : OwnP w lo hi v xss) (hl : szP xss ≤ 2000000) : Calls Try.prog 45 #[.agg #[.int .i64 m, v], .int .i64 k] w (RetPI w (PartialPlaneR m xss k)) := by
  obtain ⟨A, c, rfl, -, -⟩ := hv.form
  have hxl := Nat.le_trans (length_le_szP xss) hl
  have HV := Lib.hid hv
  clear hv
  cases hs : isPl m xss
  · have HF : PartialPlaneR m xss k = ((0, []), 1) := by simp [PartialPlaneR, hs]
    rw [HF]
    have HS := Lib.hid hs
    clear HF hs
    go_enter Try.func45, Try.ntmps45
    go_wp2_with (go_at_call 50; refine (l03Is_any _ m _ xss lo hi (OwnP.keep HV.out (by (repeat (first | assumption | exact Below.refl _ _ | refine Below.alloc ?_ (by first | omega | (simp; done) | (simp; omega)) _ | refine Below.setCell ?_ (by first | omega | (simp; done) | (simp; omega)) _ | refine below_drewN ?_ _)))) hl).mono ?_; rintro e w1 ⟨rfl, hb1⟩; rw [HS.out]; obtain ⟨P1, Q1, K1⟩ := Bf.first2 hb1; have p1a := P1.1.2.1; have p1b := P1.1.2.2; have z1 := P1.1.1; have q1a := Q1.1.2.1; have q1b := Q1.1.2.2; have q1c := Q1.2.1; have q1d := Q1.2.2; have y1 := Q1.1.1)
    exact bodyPost_ret (v := .tuple #[.agg #[.int .i64 0, .slice none 0 0], .int .i64 1]) (by simp [results, Try.results45, go_sem, q1a, q1b]) rfl (RetPI.zero (by (repeat (first | assumption | exact Below.refl _ _ | refine Below.alloc ?_ (by first | omega | (simp; done) | (simp; omega)) _ | refine Below.setCell ?_ (by first | omega | (simp; done) | (simp; omega)) _ | refine below_drewN ?_ _))))
  · have HS := Lib.hid hs
    have hm := isModB_true (isPl_true hs).1
    have hlen := (isPl_true hs).2.1
    have HT := Lib.hid (isPl_tri hs)
    have HN := Lib.hid (isPl_num2 hs)
    cases hd : inB k 0 1
    · have HF : PartialPlaneR m xss k = ((0, []), 2) := by simp [PartialPlaneR, hs, hd]
      rw [HF]
      have HD := Lib.hid hd
      clear HF hs hd
      go_enter Try.func45, Try.ntmps45
      go_wp2_with (first | (go_at_call 50; refine (l03Is_any _ m _ xss lo hi (OwnP.keep HV.out (by (repeat (first | assumption | exact Below.refl _ _ | refine Below.alloc ?_ (by first | omega | (simp; done) | (simp; omega)) _ | refine Below.setCell ?_ (by first | omega | (simp; done) | (simp; omega)) _ | refine below_drewN ?_ _)))) hl).mono ?_; rintro e w1 ⟨rfl, hb1⟩; rw [HS.out]; obtain ⟨P1, Q1, K1⟩ := Bf.first2 hb1; have p1a := P1.1.2.1; have p1b := P1.1.2.2; have z1 := P1.1.1; have q1a := Q1.1.2.1; have q1b := Q1.1.2.2; have q1c := Q1.2.1; have q1d := Q1.2.2; have y1 := Q1.1.1) | (go_at_call 60; refine (l01In_b _ _ _ _ _ HD).mono ?_; rintro e w3 ⟨rfl, hb3⟩; have R3 : Below w1.heap.size w1 w3 := (Below.trans (by (repeat (first | assumption | exact Below.refl _ _ | refine Below.alloc ?_ (by first | omega | (simp; done) | (simp; omega)) _ | refine Below.setCell ?_ (by first | omega | (simp; done) | (simp; omega)) _ | refine below_drewN ?_ _))) (hb3.mono (by first | exact Nat.le_refl _ | (simp; done) | (simp; omega)))); have s3 := R3.size; have K3 : Below w.heap.size w w3 := K1.trans (R3.mono K1.size); have P3 := P1.keep R3; have Q3 := Q1.keep R3; have p3a := P3.1.2.1; have p3b := P3.1.2.2; have z3 := P3.1.1; have q3a := Q3.1.2.1; have q3b := Q3.1.2.2; have q3c := Q3.2.1; have q3d := Q3.2.2; have y3 := Q3.1.1))
      exact bodyPost_ret (v := .tuple #[.agg #[.int .i64 0, .slice none 0 0], .int .i64 2]) (by simp [results, Try.results45, go_sem, q3a, q3b]) rfl (RetPI.zero (by (repeat (first | assumption | exact Below.refl _ _ | refine Below.alloc ?_ (by first | omega | (simp; done) | (simp; omega)) _ | refine Below.setCell ?_ (by first | omega | (simp; done) | (simp; omega)) _ | refine below_drewN ?_ _))))
    · have HD := Lib.hid hd
      by_cases h2 : xss.length = 2
      · have HF : PartialPlaneR m xss k = ((0, []), 5) := by simp only [PartialPlaneR, hs, hd, h2]; simp
        rw [HF]
        have h3 : ((xss.length : Int) - 1 == 1) = true := by simp; omega
        clear HF hs hd h2
        go_enter Try.func45, Try.ntmps45
        go_wp2_with (first | (go_at_call 50; refine (l03Is_any _ m _ xss lo hi (OwnP.keep HV.out (by (repeat (first | assumption | exact Below.refl _ _ | refine Below.alloc ?_ (by first | omega | (simp; done) | (simp; omega)) _ | refine Below.setCell ?_ (by first | omega | (simp; done) | (simp; omega)) _ | refine below_drewN ?_ _)))) hl).mono ?_; rintro e w1 ⟨rfl, hb1⟩; rw [HS.out]; obtain ⟨P1, Q1, K1⟩ := Bf.first2 hb1; have p1a := P1.1.2.1; have p1b := P1.1.2.2; have z1 := P1.1.1; have q1a := Q1.1.2.1; have q1b := Q1.1.2.2; have q1c := Q1.2.1; have q1d := Q1.2.2; have y1 := Q1.1.1) | (go_at_call 60; refine (l01In_b _ _ _ _ _ HD).mono ?_; rintro e w3 ⟨rfl, hb3⟩; have R3 : Below w1.heap.size w1 w3 := (Below.trans (by (repeat (first | assumption | exact Below.refl _ _ | refine Below.alloc ?_ (by first | omega | (simp; done) | (simp; omega)) _ | refine Below.setCell ?_ (by first | omega | (simp; done) | (simp; omega)) _ | refine below_drewN ?_ _))) (hb3.mono (by first | exact Nat.le_refl _ | (simp; done) | (simp; omega)))); have s3 := R3.size; have K3 : Below w.heap.size w w3 := K1.trans (R3.mono K1.size); have P3 := P1.keep R3; have Q3 := Q1.keep R3; have p3a := P3.1.2.1; have p3b := P3.1.2.2; have z3 := P3.1.1; have q3a := Q3.1.2.1; have q3b := Q3.1.2.2; have q3c := Q3.2.1; have q3d := Q3.2.2; have y3 := Q3.1.1) | (go_at_call 68; refine (l03Degree_any m A xss.length c _ (by omega)).mono ?_; rintro e w2 ⟨rfl, hb2⟩; have R2 : Below w3.heap.size w3 w2 := (Below.trans (by (repeat (first | assumption | exact Below.refl _ _ | refine Below.alloc ?_ (by first | omega | (simp; done) | (simp; omega)) _ | refine Below.setCell ?_ (by first | omega | (simp; done) | (simp; omega)) _ | refine below_drewN ?_ _))) (hb2.mono (by first | exact Nat.le_refl _ | (simp; done) | (simp; omega)))); have s2 := R2.size; have K2 : Below w.heap.size w w2 := K3.trans (R2.mono K3.size); have P2 := P3.keep R2; have Q2 := Q3.keep R2; have p2a := P2.1.2.1; have p2b := P2.1.2.2; have z2 := P2.1.1; have q2a := Q2.1.2.1; have q2b := Q2.1.2.2; have q2c := Q2.2.1; have q2d := Q2.2.2; have y2 := Q2.1.1))
        exact bodyPost_ret (v := .tuple #[.agg #[.int .i64 0, .slice none 0 0], .int .i64 5]) (by simp [results, Try.results45, go_sem, q2a, q2b]) rfl (RetPI.zero (by (repeat (first | assumption | exact Below.refl _ _ | refine Below.alloc ?_ (by first | omega | (simp; done) | (simp; omega)) _ | refine Below.setCell ?_ (by first | omega | (simp; done) | (simp; omega)) _ | refine below_drewN ?_ _))))
      · obtain ⟨ys, hy⟩ : ∃ ys, (tab (xss.length - 1) fun i j => prF xss k i j % m) = ys := ⟨_, rfl⟩
        have HF : PartialPlaneR m xss k = ((m, ys), 0) := by simp only [PartialPlaneR, hs, hd, hy]; simp [h2]
        have hyl : ys.length = xss.length - 1 := by rw [← hy, length_tab]
        rw [HF]
        have h3 : ((xss.length : Int) - 1 == 1) = false := by simp; omega
        by_cases hk : k = 0
        · have hkb : (k == 0) = true := by simpa using hk
          have HY : Hid ((tab (xss.length - 1) fun i j => prF xss 0 i j % m) = ys) := by unfold Hid; rw [← hk]; exact hy
          obtain ⟨n1, hn1⟩ : ∃ n1, n1 = xss.length - 1 := ⟨_, rfl⟩
          have HYL : Hid (ys.length = n1) := hyl.trans hn1.symm
          clear HF hs hd h2 hy hk hyl hn1
          go_enter Try.func45, Try.ntmps45
          go_wp2_with (first | (go_at_call 50; refine (l03Is_any _ m _ xss lo hi (OwnP.keep HV.out (by (repeat (first | assumption | exact Below.refl _ _ | refine Below.alloc ?_ (by first | omega | (simp; done) | (simp; omega)) _ | refine Below.setCell ?_ (by first | omega | (simp; done) | (simp; omega)) _ | refine below_drewN ?_ _)))) hl).mono ?_; rintro e w1 ⟨rfl, hb1⟩; rw [HS.out]; obtain ⟨P1, Q1, K1⟩ := Bf.first2 hb1; have p1a := P1.1.2.1; have p1b := P1.1.2.2; have z1 := P1.1.1; have q1a := Q1.1.2.1; have q1b := Q1.1.2.2; have q1c := Q1.2.1; have q1d := Q1.2.2; have y1 := Q1.1.1) | (go_at_call 60; refine (l01In_b _ _ _ _ _ HD).mono ?_; rintro e w3 ⟨rfl, hb3⟩; have R3 : Below w1.heap.size w1 w3 := (Below.trans (by (repeat (first | assumption | exact Below.refl _ _ | refine Below.alloc ?_ (by first | omega | (simp; done) | (simp; omega)) _ | refine Below.setCell ?_ (by first | omega | (simp; done) | (simp; omega)) _ | refine below_drewN ?_ _))) (hb3.mono (by first | exact Nat.le_refl _ | (simp; done) | (simp; omega)))); have s3 := R3.size; have K3 : Below w.heap.size w w3 := K1.trans (R3.mono K1.size); have P3 := P1.keep R3; have Q3 := Q1.keep R3; have p3a := P3.1.2.1; have p3b := P3.1.2.2; have z3 := P3.1.1; have q3a := Q3.1.2.1; have q3b := Q3.1.2.2; have q3c := Q3.2.1; have q3d := Q3.2.2; have y3 := Q3.1.1) | (go_at_call 68; refine (l03Degree_any m A xss.length c _ (by omega)).mono ?_; rintro e w2 ⟨rfl, hb2⟩; have R2 : Below w3.heap.size w3 w2 := (Below.trans (by (repeat (first | assumption | exact Below.refl _ _ | refine Below.alloc ?_ (by first | omega | (simp; done) | (simp; omega)) _ | refine Below.setCell ?_ (by first | omega | (simp; done) | (simp; omega)) _ | refine below_drewN ?_ _))) (hb2.mono (by first | exact Nat.le_refl _ | (simp; done) | (simp; omega)))); have s2 := R2.size; have K2 : Below w.heap.size w w2 := K3.trans (R2.mono K3.size); have P2 := P3.keep R2; have Q2 := Q3.keep R2; have p2a := P2.1.2.1; have p2b := P2.1.2.2; have z2 := P2.1.1; have q2a := Q2.1.2.1; have q2b := Q2.1.2.2; have q2c := Q2.2.1; have q2d := Q2.2.2; have y2 := Q2.1.1))
          have HV2 := Lib.hid (HV.out.keep K2)
          go_region_held3 (fun w' => w'.cell? ⟨w.heap.size, 0, none⟩ = some (.int .i64 m) ∧ w'.cell? ⟨w.heap.size, 1, none⟩ = some (.slice A xss.length c)) (first | exact ⟨p2a, p2b⟩ | exact ⟨p4a, p4b⟩ | exact ⟨p5a, p5b⟩ | exact ⟨cell_store2 p5a (by omega), cell_store2 p5b (by omega)⟩ | go_keep)
            (first | (go_at_call 94; refine (l03Partial_any _ m _ xss ys xss.length lo hi (HV2.out.drewN 1) HT.out HN.out (by omega) (by omega) (by omega) (by omega) HY.out).mono ?_; rintro e w4 ⟨A4, c4, rfl, o4, hb4⟩; rw [HYL.out] at o4 ⊢; have R4 : Below w2.heap.size w2 w4 := (Below.trans (by (repeat (first | assumption | exact Below.refl _ _ | refine Below.alloc ?_ (by first | omega | (simp; done) | (simp; omega)) _ | refine Below.setCell ?_ (by first | omega | (simp; done) | (simp; omega)) _ | refine below_drewN ?_ _))) (hb4.mono (by first | exact Nat.le_refl _ | (simp; done) | (simp; omega)))); have s4 := R4.size; have K4 : Below w.heap.size w w4 := K2.trans (R4.mono K2.size); have P4 := P2.keep R4; have Q4 := Q2.keep R4; have p4a := P4.1.2.1; have p4b := P4.1.2.2; have z4 := P4.1.1; have q4a := Q4.1.2.1; have q4b := Q4.1.2.2; have q4c := Q4.2.1; have q4d := Q4.2.2; have y4 := Q4.1.1) | (go_at_call 62; refine (l03Make_any _ m A4 n1 c4).mono ?_; rintro e w5 ⟨rfl, hb5⟩; have R5 : Below w4.heap.size w4 w5 := (Below.trans (by (repeat (first | assumption | exact Below.refl _ _ | refine Below.alloc ?_ (by first | omega | (simp; done) | (simp; omega)) _ | refine Below.setCell ?_ (by first | omega | (simp; done) | (simp; omega)) _ | refine below_drewN ?_ _))) (hb5.mono (by first | exact Nat.le_refl _ | (simp; done) | (simp; omega)))); have s5 := R5.size; have K5 : Below w.heap.size w w5 := K4.trans (R5.mono K4.size); have P5 := P4.keep R5; have Q5 := Q4.keep R5; have p5a := P5.1.2.1; have p5b := P5.1.2.2; have z5 := P5.1.1; have q5a := Q5.1.2.1; have q5b := Q5.1.2.2; have q5c := Q5.2.1; have q5d := Q5.2.2; have y5 := Q5.1.1))
          go_wp2
          exact bodyPost_ret (v := .tuple #[.agg #[.int .i64 m, .slice A4 n1 c4], .int .i64 0]) (by simp [results, Try.results45, go_sem, q5a, q5b]) rfl (RetPI.mk ((o4.keep R5).far2 (.inl (by show _ < w2.heap.size; exact y2))) HYL.out (by show w.heap.size ≤ w2.heap.size; omega) (by (repeat (first | assumption | exact Below.refl _ _ | refine Below.alloc ?_ (by first | omega | (simp; done) | (simp; omega)) _ | refine Below.setCell ?_ (by first | omega | (simp; done) | (simp; omega)) _ | refine below_drewN ?_ _))))
        · have hkb : (k == 0) = false := by simpa using hk
          obtain ⟨us, hu⟩ : ∃ us, (tab xss.length fun i j => co2 xss j i) = us := ⟨_, rfl⟩
          obtain ⟨vs, hvs⟩ : ∃ vs, (tab (xss.length - 1) fun i j => prF us 0 i j % m) = vs := ⟨_, rfl⟩
          have HU := Lib.hid hu
          have HVS := Lib.hid hvs
          have HUT : Hid (Tri xss.length us) := by unfold Hid; rw [← hu]; exact Tri.tab _ _
          have HUL : Hid (us.length = xss.length) := HUT.out.1
          have HUN : Hid (Num2 m us) := by unfold Hid; rw [← hu]; exact Num2.tab (by omega) _ _ fun i j => HN.out j i
          have HVT : Hid (Tri (xss.length - 1) vs) := by unfold Hid; rw [← hvs]; exact Tri.tab _ _
          have HY : Hid ((tab (xss.length - 1) fun i j => co2 vs j i) = ys) := by unfold Hid; rw [← hvs, ← hu, ← hy]; exact partial_turn m xss xss.length k hk (by omega)
          obtain ⟨n1, hn1⟩ : ∃ n1, n1 = xss.length - 1 := ⟨_, rfl⟩
          rw [← hn1] at HVT HY
          have HVL : Hid (vs.length = n1) := HVT.out.1
          have HYL : Hid (ys.length = n1) := hyl.trans hn1.symm
          have hn2 : n1 + 1 ≤ xss.length ∧ xss.length ≤ n1 + 1 := by omega
          clear HF hs hd h2 hy hk hyl hn1 hu hvs
          go_enter Try.func45, Try.ntmps45
          go_wp2_with (first | (go_at_call 50; refine (l03Is_any _ m _ xss lo hi (OwnP.keep HV.out (by (repeat (first | assumption | exact Below.refl _ _ | refine Below.alloc ?_ (by first | omega | (simp; done) | (simp; omega)) _ | refine Below.setCell ?_ (by first | omega | (simp; done) | (simp; omega)) _ | refine below_drewN ?_ _)))) hl).mono ?_; rintro e w1 ⟨rfl, hb1⟩; rw [HS.out]; obtain ⟨P1, Q1, K1⟩ := Bf.first2 hb1; have p1a := P1.1.2.1; have p1b := P1.1.2.2; have z1 := P1.1.1; have q1a := Q1.1.2.1; have q1b := Q1.1.2.2; have q1c := Q1.2.1; have q1d := Q1.2.2; have y1 := Q1.1.1) | (go_at_call 60; refine (l01In_b _ _ _ _ _ HD).mono ?_; rintro e w3 ⟨rfl, hb3⟩; have R3 : Below w1.heap.size w1 w3 := (Below.trans (by (repeat (first | assumption | exact Below.refl _ _ | refine Below.alloc ?_ (by first | omega | (simp; done) | (simp; omega)) _ | refine Below.setCell ?_ (by first | omega | (simp; done) | (simp; omega)) _ | refine below_drewN ?_ _))) (hb3.mono (by first | exact Nat.le_refl _ | (simp; done) | (simp; omega)))); have s3 := R3.size; have K3 : Below w.heap.size w w3 := K1.trans (R3.mono K1.size); have P3 := P1.keep R3; have Q3 := Q1.keep R3; have p3a := P3.1.2.1; have p3b := P3.1.2.2; have z3 := P3.1.1; have q3a := Q3.1.2.1; have q3b := Q3.1.2.2; have q3c := Q3.2.1; have q3d := Q3.2.2; have y3 := Q3.1.1) | (go_at_call 68; refine (l03Degree_any m A xss.length c _ (by omega)).mono ?_; rintro e w2 ⟨rfl, hb2⟩; have R2 : Below w3.heap.size w3 w2 := (Below.trans (by (repeat (first | assumption | exact Below.refl _ _ | refine Below.alloc ?_ (by first | omega | (simp; done) | (simp; omega)) _ | refine Below.setCell ?_ (by first | omega | (simp; done) | (simp; omega)) _ | refine below_drewN ?_ _))) (hb2.mono (by first | exact Nat.le_refl _ | (simp; done) | (simp; omega)))); have s2 := R2.size; have K2 : Below w.heap.size w w2 := K3.trans (R2.mono K3.size); have P2 := P3.keep R2; have Q2 := Q3.keep R2; have p2a := P2.1.2.1; have p2b := P2.1.2.2; have z2 := P2.1.1; have q2a := Q2.1.2.1; have q2b := Q2.1.2.2; have q2c := Q2.2.1; have q2d := Q2.2.2; have y2 := Q2.1.1))
          have HV2 := Lib.hid (HV.out.keep K2)
          go_region_held3 (fun w' => w'.cell? ⟨w.heap.size, 0, none⟩ = some (.int .i64 m) ∧ w'.cell? ⟨w.heap.size, 1, none⟩ = some (.slice A xss.length c)) (first | exact ⟨p2a, p2b⟩ | exact ⟨p6a, p6b⟩ | exact ⟨p7a, p7b⟩ | exact ⟨p4a, p4b⟩ | exact ⟨p5a, p5b⟩ | exact ⟨cell_store2 p5a (by omega), cell_store2 p5b (by omega)⟩ | go_keep)
            (first | (go_at_call 83; have _h := R7; refine (l03Turn_any _ _ vs ys n1 _ _ O7.out HVT.out (by omega) (by omega) HY.out).mono ?_; rintro e w4 ⟨A4, c4, rfl, o4, hb4⟩; rw [HYL.out] at o4 ⊢; have R4 : Below w7.heap.size w7 w4 := (Below.trans (by (repeat (first | assumption | exact Below.refl _ _ | refine Below.alloc ?_ (by first | omega | (simp; done) | (simp; omega)) _ | refine Below.setCell ?_ (by first | omega | (simp; done) | (simp; omega)) _ | refine below_drewN ?_ _))) (hb4.mono (by first | exact Nat.le_refl _ | (simp; done) | (simp; omega)))); have s4 := R4.size; have K4 : Below w.heap.size w w4 := K7.trans (R4.mono K7.size); have P4 := P7.keep R4; have Q4 := Q7.keep R4; have p4a := P4.1.2.1; have p4b := P4.1.2.2; have z4 := P4.1.1; have q4a := Q4.1.2.1; have q4b := Q4.1.2.2; have q4c := Q4.2.1; have q4d := Q4.2.2; have y4 := Q4.1.1) | (go_at_call 83; refine (l03Turn_any _ _ xss us xss.length lo hi (HV2.out.drewN 1) HT.out (by omega) (by omega) HU.out).mono ?_; rintro e w6 ⟨A6, c6, rfl, o6, hb6⟩; rw [HUL.out] at o6 ⊢; have O6 := Lib.hid o6; clear o6; have R6 : Below w2.heap.size w2 w6 := (Below.trans (by (repeat (first | assumption | exact Below.refl _ _ | refine Below.alloc ?_ (by first | omega | (simp; done) | (simp; omega)) _ | refine Below.setCell ?_ (by first | omega | (simp; done) | (simp; omega)) _ | refine below_drewN ?_ _))) (hb6.mono (by first | exact Nat.le_refl _ | (simp; done) | (simp; omega)))); have s6 := R6.size; have K6 : Below w.heap.size w w6 := K2.trans (R6.mono K2.size); have P6 := P2.keep R6; have Q6 := Q2.keep R6; have p6a := P6.1.2.1; have p6b := P6.1.2.2; have z6 := P6.1.1; have q6a := Q6.1.2.1; have q6b := Q6.1.2.2; have q6c := Q6.2.1; have q6d := Q6.2.2; have y6 := Q6.1.1) | (go_at_call 94; refine (l03Partial_any _ m _ us vs xss.length _ _ O6.out HUT.out HUN.out (by omega) (by omega) (by omega) (by omega) HVS.out).mono ?_; rintro e w7 ⟨A7, c7, rfl, o7, hb7⟩; rw [HVL.out] at o7 ⊢; have O7 := Lib.hid o7; clear o7; have R7 : Below w6.heap.size w6 w7 := (Below.trans (by (repeat (first | assumption | exact Below.refl _ _ | refine Below.alloc ?_ (by first | omega | (simp; done) | (simp; omega)) _ | refine Below.setCell ?_ (by first | omega | (simp; done) | (simp; omega)) _ | refine below_drewN ?_ _))) (hb7.mono (by first | exact Nat.le_refl _ | (simp; done) | (simp; omega)))); have s7 := R7.size; have K7 : Below w.heap.size w w7 := K6.trans (R7.mono K6.size); have P7 := P6.keep R7; have Q7 := Q6.keep R7; have p7a := P7.1.2.1; have p7b := P7.1.2.2; have z7 := P7.1.1; have q7a := Q7.1.2.1; have q7b := Q7.1.2.2; have q7c := Q7.2.1; have q7d := Q7.2.2; have y7 := Q7.1.1) | (go_at_call 62; refine (l03Make_any _ m A4 n1 c4).mono ?_; rintro e w5 ⟨rfl, hb5⟩; have R5 : Below w4.heap.size w4 w5 := (Below.trans (by (repeat (first | assumption | exact Below.refl _ _ | refine Below.alloc ?_ (by first | omega | (simp; done) | (simp; omega)) _ | refine Below.setCell ?_ (by first | omega | (simp; done) | (simp; omega)) _ | refine below_drewN ?_ _))) (hb5.mono (by first | exact Nat.le_refl _ | (simp; done) | (simp; omega)))); have s5 := R5.size; have K5 : Below w.heap.size w w5 := K4.trans (R5.mono K4.size); have P5 := P4.keep R5; have Q5 := Q4.keep R5; have p5a := P5.1.2.1; have p5b := P5.1.2.2; have z5 := P5.1.1; have q5a := Q5.1.2.1; have q5b := Q5.1.2.2; have q5c := Q5.2.1; have q5d := Q5.2.2; have y5 := Q5.1.1))
          go_wp2
          exact bodyPost_ret (v := .tuple #[.agg #[.int .i64 m, .slice A4 n1 c4], .int .i64 0]) (by simp [results, Try.results45, go_sem, q5a, q5b]) rfl (RetPI.mk ((o4.keep R5).far2 (.inl (by omega))) HYL.out (by omega) (by (repeat (first | assumption | exact Below.refl _ _ | refine Below.alloc ?_ (by first | omega | (simp; done) | (simp; omega)) _ | refine Below.setCell ?_ (by first | omega | (simp; done) | (simp; omega)) _ | refine below_drewN ?_ _))))

/-! ### The laws' walks, printed by genlaw2.py -/
set_option maxHeartbeats 4000000 in
theorem FnExactPartialPlane_walk (w : World) (m0 : Int) (v0 : Value) (xs0 : List (List Int)) (hv0 : RdP w v0 xs0) (a1 : Int) : Calls Try.prog 13 #[.agg #[.int .i64 m0, v0], .int .i64 a1] w fun e w' => e = .returned (.bool true) ∧ Below w.heap.size w w' := by
  obtain ⟨A0, c0, e0⟩ := hv0.form
  subst e0
  obtain ⟨r0, HR⟩ : ∃ r0, Hid (PartialPlaneR m0 xs0 a1 = r0) := ⟨_, rfl⟩
  obtain ⟨⟨rm, rl⟩, rc⟩ := r0
  have hlen := PartialPlaneR_len m0 xs0 a1
  rw [HR.out] at hlen
  simp only at hlen
  by_cases hz0 : 1048576 < ((szP xs0) : Int)
  · skip
    have HZ0 := Lib.hid (szN_lt hz0)
    go_enter Try.func13, Try.ntmps13
    go_wp2_with fail
    refine (szP_any _ m0 _ xs0 (1048576) (hv0.below (by (repeat (first | assumption | exact Below.refl _ _ | refine Below.alloc ?_ (by first | omega | (simp; done) | (simp; omega)) _ | refine Below.setCell ?_ (by first | omega | (simp; done) | (simp; omega)) _ | refine below_drewN ?_ _)))) (by omega) (by omega)).mono ?_
    rintro e w1 ⟨rfl, hb1⟩
    rw [HZ0.out]
    have R : Below w.heap.size w w1 := Below.trans (by (repeat (first | assumption | exact Below.refl _ _ | refine Below.alloc ?_ (by first | omega | (simp; done) | (simp; omega)) _ | refine Below.setCell ?_ (by first | omega | (simp; done) | (simp; omega)) _ | refine below_drewN ?_ _))) (hb1.mono (by first | exact Nat.le_refl _ | (simp; done) | (simp; omega)))
    have s1 : w.heap.size ≤ w1.heap.size := R.size
    have K1 : Hid (Below w.heap.size w w1) := R
    have b0 : Hid (Bx w1 w.heap.size (.int .i64 m0) (.slice A0 xs0.length c0)) := ⟨by have := hb1.size; simp at this; omega, by rw [hb1.cell (by first | (simp; done) | (simp; omega))]; simp, by rw [hb1.cell (by first | (simp; done) | (simp; omega))]; simp⟩
    clear R hb1
    have b0_c := b0.out.2.1
    have b0_d := b0.out.2.2
    have b0_z := b0.out.1
    go_wp2
    go_ret
    exact ⟨rfl, K1.out⟩
  have HZ0 := Lib.hid (szN_ge hz0)
  have hl0 : ((szP xs0) : Int) ≤ 1048576 := by omega
  clear hz0
  have hq0 := cntP_le_szP xs0
  have hq0' := length_le_szP xs0
  go_enter Try.func13, Try.ntmps13
  go_wp2_with fail
  refine (szP_any _ m0 _ xs0 (1048576) (hv0.below (by (repeat (first | assumption | exact Below.refl _ _ | refine Below.alloc ?_ (by first | omega | (simp; done) | (simp; omega)) _ | refine Below.setCell ?_ (by first | omega | (simp; done) | (simp; omega)) _ | refine below_drewN ?_ _)))) (by omega) (by omega)).mono ?_
  rintro e w2 ⟨rfl, hb2⟩
  rw [HZ0.out]
  have R : Below w.heap.size w w2 := Below.trans (by (repeat (first | assumption | exact Below.refl _ _ | refine Below.alloc ?_ (by first | omega | (simp; done) | (simp; omega)) _ | refine Below.setCell ?_ (by first | omega | (simp; done) | (simp; omega)) _ | refine below_drewN ?_ _))) (hb2.mono (by first | exact Nat.le_refl _ | (simp; done) | (simp; omega)))
  have s2 : w.heap.size ≤ w2.heap.size := R.size
  have K2 : Hid (Below w.heap.size w w2) := R
  have b0 : Hid (Bx w2 w.heap.size (.int .i64 m0) (.slice A0 xs0.length c0)) := ⟨by have := hb2.size; simp at this; omega, by rw [hb2.cell (by first | (simp; done) | (simp; omega))]; simp, by rw [hb2.cell (by first | (simp; done) | (simp; omega))]; simp⟩
  clear R hb2
  have b0_c := b0.out.2.1
  have b0_d := b0.out.2.2
  have b0_z := b0.out.1
  go_wp2_with fail
  refine (toP_any _ m0 _ xs0 (hv0.below K2.out) (by omega)).mono ?_
  rintro e w3 ⟨A_p0, c_p0, rfl, o_p0, hb3⟩
  clear b0_c b0_d b0_z
  have o_p0' := (o_p0).mono (show w2.heap.size ≤ _ from by first | exact Nat.le_refl _ | (simp; done) | (simp; omega)) (Nat.le_refl _)
  clear o_p0
  have R : Below w2.heap.size w2 w3 := Below.trans (by (repeat (first | assumption | exact Below.refl _ _ | refine Below.alloc ?_ (by first | omega | (simp; done) | (simp; omega)) _ | refine Below.setCell ?_ (by first | omega | (simp; done) | (simp; omega)) _ | refine below_drewN ?_ _))) (hb3.mono (by first | exact Nat.le_refl _ | (simp; done) | (simp; omega)))
  have s3 : w2.heap.size ≤ w3.heap.size := R.size
  have K3 : Hid (Below w.heap.size w w3) := K2.out.trans (R.mono (by omega))
  replace b0 : Hid (Bx w3 w.heap.size (.int .i64 m0) (.slice A0 xs0.length c0)) := b0.out.keep R
  clear R hb3
  have p0 : Hid (OwnP w3 w2.heap.size w3.heap.size (.slice A_p0 xs0.length c_p0) xs0) := o_p0'
  clear o_p0'
  have b0_c := b0.out.2.1
  have b0_d := b0.out.2.2
  have b0_z := b0.out.1
  go_wp2_with fail
  refine (sPartialPlaneR_any _ m0 (.slice A_p0 xs0.length c_p0) xs0 a1 w2.heap.size w3.heap.size (p0.out.keep (by (repeat (first | assumption | exact Below.refl _ _ | refine Below.alloc ?_ (by first | omega | (simp; done) | (simp; omega)) _ | refine Below.setCell ?_ (by first | omega | (simp; done) | (simp; omega)) _ | refine below_drewN ?_ _)))) (by omega)).mono ?_
  rintro e w4 h_r
  replace h_r := h_r.of HR
  obtain ⟨A_ow, c_ow, rfl, o_ow, hb4⟩ := h_r
  have o_ow' := (o_ow).mono (show w3.heap.size ≤ _ from by first | exact Nat.le_refl _ | (simp; done) | (simp; omega)) (Nat.le_refl _)
  clear o_ow
  clear b0_c b0_d b0_z
  have R : Below w3.heap.size w3 w4 := Below.trans (by (repeat (first | assumption | exact Below.refl _ _ | refine Below.alloc ?_ (by first | omega | (simp; done) | (simp; omega)) _ | refine Below.setCell ?_ (by first | omega | (simp; done) | (simp; omega)) _ | refine below_drewN ?_ _))) (hb4.mono (by first | exact Nat.le_refl _ | (simp; done) | (simp; omega)))
  have s4 : w3.heap.size ≤ w4.heap.size := R.size
  have K4 : Hid (Below w.heap.size w w4) := K3.out.trans (R.mono (by omega))
  replace b0 : Hid (Bx w4 w.heap.size (.int .i64 m0) (.slice A0 xs0.length c0)) := b0.out.keep R
  replace p0 : Hid (OwnP w4 w2.heap.size w3.heap.size (.slice A_p0 xs0.length c_p0) xs0) := p0.out.keep R
  clear R hb4
  have ow : Hid (OwnP w4 w3.heap.size w4.heap.size (.slice A_ow rl.length c_ow) rl) := o_ow'
  clear o_ow'
  clear p0
  have b0_c := b0.out.2.1
  have b0_d := b0.out.2.2
  have b0_z := b0.out.1
  go_wp2_with fail
  refine (toP_any _ m0 _ xs0 (hv0.below (K4.out.trans (Below.mono (by (repeat (first | assumption | exact Below.refl _ _ | refine Below.alloc ?_ (by first | omega | (simp; done) | (simp; omega)) _ | refine Below.setCell ?_ (by first | omega | (simp; done) | (simp; omega)) _ | refine below_drewN ?_ _))) (by omega)))) (by omega)).mono ?_
  rintro e w5 ⟨A_x0, c_x0, rfl, o_x0, hb5⟩
  clear b0_c b0_d b0_z
  have o_x0' := (o_x0).mono (show (w4.heap.size + 1) ≤ _ from by first | exact Nat.le_refl _ | (simp; done) | (simp; omega)) (Nat.le_refl _)
  clear o_x0
  have R : Below w4.heap.size w4 w5 := Below.trans (by (repeat (first | assumption | exact Below.refl _ _ | refine Below.alloc ?_ (by first | omega | (simp; done) | (simp; omega)) _ | refine Below.setCell ?_ (by first | omega | (simp; done) | (simp; omega)) _ | refine below_drewN ?_ _))) (hb5.mono (by first | exact Nat.le_refl _ | (simp; done) | (simp; omega)))
  have s5 : w4.heap.size ≤ w5.heap.size := R.size
  have K5 : Hid (Below w.heap.size w w5) := K4.out.trans (R.mono (by omega))
  replace b0 : Hid (Bx w5 w.heap.size (.int .i64 m0) (.slice A0 xs0.length c0)) := b0.out.keep R
  replace ow : Hid (OwnP w5 w3.heap.size w4.heap.size (.slice A_ow rl.length c_ow) rl) := ow.out.keep R
  have bw : Hid (Bx w5 w4.heap.size (.int .i64 rm) (.slice A_ow rl.length c_ow)) := ⟨by have := hb5.size; simp at this; omega, by rw [hb5.cell (by first | (simp; done) | (simp; omega))]; simp, by rw [hb5.cell (by first | (simp; done) | (simp; omega))]; simp⟩
  clear R hb5
  have x0 : Hid (OwnP w5 (w4.heap.size + 1) w5.heap.size (.slice A_x0 xs0.length c_x0) xs0) := o_x0'
  clear o_x0'
  have b0_c := b0.out.2.1
  have b0_d := b0.out.2.2
  have b0_z := b0.out.1
  have bw_c := bw.out.2.1
  have bw_d := bw.out.2.2
  have bw_z := bw.out.1
  go_wp2_with fail
  refine (iPartialPlaneR_any _ m0 (.slice A_x0 xs0.length c_x0) xs0 a1 (w4.heap.size + 1) w5.heap.size (x0.out.keep (by (repeat (first | assumption | exact Below.refl _ _ | refine Below.alloc ?_ (by first | omega | (simp; done) | (simp; omega)) _ | refine Below.setCell ?_ (by first | omega | (simp; done) | (simp; omega)) _ | refine below_drewN ?_ _)))) (by omega)).mono ?_
  rintro e w6 h_r
  replace h_r := h_r.of HR
  obtain ⟨A_og, c_og, rfl, o_og, hb6⟩ := h_r
  have o_og' := (o_og).mono (show (w5.heap.size + 1) ≤ _ from by first | exact Nat.le_refl _ | (simp; done) | (simp; omega)) (Nat.le_refl _)
  clear o_og
  clear b0_c b0_d b0_z
  clear bw_c bw_d bw_z
  have R : Below w5.heap.size w5 w6 := Below.trans (by (repeat (first | assumption | exact Below.refl _ _ | refine Below.alloc ?_ (by first | omega | (simp; done) | (simp; omega)) _ | refine Below.setCell ?_ (by first | omega | (simp; done) | (simp; omega)) _ | refine below_drewN ?_ _))) (hb6.mono (by first | exact Nat.le_refl _ | (simp; done) | (simp; omega)))
  have s6 : w5.heap.size ≤ w6.heap.size := R.size
  have K6 : Hid (Below w.heap.size w w6) := K5.out.trans (R.mono (by omega))
  replace b0 : Hid (Bx w6 w.heap.size (.int .i64 m0) (.slice A0 xs0.length c0)) := b0.out.keep R
  replace bw : Hid (Bx w6 w4.heap.size (.int .i64 rm) (.slice A_ow rl.length c_ow)) := bw.out.keep R
  replace ow : Hid (OwnP w6 w3.heap.size w4.heap.size (.slice A_ow rl.length c_ow) rl) := ow.out.keep R
  replace x0 : Hid (OwnP w6 (w4.heap.size + 1) w5.heap.size (.slice A_x0 xs0.length c_x0) xs0) := x0.out.keep R
  have bx0 : Hid (Bx w6 w5.heap.size (.int .i64 m0) (.slice A_x0 xs0.length c_x0)) := ⟨by have := hb6.size; simp at this; omega, by rw [hb6.cell (by first | (simp; done) | (simp; omega))]; simp, by rw [hb6.cell (by first | (simp; done) | (simp; omega))]; simp⟩
  clear R hb6
  have og : Hid (OwnP w6 (w5.heap.size + 1) w6.heap.size (.slice A_og rl.length c_og) rl) := o_og'
  clear o_og'
  have b0_c := b0.out.2.1
  have b0_d := b0.out.2.2
  have b0_z := b0.out.1
  have bw_c := bw.out.2.1
  have bw_d := bw.out.2.2
  have bw_z := bw.out.1
  have bx0_c := bx0.out.2.1
  have bx0_d := bx0.out.2.2
  have bx0_z := bx0.out.1
  go_wp2_with fail
  refine (eqP_any _ rm rm _ _ _ _ (og.out.keep (by (repeat (first | assumption | exact Below.refl _ _ | refine Below.alloc ?_ (by first | omega | (simp; done) | (simp; omega)) _ | refine Below.setCell ?_ (by first | omega | (simp; done) | (simp; omega)) _ | refine below_drewN ?_ _)))).rd (ow.out.keep (by (repeat (first | assumption | exact Below.refl _ _ | refine Below.alloc ?_ (by first | omega | (simp; done) | (simp; omega)) _ | refine Below.setCell ?_ (by first | omega | (simp; done) | (simp; omega)) _ | refine below_drewN ?_ _)))).rd).mono ?_
  rintro e w7 ⟨rfl, hb7⟩
  clear b0_c b0_d b0_z
  clear bw_c bw_d bw_z
  clear bx0_c bx0_d bx0_z
  have R : Below w6.heap.size w6 w7 := Below.trans (by (repeat (first | assumption | exact Below.refl _ _ | refine Below.alloc ?_ (by first | omega | (simp; done) | (simp; omega)) _ | refine Below.setCell ?_ (by first | omega | (simp; done) | (simp; omega)) _ | refine below_drewN ?_ _))) (hb7.mono (by first | exact Nat.le_refl _ | (simp; done) | (simp; omega)))
  have s7 : w6.heap.size ≤ w7.heap.size := R.size
  have K7 : Hid (Below w.heap.size w w7) := K6.out.trans (R.mono (by omega))
  replace b0 : Hid (Bx w7 w.heap.size (.int .i64 m0) (.slice A0 xs0.length c0)) := b0.out.keep R
  replace bw : Hid (Bx w7 w4.heap.size (.int .i64 rm) (.slice A_ow rl.length c_ow)) := bw.out.keep R
  replace bx0 : Hid (Bx w7 w5.heap.size (.int .i64 m0) (.slice A_x0 xs0.length c_x0)) := bx0.out.keep R
  replace ow : Hid (OwnP w7 w3.heap.size w4.heap.size (.slice A_ow rl.length c_ow) rl) := ow.out.keep R
  replace x0 : Hid (OwnP w7 (w4.heap.size + 1) w5.heap.size (.slice A_x0 xs0.length c_x0) xs0) := x0.out.keep R
  replace og : Hid (OwnP w7 (w5.heap.size + 1) w6.heap.size (.slice A_og rl.length c_og) rl) := og.out.keep R
  have bg : Hid (Bx w7 w6.heap.size (.int .i64 rm) (.slice A_og rl.length c_og)) := ⟨by have := hb7.size; simp at this; omega, by rw [hb7.cell (by first | (simp; done) | (simp; omega))]; simp, by rw [hb7.cell (by first | (simp; done) | (simp; omega))]; simp⟩
  clear R hb7
  have b0_c := b0.out.2.1
  have b0_d := b0.out.2.2
  have b0_z := b0.out.1
  have bw_c := bw.out.2.1
  have bw_d := bw.out.2.2
  have bw_z := bw.out.1
  have bx0_c := bx0.out.2.1
  have bx0_d := bx0.out.2.2
  have bx0_z := bx0.out.1
  have bg_c := bg.out.2.1
  have bg_d := bg.out.2.2
  have bg_z := bg.out.1
  go_wp2
  clear b0_c b0_d b0_z
  clear bw_c bw_d bw_z
  clear bx0_c bx0_d bx0_z
  clear bg_c bg_d bg_z
  have L0 : Below w.heap.size w w7.drew := below_drew K7.out
  have T0 : Hid (Bx w7.drew w.heap.size (.int .i64 m0) (.slice A0 xs0.length c0) ∧ Bx w7.drew w4.heap.size (.int .i64 rm) (.slice A_ow rl.length c_ow) ∧ Bx w7.drew w5.heap.size (.int .i64 m0) (.slice A_x0 xs0.length c_x0) ∧ Bx w7.drew w6.heap.size (.int .i64 rm) (.slice A_og rl.length c_og) ∧ OwnP w7.drew w3.heap.size w4.heap.size (.slice A_ow rl.length c_ow) rl ∧ OwnP w7.drew (w4.heap.size + 1) w5.heap.size (.slice A_x0 xs0.length c_x0) xs0 ∧ OwnP w7.drew (w5.heap.size + 1) w6.heap.size (.slice A_og rl.length c_og) rl ∧ Below w.heap.size w w7.drew ∧ w7.heap.size ≤ w7.drew.heap.size) := ⟨b0.out, bw.out, bx0.out, bg.out, ow.out, x0.out, og.out, L0, Nat.le_refl _⟩
  go_region_held3 (fun w' => w'.cell? ⟨w.heap.size, 0, none⟩ = some (.int .i64 m0) ∧ w'.cell? ⟨w.heap.size, 1, none⟩ = some (.slice A0 xs0.length c0) ∧ w'.cell? ⟨w4.heap.size, 0, none⟩ = some (.int .i64 rm) ∧ w'.cell? ⟨w4.heap.size, 1, none⟩ = some (.slice A_ow rl.length c_ow) ∧ w'.cell? ⟨w5.heap.size, 0, none⟩ = some (.int .i64 m0) ∧ w'.cell? ⟨w5.heap.size, 1, none⟩ = some (.slice A_x0 xs0.length c_x0) ∧ w'.cell? ⟨w6.heap.size, 0, none⟩ = some (.int .i64 rm) ∧ w'.cell? ⟨w6.heap.size, 1, none⟩ = some (.slice A_og rl.length c_og) ∧ Hid (Bx w' w.heap.size (.int .i64 m0) (.slice A0 xs0.length c0) ∧ Bx w' w4.heap.size (.int .i64 rm) (.slice A_ow rl.length c_ow) ∧ Bx w' w5.heap.size (.int .i64 m0) (.slice A_x0 xs0.length c_x0) ∧ Bx w' w6.heap.size (.int .i64 rm) (.slice A_og rl.length c_og) ∧ OwnP w' w3.heap.size w4.heap.size (.slice A_ow rl.length c_ow) rl ∧ OwnP w' (w4.heap.size + 1) w5.heap.size (.slice A_x0 xs0.length c_x0) xs0 ∧ OwnP w' (w5.heap.size + 1) w6.heap.size (.slice A_og rl.length c_og) rl ∧ Below w.heap.size w w' ∧ w7.heap.size ≤ w'.heap.size))
    (first | exact ⟨(T0.out.1).2.1, (T0.out.1).2.2, (T0.out.2.1).2.1, (T0.out.2.1).2.2, (T0.out.2.2.1).2.1, (T0.out.2.2.1).2.2, (T0.out.2.2.2.1).2.1, (T0.out.2.2.2.1).2.2, T0⟩ | exact ⟨(T1.out.1).2.1, (T1.out.1).2.2, (T1.out.2.1).2.1, (T1.out.2.1).2.2, (T1.out.2.2.1).2.1, (T1.out.2.2.1).2.2, (T1.out.2.2.2.1).2.1, (T1.out.2.2.2.1).2.2, T1⟩ | exact ⟨(T2.out.1).2.1, (T2.out.1).2.2, (T2.out.2.1).2.1, (T2.out.2.1).2.2, (T2.out.2.2.1).2.1, (T2.out.2.2.1).2.2, (T2.out.2.2.2.1).2.1, (T2.out.2.2.2.1).2.2, T2⟩)
    (first
      | (go_at_call 17; refine (toP_any _ m0 _ xs0 (hv0.below L0) (by omega)).mono ?_; rintro e w8 ⟨A_t, c_t, rfl, o_t, hbA⟩; have T1 : Hid (Bx w8 w.heap.size (.int .i64 m0) (.slice A0 xs0.length c0) ∧ Bx w8 w4.heap.size (.int .i64 rm) (.slice A_ow rl.length c_ow) ∧ Bx w8 w5.heap.size (.int .i64 m0) (.slice A_x0 xs0.length c_x0) ∧ Bx w8 w6.heap.size (.int .i64 rm) (.slice A_og rl.length c_og) ∧ OwnP w8 w3.heap.size w4.heap.size (.slice A_ow rl.length c_ow) rl ∧ OwnP w8 (w4.heap.size + 1) w5.heap.size (.slice A_x0 xs0.length c_x0) xs0 ∧ OwnP w8 (w5.heap.size + 1) w6.heap.size (.slice A_og rl.length c_og) rl ∧ Below w.heap.size w w8 ∧ w7.heap.size ≤ w8.heap.size) := ⟨(T0.out.1).keep hbA, (T0.out.2.1).keep hbA, (T0.out.2.2.1).keep hbA, (T0.out.2.2.2.1).keep hbA, (T0.out.2.2.2.2.1).keep hbA, (T0.out.2.2.2.2.2.1).keep hbA, (T0.out.2.2.2.2.2.2.1).keep hbA, (T0.out.2.2.2.2.2.2.2.1).trans (hbA.mono (Nat.le_trans (show w.heap.size ≤ w7.heap.size from by omega) (T0.out.2.2.2.2.2.2.2.2))), Nat.le_trans (T0.out.2.2.2.2.2.2.2.2) hbA.size⟩)
      | (go_at_call 19; refine (eqP_any _ m0 m0 _ _ xs0 xs0 (T1.out.2.2.2.2.2.1).rd o_t.rd).mono ?_; rintro e w9 ⟨rfl, hbB⟩; have T2 : Hid (Bx w9 w.heap.size (.int .i64 m0) (.slice A0 xs0.length c0) ∧ Bx w9 w4.heap.size (.int .i64 rm) (.slice A_ow rl.length c_ow) ∧ Bx w9 w5.heap.size (.int .i64 m0) (.slice A_x0 xs0.length c_x0) ∧ Bx w9 w6.heap.size (.int .i64 rm) (.slice A_og rl.length c_og) ∧ OwnP w9 w3.heap.size w4.heap.size (.slice A_ow rl.length c_ow) rl ∧ OwnP w9 (w4.heap.size + 1) w5.heap.size (.slice A_x0 xs0.length c_x0) xs0 ∧ OwnP w9 (w5.heap.size + 1) w6.heap.size (.slice A_og rl.length c_og) rl ∧ Below w.heap.size w w9 ∧ w7.heap.size ≤ w9.heap.size) := ⟨(T1.out.1).keep hbB, (T1.out.2.1).keep hbB, (T1.out.2.2.1).keep hbB, (T1.out.2.2.2.1).keep hbB, (T1.out.2.2.2.2.1).keep hbB, (T1.out.2.2.2.2.2.1).keep hbB, (T1.out.2.2.2.2.2.2.1).keep hbB, (T1.out.2.2.2.2.2.2.2.1).trans (hbB.mono (Nat.le_trans (show w.heap.size ≤ w7.heap.size from by omega) (T1.out.2.2.2.2.2.2.2.2))), Nat.le_trans (T1.out.2.2.2.2.2.2.2.2) hbB.size⟩))
  have s9 : w7.heap.size ≤ w9.heap.size := T2.out.2.2.2.2.2.2.2.2
  have K9 : Hid (Below w.heap.size w w9) := T2.out.2.2.2.2.2.2.2.1
  replace b0 : Hid (Bx w9 w.heap.size (.int .i64 m0) (.slice A0 xs0.length c0)) := T2.out.1
  replace bw : Hid (Bx w9 w4.heap.size (.int .i64 rm) (.slice A_ow rl.length c_ow)) := T2.out.2.1
  replace bx0 : Hid (Bx w9 w5.heap.size (.int .i64 m0) (.slice A_x0 xs0.length c_x0)) := T2.out.2.2.1
  replace bg : Hid (Bx w9 w6.heap.size (.int .i64 rm) (.slice A_og rl.length c_og)) := T2.out.2.2.2.1
  replace ow : Hid (OwnP w9 w3.heap.size w4.heap.size (.slice A_ow rl.length c_ow) rl) := T2.out.2.2.2.2.1
  replace x0 : Hid (OwnP w9 (w4.heap.size + 1) w5.heap.size (.slice A_x0 xs0.length c_x0) xs0) := T2.out.2.2.2.2.2.1
  replace og : Hid (OwnP w9 (w5.heap.size + 1) w6.heap.size (.slice A_og rl.length c_og) rl) := T2.out.2.2.2.2.2.2.1
  clear T0 T1 T2 L0 o_t
  have b0_c := b0.out.2.1
  have b0_d := b0.out.2.2
  have b0_z := b0.out.1
  have bw_c := bw.out.2.1
  have bw_d := bw.out.2.2
  have bw_z := bw.out.1
  have bx0_c := bx0.out.2.1
  have bx0_d := bx0.out.2.2
  have bx0_z := bx0.out.1
  have bg_c := bg.out.2.1
  have bg_d := bg.out.2.2
  have bg_z := bg.out.1
  go_wp2_with fail
  refine (markPB_any _ (w4.heap.size + 1) w5.heap.size m0 _ xs0 (1) (x0.out.keep (by (repeat (first | assumption | exact Below.refl _ _ | refine Below.alloc ?_ (by first | omega | (simp; done) | (simp; omega)) _ | refine Below.setCell ?_ (by first | omega | (simp; done) | (simp; omega)) _ | refine below_drewN ?_ _)))) (by omega) (by omega) (by omega)).mono ?_
  rintro e w10 ⟨rfl, o_m, hg10⟩
  clear b0_c b0_d b0_z
  clear bw_c bw_d bw_z
  clear bx0_c bx0_d bx0_z
  clear bg_c bg_d bg_z
  have R : Within (w4.heap.size + 1) w5.heap.size w9 w10 := Within.behind (by (repeat (first | assumption | exact Below.refl _ _ | refine Below.alloc ?_ (by first | omega | (simp; done) | (simp; omega)) _ | refine Below.setCell ?_ (by first | omega | (simp; done) | (simp; omega)) _ | refine below_drewN ?_ _))) hg10
  have s10 : w9.heap.size ≤ w10.heap.size := R.2.2.2.1
  have K10 : Hid (Below w.heap.size w w10) := R.below K9.out (by omega) (by omega)
  replace b0 : Hid (Bx w10 w.heap.size (.int .i64 m0) (.slice A0 xs0.length c0)) := b0.out.within R (by omega)
  replace bw : Hid (Bx w10 w4.heap.size (.int .i64 rm) (.slice A_ow rl.length c_ow)) := bw.out.within R (by omega)
  replace bx0 : Hid (Bx w10 w5.heap.size (.int .i64 m0) (.slice A_x0 xs0.length c_x0)) := bx0.out.within R (by omega)
  replace bg : Hid (Bx w10 w6.heap.size (.int .i64 rm) (.slice A_og rl.length c_og)) := bg.out.within R (by omega)
  replace ow : Hid (OwnP w10 w3.heap.size w4.heap.size (.slice A_ow rl.length c_ow) rl) := ow.out.within R (by omega)
  replace og : Hid (OwnP w10 (w5.heap.size + 1) w6.heap.size (.slice A_og rl.length c_og) rl) := og.out.within R (by omega)
  clear R hg10
  replace x0 : Hid (OwnP w10 (w4.heap.size + 1) w5.heap.size (.slice A_x0 xs0.length c_x0) (mkP (1) xs0)) := o_m
  clear o_m
  have b0_c := b0.out.2.1
  have b0_d := b0.out.2.2
  have b0_z := b0.out.1
  have bw_c := bw.out.2.1
  have bw_d := bw.out.2.2
  have bw_z := bw.out.1
  have bx0_c := bx0.out.2.1
  have bx0_d := bx0.out.2.2
  have bx0_z := bx0.out.1
  have bg_c := bg.out.2.1
  have bg_d := bg.out.2.2
  have bg_z := bg.out.1
  go_wp2_with fail
  refine (eqP_any _ rm rm _ _ _ _ (og.out.keep (by (repeat (first | assumption | exact Below.refl _ _ | refine Below.alloc ?_ (by first | omega | (simp; done) | (simp; omega)) _ | refine Below.setCell ?_ (by first | omega | (simp; done) | (simp; omega)) _ | refine below_drewN ?_ _)))).rd (ow.out.keep (by (repeat (first | assumption | exact Below.refl _ _ | refine Below.alloc ?_ (by first | omega | (simp; done) | (simp; omega)) _ | refine Below.setCell ?_ (by first | omega | (simp; done) | (simp; omega)) _ | refine below_drewN ?_ _)))).rd).mono ?_
  rintro e w11 ⟨rfl, hb11⟩
  clear b0_c b0_d b0_z
  clear bw_c bw_d bw_z
  clear bx0_c bx0_d bx0_z
  clear bg_c bg_d bg_z
  have R : Below w10.heap.size w10 w11 := Below.trans (by (repeat (first | assumption | exact Below.refl _ _ | refine Below.alloc ?_ (by first | omega | (simp; done) | (simp; omega)) _ | refine Below.setCell ?_ (by first | omega | (simp; done) | (simp; omega)) _ | refine below_drewN ?_ _))) (hb11.mono (by first | exact Nat.le_refl _ | (simp; done) | (simp; omega)))
  have s11 : w10.heap.size ≤ w11.heap.size := R.size
  have K11 : Hid (Below w.heap.size w w11) := K10.out.trans (R.mono (by omega))
  replace b0 : Hid (Bx w11 w.heap.size (.int .i64 m0) (.slice A0 xs0.length c0)) := b0.out.keep R
  replace bw : Hid (Bx w11 w4.heap.size (.int .i64 rm) (.slice A_ow rl.length c_ow)) := bw.out.keep R
  replace bx0 : Hid (Bx w11 w5.heap.size (.int .i64 m0) (.slice A_x0 xs0.length c_x0)) := bx0.out.keep R
  replace bg : Hid (Bx w11 w6.heap.size (.int .i64 rm) (.slice A_og rl.length c_og)) := bg.out.keep R
  replace ow : Hid (OwnP w11 w3.heap.size w4.heap.size (.slice A_ow rl.length c_ow) rl) := ow.out.keep R
  replace x0 : Hid (OwnP w11 (w4.heap.size + 1) w5.heap.size (.slice A_x0 xs0.length c_x0) (mkP (1) xs0)) := x0.out.keep R
  replace og : Hid (OwnP w11 (w5.heap.size + 1) w6.heap.size (.slice A_og rl.length c_og) rl) := og.out.keep R
  clear R hb11
  have b0_c := b0.out.2.1
  have b0_d := b0.out.2.2
  have b0_z := b0.out.1
  have bw_c := bw.out.2.1
  have bw_d := bw.out.2.2
  have bw_z := bw.out.1
  have bx0_c := bx0.out.2.1
  have bx0_d := bx0.out.2.2
  have bx0_z := bx0.out.1
  have bg_c := bg.out.2.1
  have bg_d := bg.out.2.2
  have bg_z := bg.out.1
  go_wp2_with fail
  refine (markPB_any _ (w5.heap.size + 1) w6.heap.size rm _ rl (1) (og.out.keep (by (repeat (first | assumption | exact Below.refl _ _ | refine Below.alloc ?_ (by first | omega | (simp; done) | (simp; omega)) _ | refine Below.setCell ?_ (by first | omega | (simp; done) | (simp; omega)) _ | refine below_drewN ?_ _)))) (by omega) (by omega) (by omega)).mono ?_
  rintro e w12 ⟨rfl, o_m, hg12⟩
  clear b0_c b0_d b0_z
  clear bw_c bw_d bw_z
  clear bx0_c bx0_d bx0_z
  clear bg_c bg_d bg_z
  have R : Within (w5.heap.size + 1) w6.heap.size w11 w12 := Within.behind (by (repeat (first | assumption | exact Below.refl _ _ | refine Below.alloc ?_ (by first | omega | (simp; done) | (simp; omega)) _ | refine Below.setCell ?_ (by first | omega | (simp; done) | (simp; omega)) _ | refine below_drewN ?_ _))) hg12
  have s12 : w11.heap.size ≤ w12.heap.size := R.2.2.2.1
  have K12 : Hid (Below w.heap.size w w12) := R.below K11.out (by omega) (by omega)
  replace b0 : Hid (Bx w12 w.heap.size (.int .i64 m0) (.slice A0 xs0.length c0)) := b0.out.within R (by omega)
  replace bw : Hid (Bx w12 w4.heap.size (.int .i64 rm) (.slice A_ow rl.length c_ow)) := bw.out.within R (by omega)
  replace bx0 : Hid (Bx w12 w5.heap.size (.int .i64 m0) (.slice A_x0 xs0.length c_x0)) := bx0.out.within R (by omega)
  replace bg : Hid (Bx w12 w6.heap.size (.int .i64 rm) (.slice A_og rl.length c_og)) := bg.out.within R (by omega)
  replace ow : Hid (OwnP w12 w3.heap.size w4.heap.size (.slice A_ow rl.length c_ow) rl) := ow.out.within R (by omega)
  replace x0 : Hid (OwnP w12 (w4.heap.size + 1) w5.heap.size (.slice A_x0 xs0.length c_x0) (mkP (1) xs0)) := x0.out.within R (by omega)
  clear R hg12
  replace og : Hid (OwnP w12 (w5.heap.size + 1) w6.heap.size (.slice A_og rl.length c_og) (mkP (1) rl)) := o_m
  clear o_m
  have b0_c := b0.out.2.1
  have b0_d := b0.out.2.2
  have b0_z := b0.out.1
  have bw_c := bw.out.2.1
  have bw_d := bw.out.2.2
  have bw_z := bw.out.1
  have bx0_c := bx0.out.2.1
  have bx0_d := bx0.out.2.2
  have bx0_z := bx0.out.1
  have bg_c := bg.out.2.1
  have bg_d := bg.out.2.2
  have bg_z := bg.out.1
  go_wp2_with fail
  refine (heldPB_any _ (w5.heap.size + 1) w6.heap.size rm _ rl (1) (og.out.keep (by (repeat (first | assumption | exact Below.refl _ _ | refine Below.alloc ?_ (by first | omega | (simp; done) | (simp; omega)) _ | refine Below.setCell ?_ (by first | omega | (simp; done) | (simp; omega)) _ | refine below_drewN ?_ _)))) (by omega) (by omega) (by omega)).mono ?_
  rintro e w13 ⟨rfl, hb13⟩
  clear b0_c b0_d b0_z
  clear bw_c bw_d bw_z
  clear bx0_c bx0_d bx0_z
  clear bg_c bg_d bg_z
  have R : Below w12.heap.size w12 w13 := Below.trans (by (repeat (first | assumption | exact Below.refl _ _ | refine Below.alloc ?_ (by first | omega | (simp; done) | (simp; omega)) _ | refine Below.setCell ?_ (by first | omega | (simp; done) | (simp; omega)) _ | refine below_drewN ?_ _))) (hb13.mono (by first | exact Nat.le_refl _ | (simp; done) | (simp; omega)))
  have s13 : w12.heap.size ≤ w13.heap.size := R.size
  have K13 : Hid (Below w.heap.size w w13) := K12.out.trans (R.mono (by omega))
  replace b0 : Hid (Bx w13 w.heap.size (.int .i64 m0) (.slice A0 xs0.length c0)) := b0.out.keep R
  replace bw : Hid (Bx w13 w4.heap.size (.int .i64 rm) (.slice A_ow rl.length c_ow)) := bw.out.keep R
  replace bx0 : Hid (Bx w13 w5.heap.size (.int .i64 m0) (.slice A_x0 xs0.length c_x0)) := bx0.out.keep R
  replace bg : Hid (Bx w13 w6.heap.size (.int .i64 rm) (.slice A_og rl.length c_og)) := bg.out.keep R
  replace ow : Hid (OwnP w13 w3.heap.size w4.heap.size (.slice A_ow rl.length c_ow) rl) := ow.out.keep R
  replace x0 : Hid (OwnP w13 (w4.heap.size + 1) w5.heap.size (.slice A_x0 xs0.length c_x0) (mkP (1) xs0)) := x0.out.keep R
  replace og : Hid (OwnP w13 (w5.heap.size + 1) w6.heap.size (.slice A_og rl.length c_og) (mkP (1) rl)) := og.out.keep R
  clear R hb13
  have b0_c := b0.out.2.1
  have b0_d := b0.out.2.2
  have b0_z := b0.out.1
  have bw_c := bw.out.2.1
  have bw_d := bw.out.2.2
  have bw_z := bw.out.1
  have bx0_c := bx0.out.2.1
  have bx0_d := bx0.out.2.2
  have bx0_z := bx0.out.1
  have bg_c := bg.out.2.1
  have bg_d := bg.out.2.2
  have bg_z := bg.out.1
  go_wp2_with fail
  refine (toP_any _ m0 _ xs0 (hv0.below K13.out) (by omega)).mono ?_
  rintro e w14 ⟨A_y0, c_y0, rfl, o_y0, hb14⟩
  clear b0_c b0_d b0_z
  clear bw_c bw_d bw_z
  clear bx0_c bx0_d bx0_z
  clear bg_c bg_d bg_z
  have o_y0' := (o_y0).mono (show w13.heap.size ≤ _ from by first | exact Nat.le_refl _ | (simp; done) | (simp; omega)) (Nat.le_refl _)
  clear o_y0
  have R : Below w13.heap.size w13 w14 := Below.trans (by (repeat (first | assumption | exact Below.refl _ _ | refine Below.alloc ?_ (by first | omega | (simp; done) | (simp; omega)) _ | refine Below.setCell ?_ (by first | omega | (simp; done) | (simp; omega)) _ | refine below_drewN ?_ _))) (hb14.mono (by first | exact Nat.le_refl _ | (simp; done) | (simp; omega)))
  have s14 : w13.heap.size ≤ w14.heap.size := R.size
  have K14 : Hid (Below w.heap.size w w14) := K13.out.trans (R.mono (by omega))
  replace b0 : Hid (Bx w14 w.heap.size (.int .i64 m0) (.slice A0 xs0.length c0)) := b0.out.keep R
  replace bw : Hid (Bx w14 w4.heap.size (.int .i64 rm) (.slice A_ow rl.length c_ow)) := bw.out.keep R
  replace bx0 : Hid (Bx w14 w5.heap.size (.int .i64 m0) (.slice A_x0 xs0.length c_x0)) := bx0.out.keep R
  replace bg : Hid (Bx w14 w6.heap.size (.int .i64 rm) (.slice A_og rl.length c_og)) := bg.out.keep R
  replace ow : Hid (OwnP w14 w3.heap.size w4.heap.size (.slice A_ow rl.length c_ow) rl) := ow.out.keep R
  replace x0 : Hid (OwnP w14 (w4.heap.size + 1) w5.heap.size (.slice A_x0 xs0.length c_x0) (mkP (1) xs0)) := x0.out.keep R
  replace og : Hid (OwnP w14 (w5.heap.size + 1) w6.heap.size (.slice A_og rl.length c_og) (mkP (1) rl)) := og.out.keep R
  clear R hb14
  have y0 : Hid (OwnP w14 w13.heap.size w14.heap.size (.slice A_y0 xs0.length c_y0) xs0) := o_y0'
  clear o_y0'
  have b0_c := b0.out.2.1
  have b0_d := b0.out.2.2
  have b0_z := b0.out.1
  have bw_c := bw.out.2.1
  have bw_d := bw.out.2.2
  have bw_z := bw.out.1
  have bx0_c := bx0.out.2.1
  have bx0_d := bx0.out.2.2
  have bx0_z := bx0.out.1
  have bg_c := bg.out.2.1
  have bg_d := bg.out.2.2
  have bg_z := bg.out.1
  go_wp2_with fail
  refine (iPartialPlaneR_any _ m0 (.slice A_y0 xs0.length c_y0) xs0 a1 w13.heap.size w14.heap.size (y0.out.keep (by (repeat (first | assumption | exact Below.refl _ _ | refine Below.alloc ?_ (by first | omega | (simp; done) | (simp; omega)) _ | refine Below.setCell ?_ (by first | omega | (simp; done) | (simp; omega)) _ | refine below_drewN ?_ _)))) (by omega)).mono ?_
  rintro e w15 h_r
  replace h_r := h_r.of HR
  obtain ⟨A_oh, c_oh, rfl, o_oh, hb15⟩ := h_r
  have o_oh' := (o_oh).mono (show w14.heap.size ≤ _ from by first | exact Nat.le_refl _ | (simp; done) | (simp; omega)) (Nat.le_refl _)
  clear o_oh
  clear b0_c b0_d b0_z
  clear bw_c bw_d bw_z
  clear bx0_c bx0_d bx0_z
  clear bg_c bg_d bg_z
  have R : Below w14.heap.size w14 w15 := Below.trans (by (repeat (first | assumption | exact Below.refl _ _ | refine Below.alloc ?_ (by first | omega | (simp; done) | (simp; omega)) _ | refine Below.setCell ?_ (by first | omega | (simp; done) | (simp; omega)) _ | refine below_drewN ?_ _))) (hb15.mono (by first | exact Nat.le_refl _ | (simp; done) | (simp; omega)))
  have s15 : w14.heap.size ≤ w15.heap.size := R.size
  have K15 : Hid (Below w.heap.size w w15) := K14.out.trans (R.mono (by omega))
  replace b0 : Hid (Bx w15 w.heap.size (.int .i64 m0) (.slice A0 xs0.length c0)) := b0.out.keep R
  replace bw : Hid (Bx w15 w4.heap.size (.int .i64 rm) (.slice A_ow rl.length c_ow)) := bw.out.keep R
  replace bx0 : Hid (Bx w15 w5.heap.size (.int .i64 m0) (.slice A_x0 xs0.length c_x0)) := bx0.out.keep R
  replace bg : Hid (Bx w15 w6.heap.size (.int .i64 rm) (.slice A_og rl.length c_og)) := bg.out.keep R
  replace ow : Hid (OwnP w15 w3.heap.size w4.heap.size (.slice A_ow rl.length c_ow) rl) := ow.out.keep R
  replace x0 : Hid (OwnP w15 (w4.heap.size + 1) w5.heap.size (.slice A_x0 xs0.length c_x0) (mkP (1) xs0)) := x0.out.keep R
  replace og : Hid (OwnP w15 (w5.heap.size + 1) w6.heap.size (.slice A_og rl.length c_og) (mkP (1) rl)) := og.out.keep R
  replace y0 : Hid (OwnP w15 w13.heap.size w14.heap.size (.slice A_y0 xs0.length c_y0) xs0) := y0.out.keep R
  clear R hb15
  have oh : Hid (OwnP w15 w14.heap.size w15.heap.size (.slice A_oh rl.length c_oh) rl) := o_oh'
  clear o_oh'
  have b0_c := b0.out.2.1
  have b0_d := b0.out.2.2
  have b0_z := b0.out.1
  have bw_c := bw.out.2.1
  have bw_d := bw.out.2.2
  have bw_z := bw.out.1
  have bx0_c := bx0.out.2.1
  have bx0_d := bx0.out.2.2
  have bx0_z := bx0.out.1
  have bg_c := bg.out.2.1
  have bg_d := bg.out.2.2
  have bg_z := bg.out.1
  go_wp2_with fail
  refine (eqP_any _ rm rm _ _ _ _ (oh.out.keep (by (repeat (first | assumption | exact Below.refl _ _ | refine Below.alloc ?_ (by first | omega | (simp; done) | (simp; omega)) _ | refine Below.setCell ?_ (by first | omega | (simp; done) | (simp; omega)) _ | refine below_drewN ?_ _)))).rd (ow.out.keep (by (repeat (first | assumption | exact Below.refl _ _ | refine Below.alloc ?_ (by first | omega | (simp; done) | (simp; omega)) _ | refine Below.setCell ?_ (by first | omega | (simp; done) | (simp; omega)) _ | refine below_drewN ?_ _)))).rd).mono ?_
  rintro e w16 ⟨rfl, hb16⟩
  clear b0_c b0_d b0_z
  clear bw_c bw_d bw_z
  clear bx0_c bx0_d bx0_z
  clear bg_c bg_d bg_z
  have R : Below w15.heap.size w15 w16 := Below.trans (by (repeat (first | assumption | exact Below.refl _ _ | refine Below.alloc ?_ (by first | omega | (simp; done) | (simp; omega)) _ | refine Below.setCell ?_ (by first | omega | (simp; done) | (simp; omega)) _ | refine below_drewN ?_ _))) (hb16.mono (by first | exact Nat.le_refl _ | (simp; done) | (simp; omega)))
  have s16 : w15.heap.size ≤ w16.heap.size := R.size
  have K16 : Hid (Below w.heap.size w w16) := K15.out.trans (R.mono (by omega))
  replace b0 : Hid (Bx w16 w.heap.size (.int .i64 m0) (.slice A0 xs0.length c0)) := b0.out.keep R
  replace bw : Hid (Bx w16 w4.heap.size (.int .i64 rm) (.slice A_ow rl.length c_ow)) := bw.out.keep R
  replace bx0 : Hid (Bx w16 w5.heap.size (.int .i64 m0) (.slice A_x0 xs0.length c_x0)) := bx0.out.keep R
  replace bg : Hid (Bx w16 w6.heap.size (.int .i64 rm) (.slice A_og rl.length c_og)) := bg.out.keep R
  replace ow : Hid (OwnP w16 w3.heap.size w4.heap.size (.slice A_ow rl.length c_ow) rl) := ow.out.keep R
  replace x0 : Hid (OwnP w16 (w4.heap.size + 1) w5.heap.size (.slice A_x0 xs0.length c_x0) (mkP (1) xs0)) := x0.out.keep R
  replace og : Hid (OwnP w16 (w5.heap.size + 1) w6.heap.size (.slice A_og rl.length c_og) (mkP (1) rl)) := og.out.keep R
  replace y0 : Hid (OwnP w16 w13.heap.size w14.heap.size (.slice A_y0 xs0.length c_y0) xs0) := y0.out.keep R
  replace oh : Hid (OwnP w16 w14.heap.size w15.heap.size (.slice A_oh rl.length c_oh) rl) := oh.out.keep R
  have bh : Hid (Bx w16 w15.heap.size (.int .i64 rm) (.slice A_oh rl.length c_oh)) := ⟨by have := hb16.size; simp at this; omega, by rw [hb16.cell (by first | (simp; done) | (simp; omega))]; simp, by rw [hb16.cell (by first | (simp; done) | (simp; omega))]; simp⟩
  clear R hb16
  have b0_c := b0.out.2.1
  have b0_d := b0.out.2.2
  have b0_z := b0.out.1
  have bw_c := bw.out.2.1
  have bw_d := bw.out.2.2
  have bw_z := bw.out.1
  have bx0_c := bx0.out.2.1
  have bx0_d := bx0.out.2.2
  have bx0_z := bx0.out.1
  have bg_c := bg.out.2.1
  have bg_d := bg.out.2.2
  have bg_z := bg.out.1
  have bh_c := bh.out.2.1
  have bh_d := bh.out.2.2
  have bh_z := bh.out.1
  go_wp2_with fail
  refine (heldPB_any _ (w5.heap.size + 1) w6.heap.size rm _ rl (1) (og.out.keep (by (repeat (first | assumption | exact Below.refl _ _ | refine Below.alloc ?_ (by first | omega | (simp; done) | (simp; omega)) _ | refine Below.setCell ?_ (by first | omega | (simp; done) | (simp; omega)) _ | refine below_drewN ?_ _)))) (by omega) (by omega) (by omega)).mono ?_
  rintro e w17 ⟨rfl, hb17⟩
  clear b0_c b0_d b0_z
  clear bw_c bw_d bw_z
  clear bx0_c bx0_d bx0_z
  clear bg_c bg_d bg_z
  clear bh_c bh_d bh_z
  have R : Below w16.heap.size w16 w17 := Below.trans (by (repeat (first | assumption | exact Below.refl _ _ | refine Below.alloc ?_ (by first | omega | (simp; done) | (simp; omega)) _ | refine Below.setCell ?_ (by first | omega | (simp; done) | (simp; omega)) _ | refine below_drewN ?_ _))) (hb17.mono (by first | exact Nat.le_refl _ | (simp; done) | (simp; omega)))
  have s17 : w16.heap.size ≤ w17.heap.size := R.size
  have K17 : Hid (Below w.heap.size w w17) := K16.out.trans (R.mono (by omega))
  replace b0 : Hid (Bx w17 w.heap.size (.int .i64 m0) (.slice A0 xs0.length c0)) := b0.out.keep R
  replace bw : Hid (Bx w17 w4.heap.size (.int .i64 rm) (.slice A_ow rl.length c_ow)) := bw.out.keep R
  replace bx0 : Hid (Bx w17 w5.heap.size (.int .i64 m0) (.slice A_x0 xs0.length c_x0)) := bx0.out.keep R
  replace bg : Hid (Bx w17 w6.heap.size (.int .i64 rm) (.slice A_og rl.length c_og)) := bg.out.keep R
  replace bh : Hid (Bx w17 w15.heap.size (.int .i64 rm) (.slice A_oh rl.length c_oh)) := bh.out.keep R
  replace ow : Hid (OwnP w17 w3.heap.size w4.heap.size (.slice A_ow rl.length c_ow) rl) := ow.out.keep R
  replace x0 : Hid (OwnP w17 (w4.heap.size + 1) w5.heap.size (.slice A_x0 xs0.length c_x0) (mkP (1) xs0)) := x0.out.keep R
  replace og : Hid (OwnP w17 (w5.heap.size + 1) w6.heap.size (.slice A_og rl.length c_og) (mkP (1) rl)) := og.out.keep R
  replace y0 : Hid (OwnP w17 w13.heap.size w14.heap.size (.slice A_y0 xs0.length c_y0) xs0) := y0.out.keep R
  replace oh : Hid (OwnP w17 w14.heap.size w15.heap.size (.slice A_oh rl.length c_oh) rl) := oh.out.keep R
  clear R hb17
  have b0_c := b0.out.2.1
  have b0_d := b0.out.2.2
  have b0_z := b0.out.1
  have bw_c := bw.out.2.1
  have bw_d := bw.out.2.2
  have bw_z := bw.out.1
  have bx0_c := bx0.out.2.1
  have bx0_d := bx0.out.2.2
  have bx0_z := bx0.out.1
  have bg_c := bg.out.2.1
  have bg_d := bg.out.2.2
  have bg_z := bg.out.1
  have bh_c := bh.out.2.1
  have bh_d := bh.out.2.2
  have bh_z := bh.out.1
  go_wp2
  go_ret
  exact ⟨rfl, K17.out⟩


end Go.Proofs.Ytenofgofcioffaa
