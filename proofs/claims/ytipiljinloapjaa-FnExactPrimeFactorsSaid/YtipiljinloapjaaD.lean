/- Contracts over this seat's translation. Condition: each contract's own. -/
import Derived.Test.YtipiljinloapjaaB
import Derived.ProofKit
import Derived.OpenShut
import Derived.Below
import Derived.ChangeSame
import Derived.Deep.Modes
import Derived.Lib.SmallJoins
import Derived.ChangeSlices
import Derived.WalkKit
import Derived.WalkSpells
import Derived.WalkLawsBesides
import Derived.Deep.QuietTactic
import Derived.BigQuiet
import Derived.Deep.RegionHeld3
import Derived.Deep.RegionWith
import Derived.Deep.RegionLaw
import Derived.Deep.AppendLies
import Derived.Laws.CopyOwn
import Derived.Deep.DeepCutAuto
import Derived.Deep.OwnRows
import Derived.Deep.LoopGhost
import Derived.Deep.DeepFit
import Derived.Deep.DeepMust
import Derived.Deep.Draws
import Derived.Deep.CutRange
import Derived.Maps.AppendAt
import Derived.Lib.Hide
import Derived.StillTailTactics
import Derived.Laws.MakeOwn
set_option linter.unusedVariables false
open Go Go.RowKit
namespace Go.Proofs.Ytipiljinloapjaa
/-! ### Boxes of a function's own -/
/-- A box of two cells that may be written. -/
def Bf (w : World) (b : Nat) (x y : Value) : Prop := Bx w b x y ∧ w.frozen? ⟨b, 0, none⟩ = false ∧ w.frozen? ⟨b, 1, none⟩ = false
theorem Bf.keep {w w' : World} {b : Nat} {x y : Value} (h : Bf w b x y) (R : Below w.heap.size w w') : Bf w' b x y :=
  ⟨h.1.keep R, (R.frozen (p := ⟨b, 0, none⟩) h.1.1).trans h.2.1, (R.frozen (p := ⟨b, 1, none⟩) h.1.1).trans h.2.2⟩
theorem Bf.drewN {w : World} {b : Nat} {x y : Value} (h : Bf w b x y) (n : Nat) : Bf (w.drewN n) b x y := h
theorem Bf.alloc1 (w : World) (x y : Value) (t : TypeId) : Bf (w.alloc (.cells #[x, y] t)) w.heap.size x y := ⟨⟨by simp, by simp, by simp⟩, by simp, by simp⟩
theorem below_alloc1 (w : World) (o : Obj) : Below w.heap.size w (w.alloc o) := (Below.refl _ _).alloc (Nat.le_refl _) _
theorem Bf.first1 {w w1 : World} {x y : Value} {t : TypeId} (hb : Below (w.alloc (.cells #[x, y] t)).heap.size (w.alloc (.cells #[x, y] t)) w1) : Bf w1 w.heap.size x y ∧ Below w.heap.size w w1 :=
  ⟨(Bf.alloc1 w x y t).keep hb, (below_alloc1 w _).trans (hb.mono (by simp))⟩
theorem Bf.first2 {w w1 : World} {x y x' y' : Value} {t t' : TypeId} (hb : Below ((w.alloc (.cells #[x, y] t)).alloc (.cells #[x', y'] t')).heap.size ((w.alloc (.cells #[x, y] t)).alloc (.cells #[x', y'] t')) w1) :
    Bf w1 w.heap.size x y ∧ Bf w1 (w.heap.size + 1) x' y' ∧ Below w.heap.size w w1 :=
  ⟨((Bf.alloc1 w x y t).keep (below_alloc1 _ _)).keep hb, by have := (Bf.alloc1 (w.alloc (.cells #[x, y] t)) x' y' t').keep hb; simpa using this, ((below_alloc1 w _).trans ((below_alloc1 (w.alloc (.cells #[x, y] t)) _).mono (by simp))).trans (hb.mono (by simp; omega))⟩

/-! ### Values, orders, cut series, changed moduli -/
theorem NewI.of {w : World} {xs ys : List Int} {e : Ending} {w' : World} (h : NewI w xs e w') (he : Hid (xs = ys)) : NewI w ys e w' := by rw [← he.out]; exact h
theorem isModB_bd {m : Int} (h : isModB m = true) : 2 ≤ m ∧ m ≤ 10000 := isModB_true h
def horn (m x : Int) : List Int → Int
  | [] => 0
  | c :: r => (horn m x r * x + c) % m
theorem horn_step (m x : Int) (xs : List Int) (k : Nat) (hk : k < xs.length) : horn m x (xs.drop k) = (horn m x (xs.drop (k + 1)) * x + xs.getD k 0) % m := by
  rw [List.drop_eq_getElem_cons hk, List.getD_eq_getElem?_getD, List.getElem?_eq_getElem hk]
  rfl
theorem horn_bd {m x : Int} (hm : 0 < m) (xs : List Int) : 0 ≤ horn m x xs ∧ horn m x xs < m := by
  cases xs with
  | nil => exact ⟨Int.le_refl _, hm⟩
  | cons c r => exact ⟨Int.emod_nonneg _ (by omega), Int.emod_lt_of_pos _ hm⟩
theorem mul_bd {a b m n : Int} (ha : 0 ≤ a) (ha' : a ≤ m) (hb : 0 ≤ b) (hb' : b ≤ n) : 0 ≤ a * b ∧ a * b ≤ m * n := ⟨Int.mul_nonneg ha hb, Int.mul_le_mul ha' hb' hb (by omega)⟩
theorem valueOf_any (m : Int) (w : World) (v : Value) (xs : List Int) (B : Nat) (x : Int) (hv : OwnI w B v xs) (hm : 2 ≤ m) (hm' : m ≤ 10000) (hn : ∀ k, 0 ≤ xs.getD k 0 ∧ xs.getD k 0 < m) (hx : 0 ≤ x) (hx' : x < m) (hl : xs.length ≤ 1000000) :
    Calls Try.prog 72 #[.int .i64 m, v, .int .i64 x] w fun e w' => e = .returned (.int .i64 (horn m x xs)) ∧ w = w' := by
  obtain ⟨A, c, rfl, hc1, hc2, hA⟩ := hv.open_
  clear hv
  unfold maxLen at hc2
  have HN := Lib.hid hn
  clear hn
  go_enter Try.func72, Try.ntmps72
  go_wp2
  go_loop [7, 8] (fun t i => ∃ k : Nat, k ≤ xs.length ∧ i = .int .i64 ((k : Int) - 1) ∧ t = .int .i64 (horn m x (xs.drop k))) (fun _ i => (intOf i + 1).toNat)
  case atStart => exact ⟨xs.length, Nat.le_refl _, rfl, by simp [horn]⟩
  case round =>
    obtain ⟨k, hk, rfl, rfl⟩ := hrel
    have hb := horn_bd (x := x) (show 0 < m by omega) (xs.drop k)
    rcases Nat.eq_zero_or_pos k with h0 | h0
    · subst h0
      have hd : decide ((0 : Int) ≤ ((0 : Nat) : Int) - 1) = false := by decide
      go_wp2
      go_ret
      exact ⟨by simp, rfl⟩
    · obtain ⟨j, rfl⟩ : ∃ j, k = j + 1 := ⟨k - 1, by omega⟩
      obtain ⟨g, rfl, hg1, hg2, hcell, hfr⟩ := hA j (by omega)
      clear hA
      have hnj := HN.out j
      have HS := Lib.hid (horn_step m x xs j (by omega))
      generalize xs.getD j 0 = y at *
      generalize horn m x (xs.drop (j + 1)) = t at *
      have hp := mul_bd hb.1 (show t ≤ 10000 by omega) hx (show x ≤ 10000 by omega)
      have hj : ((j + 1 : Nat) : Int) - 1 = (j : Int) := by omega
      rw [hj]
      clear hj
      have hjl : (j : Int) < (xs.length : Int) := by omega
      go_wp2
      go_round
      case rel => exact ⟨j, by omega, rfl, by rw [HS.out]⟩
      case measure => simp [intOf] <;> omega
def OrderOfSeriesR (m : Int) (xs : List Int) : Int × Int := if isSer m xs = false then (0, 1) else if xs.any (fun x => x != 0) = false then (0, 5) else (firstI (fun x => x != 0) xs, 0)
theorem firstI_bd (p : Int → Bool) (xs : List Int) : firstI p xs ≤ xs.length := by
  unfold firstI
  split
  · have := List.findIdx_le_length (xs := xs) (p := p); omega
  · omega
theorem order1_pred (w : World) : Pred w 70 #[] (fun x => x != 0) := by
  refine ⟨Try.call70, fun W x hW => ?_⟩
  go_enter Try.func70, Try.ntmps70
  go_wp2
  go_ret
  exact ⟨rfl, 0, rfl⟩
theorem iOrderOfSeriesR_any (w : World) (m : Int) (v : Value) (xs : List Int) (B : Nat) (hv : OwnI w B v xs) (hl : xs.length ≤ 2000000) : Calls Try.prog 32 #[.agg #[.int .i64 m, v]] w (RetII w (OrderOfSeriesR m xs)) := by
  obtain ⟨A, c, rfl⟩ := hv.form
  cases hs : isSer m xs
  · have HF : OrderOfSeriesR m xs = (0, 1) := by simp [OrderOfSeriesR, hs]
    rw [HF]
    clear HF
    have HS := Lib.hid hs
    clear hs
    go_enter Try.func32, Try.ntmps32
    go_wp2_with (go_at_call 20; refine (iIsSeries_any m _ _ xs B (hv.alloc _) (by omega)).mono ?_; rintro e w1 ⟨rfl, hb1⟩; rw [HS.out])
    go_ret2
    exact ⟨rfl, Below.trans (by (repeat (first | assumption | exact Below.refl _ _ | refine Below.alloc ?_ (by first | omega | (simp; done) | (simp; omega)) _ | refine Below.setCell ?_ (by first | omega | (simp; done) | (simp; omega)) _ | refine below_drewN ?_ _))) (hb1.mono (by simp))⟩
  · cases ha : xs.any (fun x => x != 0)
    · have HF : OrderOfSeriesR m xs = (0, 5) := by simp [OrderOfSeriesR, hs, ha]
      rw [HF]
      clear HF
      have H1 := Lib.hid (firstI_none _ _ ha)
      have HS := Lib.hid hs
      clear hs ha
      go_enter Try.func32, Try.ntmps32
      go_wp2_with (go_at_call 20; refine (iIsSeries_any m _ _ xs B (hv.alloc _) (by omega)).mono ?_; rintro e w1 ⟨rfl, hb1⟩; rw [HS.out]; obtain ⟨hc, hf⟩ := bcell hb1; have hz := hb1.size; simp at hz)
      refine (indexFunc_any _ _ xs B ((hv.alloc _).keep hb1 (Nat.le_refl _)) _ _ _ (order1_pred _)).mono ?_
      rintro e w' ⟨rfl, k', rfl⟩
      rw [H1.out]
      go_wp2
      go_ret2
      exact ⟨rfl, below_drewN (Below.trans (by (repeat (first | assumption | exact Below.refl _ _ | refine Below.alloc ?_ (by first | omega | (simp; done) | (simp; omega)) _ | refine Below.setCell ?_ (by first | omega | (simp; done) | (simp; omega)) _ | refine below_drewN ?_ _))) (hb1.mono (by simp))) _⟩
    · have HF : OrderOfSeriesR m xs = (firstI (fun x => x != 0) xs, 0) := by simp [OrderOfSeriesR, hs, ha]
      rw [HF]
      clear HF
      have h0 := firstI_nonneg (fun x => x != 0) xs
      rw [ha, decide_eq_true_iff] at h0
      have h1 := firstI_bd (fun x => x != 0) xs
      obtain ⟨r, hr⟩ : ∃ r, r = firstI (fun x => x != 0) xs := ⟨_, rfl⟩
      rw [← hr] at h0 h1 ⊢
      have HR := Lib.hid hr
      have HS := Lib.hid hs
      clear hs ha hr
      go_enter Try.func32, Try.ntmps32
      go_wp2_with (go_at_call 20; refine (iIsSeries_any m _ _ xs B (hv.alloc _) (by omega)).mono ?_; rintro e w1 ⟨rfl, hb1⟩; rw [HS.out]; obtain ⟨hc, hf⟩ := bcell hb1; have hz := hb1.size; simp at hz)
      refine (indexFunc_any _ _ xs B ((hv.alloc _).keep hb1 (Nat.le_refl _)) _ _ _ (order1_pred _)).mono ?_
      rintro e w' ⟨rfl, k', rfl⟩
      rw [← HR.out]
      go_wp2
      go_ret2
      exact ⟨rfl, below_drewN (Below.trans (by (repeat (first | assumption | exact Below.refl _ _ | refine Below.alloc ?_ (by first | omega | (simp; done) | (simp; omega)) _ | refine Below.setCell ?_ (by first | omega | (simp; done) | (simp; omega)) _ | refine below_drewN ?_ _))) (hb1.mono (by simp))) _⟩
theorem sOrderOfSeriesR_any (w : World) (m : Int) (v : Value) (xs : List Int) (B : Nat) (hv : OwnI w B v xs) (hl : xs.length ≤ 2000000) : Calls Try.prog 31 #[.agg #[.int .i64 m, v]] w (RetII w (OrderOfSeriesR m xs)) := by
  obtain ⟨A, c, e0, hc1, hc2, hA⟩ := hv.open_
  subst e0
  unfold maxLen at hc2
  cases hs : isSer m xs
  · have HF : OrderOfSeriesR m xs = (0, 1) := by simp [OrderOfSeriesR, hs]
    rw [HF]
    clear HF hA
    have HS := Lib.hid hs
    clear hs
    go_enter Try.func31, Try.ntmps31
    go_wp2_with (go_at_call 56; refine (l02Is_any m _ _ xs B (hv.alloc _) (by omega)).mono ?_; rintro e w1 ⟨rfl, hb1⟩; rw [HS.out])
    go_ret2
    exact ⟨rfl, Below.trans (by (repeat (first | assumption | exact Below.refl _ _ | refine Below.alloc ?_ (by first | omega | (simp; done) | (simp; omega)) _ | refine Below.setCell ?_ (by first | omega | (simp; done) | (simp; omega)) _ | refine below_drewN ?_ _))) (hb1.mono (by simp))⟩
  · have HR : Hid (OrderOfSeriesR m xs = if xs.any (fun x => x != 0) = false then (0, 5) else (firstI (fun x => x != 0) xs, 0)) := by simp [Hid, OrderOfSeriesR, hs]
    have HS := Lib.hid hs
    clear hs
    go_enter Try.func31, Try.ntmps31
    go_wp2_with (go_at_call 56; refine (l02Is_any m _ _ xs B (hv.alloc _) (by omega)).mono ?_; rintro e w1 ⟨rfl, hb1⟩; rw [HS.out])
    have K1 : Below w.heap.size w w1 := Below.trans (by (repeat (first | assumption | exact Below.refl _ _ | refine Below.alloc ?_ (by first | omega | (simp; done) | (simp; omega)) _ | refine Below.setCell ?_ (by first | omega | (simp; done) | (simp; omega)) _ | refine below_drewN ?_ _))) (hb1.mono (by simp))
    have hz := hb1.size
    simp at hz
    have f1 : w1.cell? ⟨w.heap.size, 1, none⟩ = some (.slice A xs.length c) := by rw [hb1.cell (by simp)]; simp
    go_loop [4] (fun i => ∃ k : Nat, k ≤ xs.length ∧ i = .int .i64 k ∧ Hid ((xs.take k).any (fun x => x != 0) = false)) (fun i => xs.length - (intOf i).toNat)
    case atStart => exact ⟨0, Nat.zero_le _, rfl, rfl⟩
    case round =>
      obtain ⟨k, hk, rfl, hn⟩ := hrel
      by_cases hlt : k < xs.length
      · obtain ⟨g, rfl, hg1, hg2, hcell, hfr⟩ := hA k hlt
        clear hA
        have hcell' : w1.cell? ⟨g, k, none⟩ = some (.int .i64 (xs.getD k 0)) := (K1.cell (p := ⟨g, k, none⟩) hg2).trans hcell
        clear hcell
        obtain ⟨x, hx⟩ : ∃ x, x = xs.getD k 0 := ⟨_, rfl⟩
        rw [← hx] at hcell'
        have HX := Lib.hid hx
        clear hx
        by_cases h0 : x = 0
        · have h1 : (x != 0) = false := by simpa using h0
          have HF : Hid ((xs.take (k + 1)).any (fun x => x != 0) = false) := any_take_false _ xs k hlt hn.out (by rw [← HX.out]; exact h1)
          clear h0
          go_wp2
          go_round
          case rel => exact ⟨k + 1, by omega, by go_num, HF.out⟩
          case measure => simp [intOf]; omega
        · have h1 : (x != 0) = true := by simpa using h0
          have HF : Hid (OrderOfSeriesR m xs = ((k : Int), 0)) := by
            unfold Hid
            rw [HR.out, firstI_at _ xs k hlt hn.out (by rw [← HX.out]; exact h1), if_neg]
            rw [Bool.not_eq_false, List.any_eq_true]
            refine ⟨xs[k], List.getElem_mem hlt, ?_⟩
            have h2 := HX.out
            rw [List.getD_eq_getElem?_getD, List.getElem?_eq_getElem hlt] at h2
            simp at h2
            rw [← h2]; exact h1
          clear h0
          go_wp2
          go_ret2
          exact ⟨by rw [HF.out]; rfl, K1⟩
      · have HF : Hid (OrderOfSeriesR m xs = (0, 5)) := by
          unfold Hid
          rw [HR.out, if_pos]
          have := hn.out
          rwa [List.take_of_length_le (by omega)] at this
        go_wp2
        go_ret2
        exact ⟨by rw [HF.out]; rfl, K1⟩

/-! ### ValueOfSeries -/
def ValueOfSeriesR (m : Int) (xs : List Int) (x : Int) : Int × Int := if isSer m xs = false then (0, 1) else if isNumB x m = false then (0, 2) else (horn m x xs, 0)
theorem iValueOfSeriesR_any (w : World) (m : Int) (v : Value) (xs : List Int) (x : Int) (B : Nat) (hv : OwnI w B v xs) (hl : xs.length ≤ 2000000) : Calls Try.prog 34 #[.agg #[.int .i64 m, v], .int .i64 x] w (RetII w (ValueOfSeriesR m xs x)) := by
  obtain ⟨A, c, rfl⟩ := hv.form
  cases hs : isSer m xs
  · have HF : ValueOfSeriesR m xs x = (0, 1) := by simp [ValueOfSeriesR, hs]
    rw [HF]
    clear HF
    have HS := Lib.hid hs
    clear hs
    go_enter Try.func34, Try.ntmps34
    go_wp2_with (go_at_call 20; refine (iIsSeries_any m _ _ xs B (hv.alloc _) (by omega)).mono ?_; rintro e w1 ⟨rfl, hb1⟩; rw [HS.out])
    go_ret2
    exact ⟨rfl, Below.trans (by (repeat (first | assumption | exact Below.refl _ _ | refine Below.alloc ?_ (by first | omega | (simp; done) | (simp; omega)) _ | refine Below.setCell ?_ (by first | omega | (simp; done) | (simp; omega)) _ | refine below_drewN ?_ _))) (hb1.mono (by simp))⟩
  · obtain ⟨hm, ⟨hl1, hl2⟩, hn⟩ := isSer_true hs
    obtain ⟨hm1, hm2⟩ := isModB_true hm
    have HM := Lib.hid hm
    have HN := Lib.hid (isSer_num hs)
    cases hx : isNumB x m
    · have HF : ValueOfSeriesR m xs x = (0, 2) := by simp [ValueOfSeriesR, hs, hx]
      rw [HF]
      clear HF
      have HS := Lib.hid hs
      have HX := Lib.hid hx
      clear hs hx hm hn
      go_enter Try.func34, Try.ntmps34
      go_wp2_with (go_at_call 20; refine (iIsSeries_any m _ _ xs B (hv.alloc _) (by omega)).mono ?_; rintro e w1 ⟨rfl, hb1⟩; rw [HS.out]; have f0 : w1.cell? ⟨w.heap.size, 0, none⟩ = some (.int .i64 m) := (by rw [hb1.cell (by simp)]; simp); have f1 : w1.cell? ⟨w.heap.size, 1, none⟩ = some (.slice A xs.length c) := (by rw [hb1.cell (by simp)]; simp))
      go_wp2_with (go_at_call 62; refine (isNumber_any _ _ _ HM.out).mono ?_; rintro e w2 ⟨rfl, k2, rfl⟩; rw [HX.out])
      go_ret2
      exact ⟨rfl, below_drewN (Below.trans (by (repeat (first | assumption | exact Below.refl _ _ | refine Below.alloc ?_ (by first | omega | (simp; done) | (simp; omega)) _ | refine Below.setCell ?_ (by first | omega | (simp; done) | (simp; omega)) _ | refine below_drewN ?_ _))) (hb1.mono (by simp))) _⟩
    · have HF : ValueOfSeriesR m xs x = (horn m x xs, 0) := by simp [ValueOfSeriesR, hs, hx]
      rw [HF]
      clear HF
      obtain ⟨hx1, hx2⟩ := isNumB_true hx
      have HS := Lib.hid hs
      have HX := Lib.hid hx
      clear hs hx hm hn
      go_enter Try.func34, Try.ntmps34
      go_wp2_with (go_at_call 20; refine (iIsSeries_any m _ _ xs B (hv.alloc _) (by omega)).mono ?_; rintro e w1 ⟨rfl, hb1⟩; rw [HS.out]; have f0 : w1.cell? ⟨w.heap.size, 0, none⟩ = some (.int .i64 m) := (by rw [hb1.cell (by simp)]; simp); have f1 : w1.cell? ⟨w.heap.size, 1, none⟩ = some (.slice A xs.length c) := (by rw [hb1.cell (by simp)]; simp))
      go_wp2_with (go_at_call 62; refine (isNumber_any _ _ _ HM.out).mono ?_; rintro e w2 ⟨rfl, k2, rfl⟩; rw [HX.out])
      refine (valueOf_any m _ _ xs B x (((hv.alloc _).keep hb1 (Nat.le_refl _)).drewN _) (by omega) (by omega) HN.out hx1 hx2 (by omega)).mono ?_
      rintro e w3 ⟨rfl, rfl⟩
      go_wp2
      go_ret2
      exact ⟨rfl, below_drewN (Below.trans (by (repeat (first | assumption | exact Below.refl _ _ | refine Below.alloc ?_ (by first | omega | (simp; done) | (simp; omega)) _ | refine Below.setCell ?_ (by first | omega | (simp; done) | (simp; omega)) _ | refine below_drewN ?_ _))) (hb1.mono (by simp))) _⟩
theorem l02Degree_any (m : Int) (A : Option Addr) (n c : Nat) (w : World) (hn : n ≤ 1000000000) : Calls Try.prog 71 #[.agg #[.int .i64 m, .slice A n c]] w fun e w' => e = .returned (.int .i64 ((n : Int) - 1)) ∧ Below w.heap.size w w' := by
  go_enter Try.func71, Try.ntmps71
  go_wp2
  go_ret
  exact ⟨rfl, by (repeat (first | assumption | exact Below.refl _ _ | refine Below.alloc ?_ (by first | omega | (simp; done) | (simp; omega)) _ | refine Below.setCell ?_ (by first | omega | (simp; done) | (simp; omega)) _ | refine below_drewN ?_ _))⟩
theorem sValueOfSeriesR_any (w : World) (m : Int) (v : Value) (xs : List Int) (x : Int) (B : Nat) (hv : OwnI w B v xs) (hl : xs.length ≤ 2000000) : Calls Try.prog 33 #[.agg #[.int .i64 m, v], .int .i64 x] w (RetII w (ValueOfSeriesR m xs x)) := by
  obtain ⟨A, c, e0, hc1, hc2, hA⟩ := hv.open_
  subst e0
  unfold maxLen at hc2
  cases hs : isSer m xs
  · have HF : ValueOfSeriesR m xs x = (0, 1) := by simp [ValueOfSeriesR, hs]
    rw [HF]
    clear HF hA
    have HS := Lib.hid hs
    clear hs
    go_enter Try.func33, Try.ntmps33
    go_wp2_with (go_at_call 56; refine (l02Is_any m _ _ xs B (hv.alloc _) (by omega)).mono ?_; rintro e w1 ⟨rfl, hb1⟩; rw [HS.out])
    go_ret2
    exact ⟨rfl, Below.trans (by (repeat (first | assumption | exact Below.refl _ _ | refine Below.alloc ?_ (by first | omega | (simp; done) | (simp; omega)) _ | refine Below.setCell ?_ (by first | omega | (simp; done) | (simp; omega)) _ | refine below_drewN ?_ _))) (hb1.mono (by simp))⟩
  · obtain ⟨hm, ⟨hl1, hl2⟩, hn⟩ := isSer_true hs
    obtain ⟨hm1, hm2⟩ := isModB_true hm
    have HN := Lib.hid (isSer_num hs)
    cases hx : isNumB x m
    · have HF : ValueOfSeriesR m xs x = (0, 2) := by simp [ValueOfSeriesR, hs, hx]
      rw [HF]
      clear HF hA
      have HS := Lib.hid hs
      have HX : Hid (inB x 0 (m - 1) = false) := hx
      clear hs hx hm hn
      go_enter Try.func33, Try.ntmps33
      go_wp2_with (go_at_call 56; refine (l02Is_any m _ _ xs B (hv.alloc _) (by omega)).mono ?_; rintro e w1 ⟨rfl, hb1⟩; rw [HS.out]; have f0 : w1.cell? ⟨w.heap.size, 0, none⟩ = some (.int .i64 m) := (by rw [hb1.cell (by simp)]; simp); have f1 : w1.cell? ⟨w.heap.size, 1, none⟩ = some (.slice A xs.length c) := (by rw [hb1.cell (by simp)]; simp))
      go_wp2_with (go_at_call 64; refine (l01In_any _ _ _ _).mono ?_; rintro e w2 ⟨rfl, k2, rfl⟩; rw [HX.out])
      go_ret2
      exact ⟨rfl, below_drewN (Below.trans (by (repeat (first | assumption | exact Below.refl _ _ | refine Below.alloc ?_ (by first | omega | (simp; done) | (simp; omega)) _ | refine Below.setCell ?_ (by first | omega | (simp; done) | (simp; omega)) _ | refine below_drewN ?_ _))) (hb1.mono (by simp))) _⟩
    · have HF : ValueOfSeriesR m xs x = (horn m x xs, 0) := by simp [ValueOfSeriesR, hs, hx]
      rw [HF]
      clear HF
      obtain ⟨hx1, hx2⟩ := isNumB_true hx
      have HS := Lib.hid hs
      have HX : Hid (inB x 0 (m - 1) = true) := hx
      clear hs hx hm hn
      go_enter Try.func33, Try.ntmps33
      go_wp2_with (go_at_call 56; refine (l02Is_any m _ _ xs B (hv.alloc _) (by omega)).mono ?_; rintro e w1 ⟨rfl, hb1⟩; rw [HS.out]; have f0 : w1.cell? ⟨w.heap.size, 0, none⟩ = some (.int .i64 m) := (by rw [hb1.cell (by simp)]; simp); have f1 : w1.cell? ⟨w.heap.size, 1, none⟩ = some (.slice A xs.length c) := (by rw [hb1.cell (by simp)]; simp))
      have K1 : Below w.heap.size w w1 := Below.trans (by (repeat (first | assumption | exact Below.refl _ _ | refine Below.alloc ?_ (by first | omega | (simp; done) | (simp; omega)) _ | refine Below.setCell ?_ (by first | omega | (simp; done) | (simp; omega)) _ | refine below_drewN ?_ _))) (hb1.mono (by simp))
      have z1 := hb1.size
      simp at z1
      go_wp2_with (go_at_call 64; refine (l01In_any _ _ _ _).mono ?_; rintro e w2 ⟨rfl, k2, rfl⟩; rw [HX.out])
      refine (l02Degree_any m A xs.length c _ (by omega)).mono ?_
      rintro e w3 ⟨rfl, hb3⟩
      have K3 : Hid (Below w.heap.size w w3) := (below_drewN K1 k2).trans (hb3.mono (by simp; omega))
      have g0 : w3.cell? ⟨w.heap.size, 0, none⟩ = some (.int .i64 m) := by rw [hb3.cell (by simp; omega)]; exact f0
      have g1 : w3.cell? ⟨w.heap.size, 1, none⟩ = some (.slice A xs.length c) := by rw [hb3.cell (by simp; omega)]; exact f1
      clear f0 f1 hb1 hb3 K1
      go_wp2
      go_loopw [6, 7] (fun t i wr => ∃ k : Nat, k ≤ xs.length ∧ i = .int .i64 ((k : Int) - 1) ∧ t = .int .i64 (horn m x (xs.drop k)) ∧ ∃ n, wr = w3.drewN n) (fun _ i _ => (intOf i + 1).toNat)
      case atStart => exact ⟨xs.length, Nat.le_refl _, rfl, by simp [horn], 0, rfl⟩
      case round =>
        obtain ⟨k, hk, rfl, rfl, n, rfl⟩ := hrel
        have hb := horn_bd (x := x) (show 0 < m by omega) (xs.drop k)
        rcases Nat.eq_zero_or_pos k with h0 | h0
        · subst h0
          have hd : decide ((0 : Int) ≤ ((0 : Nat) : Int) - 1) = false := by decide
          go_wp2
          go_ret2
          exact ⟨by simp, below_drewN K3.out _⟩
        · obtain ⟨j, rfl⟩ : ∃ j, k = j + 1 := ⟨k - 1, by omega⟩
          obtain ⟨g, rfl, hg1, hg2, hcell, hfr⟩ := hA j (by omega)
          clear hA
          have hnj := HN.out j
          have HS := Lib.hid (horn_step m x xs j (by omega))
          have hcell' : w3.cell? ⟨g, j, none⟩ = some (.int .i64 (xs.getD j 0)) := (K3.out.cell (p := ⟨g, j, none⟩) hg2).trans hcell
          clear hcell
          generalize xs.getD j 0 = y at *
          generalize horn m x (xs.drop (j + 1)) = t at *
          have hp := mul_bd hb.1 (show t ≤ 10000 by omega) hx1 (show x ≤ 10000 by omega)
          have hj : ((j + 1 : Nat) : Int) - 1 = (j : Int) := by omega
          rw [hj]
          clear hj
          have hjl : (j : Int) < (xs.length : Int) := by omega
          have hj0 : (0 : Int) ≤ (j : Int) := by omega
          go_wp2
          have q1 : IntKind.i64.wrap (t * x) = t * x := IntWalk.i64_in _ (by omega)
          have q2 : IntKind.i64.wrap (t * x + y) = t * x + y := IntWalk.i64_in _ (by omega)
          have q3 : (t * x + y).tmod m = (t * x + y) % m := Int.tmod_eq_emod_of_nonneg (by omega)
          go_quiet (fail)
          clear q1 q2 q3
          go_wp2
          go_roundw
          case rel => exact ⟨j, by omega, rfl, by rw [HS.out], _, by first | rfl | rw [World.drewN_drewN]⟩
          case measure => simp [intOf] <;> omega

/-! ### Copies of lists; lists of remainders -/
theorem appendAll {w : World} {ops : Array Oper} {rest : List Oper} {o : Oper} {a : Act} {Q : Exit → Act → World → Prop} (s x : Operand) (B : Nat) (v u : Value) (xs ys : List Int)
    (hgd : o.guard = none) (ho : o.op = .call { callee := .builtin .append, args := #[s, x], argTypes := #[25, 25] })
    (hs : a.eval s = v) (hx : a.eval x = u) (hv : OwnI w B v xs) (hu : RdI w u ys) (hy : 0 < ys.length) (hl : xs.length + ys.length ≤ 1000000000000) (hB : B ≤ w.heap.size)
    (h : ∀ v' w', OwnI w' B v' (xs ++ ys) → w.grownBy w' v.ownBlock → wpList Try.prog ops Q rest (a.put o.dst v') w') :
    wpList Try.prog ops Q (o :: rest) a w := by
  obtain ⟨i0, hi, hz0, hz1, hz2⟩ := info_parts T.info64
  obtain ⟨A, c, rfl, hc1, hc2, hA⟩ := hu
  obtain ⟨b, off, rfl, _, _⟩ := hA 0 hy
  refine wpList_append_own _ hgd s x 25 ho B 2 i0 (.int .i64 0) 1 8 Try.underlying25 hi hz0 hz1 hz2 rfl (by decide) v xs.length (xs.map (Value.int .i64)) hs hv ⟨b, off, none⟩ ys.length c (ys.map (Value.int .i64)) hx (by simp) (fun j u hj => ?_) (fun u hu => ?_) (by unfold maxLen; omega) (by omega) hB ?_
  · rw [List.getElem?_map] at hj
    obtain ⟨y, hy1, rfl⟩ := Option.map_eq_some_iff.1 hj
    have hlt : j < ys.length := (List.getElem?_eq_some_iff.1 hy1).1
    obtain ⟨b', off', e, _, hcell⟩ := hA j hlt
    simp only [Option.some.injEq, Addr.mk.injEq] at e
    obtain ⟨rfl, rfl, _⟩ := e
    rw [WideShapes.add_plain, hcell, List.getD_eq_getElem?_getD, hy1]
    rfl
  · obtain ⟨y, _, rfl⟩ := List.mem_map.1 hu
    rfl
  · intro v' w' h1 h2 _
    refine h v' w' ?_ h2
    unfold OwnI
    simpa using h1
theorem copyOf_any (w : World) (v : Value) (xs ys : List Int) (hv : RdI w v xs) (hy : xs = ys) (h0 : 0 < xs.length) (hl : xs.length ≤ 1000000000) : Calls Try.prog 77 #[v] w (NewI w ys) := by
  obtain ⟨A, c, e0, _⟩ := id hv
  subst e0
  have HY := Lib.hid hy
  clear hy
  go_enter Try.func77, Try.ntmps77
  go_wp2_with (at_builtin; refine appendAll _ _ w.heap.size (.slice (some ⟨w.heap.size, 0, none⟩) 0 0) _ [] xs (by rfl) (by rfl) (by rfl) (by rfl) ((RowI.lit w [] #[] rfl (by simp)).own (Nat.le_refl _)) (hv.below (by (repeat (first | assumption | exact Below.refl _ _ | refine Below.alloc ?_ (by first | omega | (simp; done) | (simp; omega)) _ | refine Below.setCell ?_ (by first | omega | (simp; done) | (simp; omega)) _ | refine below_drewN ?_ _)))) h0 (by simp; omega) (by simp) ?_; intro v' w1 ho hg; obtain ⟨A', c', e1⟩ := ho.form; subst e1)
  go_ret
  refine NewI.of ⟨A', c', rfl, ho, ?_⟩ HY
  refine Below.grown (by (repeat (first | assumption | exact Below.refl _ _ | refine Below.alloc ?_ (by first | omega | (simp; done) | (simp; omega)) _ | refine Below.setCell ?_ (by first | omega | (simp; done) | (simp; omega)) _ | refine below_drewN ?_ _))) hg (by simp) fun b hb => ?_
  simp [Value.ownBlock] at hb
  omega
theorem l01Own_any (w : World) (v : Value) (xs ys : List Int) (hv : RdI w v xs) (hy : xs = ys) (h0 : 0 < xs.length) (hl : xs.length ≤ 1000000000) : Calls Try.prog 76 #[v] w (NewI w ys) := by
  obtain ⟨A, c, e0, _⟩ := id hv
  subst e0
  have HY := Lib.hid hy
  clear hy
  go_enter Try.func76, Try.ntmps76
  go_wp2_with (at_builtin; refine appendAll _ _ w.heap.size (.slice (some ⟨w.heap.size, 0, none⟩) 0 0) _ [] xs (by rfl) (by rfl) (by rfl) (by rfl) ((RowI.lit w [] #[] rfl (by simp)).own (Nat.le_refl _)) (hv.below (by (repeat (first | assumption | exact Below.refl _ _ | refine Below.alloc ?_ (by first | omega | (simp; done) | (simp; omega)) _ | refine Below.setCell ?_ (by first | omega | (simp; done) | (simp; omega)) _ | refine below_drewN ?_ _)))) h0 (by simp; omega) (by simp) ?_; intro v' w1 ho hg; obtain ⟨A', c', e1⟩ := ho.form; subst e1)
  go_ret
  refine NewI.of ⟨A', c', rfl, ho, ?_⟩ HY
  refine Below.grown (by (repeat (first | assumption | exact Below.refl _ _ | refine Below.alloc ?_ (by first | omega | (simp; done) | (simp; omega)) _ | refine Below.setCell ?_ (by first | omega | (simp; done) | (simp; omega)) _ | refine below_drewN ?_ _))) hg (by simp) fun b hb => ?_
  simp [Value.ownBlock] at hb
  omega
/-- The remainders of the first k numbers. -/
def rests (m : Int) (xs : List Int) : List Int := xs.map fun x => x % m
theorem rests_step (m : Int) (xs : List Int) (k : Nat) (hk : k < xs.length) : rests m (xs.take (k + 1)) = rests m (xs.take k) ++ [xs.getD k 0 % m] := by
  unfold rests
  rw [List.take_succ_eq_append_getElem hk, List.map_append, List.getD_eq_getElem?_getD, List.getElem?_eq_getElem hk]
  rfl
theorem length_rests (m : Int) (xs : List Int) : (rests m xs).length = xs.length := by simp [rests]
theorem l02Rest_any (m : Int) (w : World) (v : Value) (xs ys : List Int) (B : Nat) (hv : OwnI w B v xs) (hy : rests m xs = ys) (hm : 0 < m) (hm' : m ≤ 10000) (hn : ∀ k, 0 ≤ xs.getD k 0 ∧ xs.getD k 0 < 1000000) (hl : xs.length ≤ 1000000) :
    Calls Try.prog 79 #[.int .i64 m, v] w (NewI w ys) := by
  obtain ⟨A, c, e0, hc1, hc2, hA⟩ := hv.open_
  subst e0
  unfold maxLen at hc2
  have HY := Lib.hid hy
  have HN := Lib.hid hn
  clear hy hn
  go_enter Try.func79, Try.ntmps79
  go_wp2
  go_loopw [5, 6] (fun r i wr => ∃ k g c' : Nat, k ≤ xs.length ∧ i = .int .i64 k ∧ r = .slice (some ⟨g, 0, none⟩) k c' ∧ w.heap.size ≤ g ∧ RowI wr g c' (rests m (xs.take k)) ∧ Below w.heap.size w wr) (fun _ i _ => xs.length - (intOf i).toNat)
  case atStart => exact ⟨0, w.heap.size, 0, Nat.zero_le _, rfl, rfl, Nat.le_refl _, RowI.lit w [] #[] rfl (by simp), by (repeat (first | assumption | exact Below.refl _ _ | refine Below.alloc ?_ (by first | omega | (simp; done) | (simp; omega)) _ | refine Below.setCell ?_ (by first | omega | (simp; done) | (simp; omega)) _ | refine below_drewN ?_ _))⟩
  case round =>
    obtain ⟨k, g, c', hk, rfl, rfl, hg, hrow, hb⟩ := hrel
    have hz := hb.size
    have hglt := hrow.lt
    by_cases hlt : k < xs.length
    · obtain ⟨b, rfl, hb1, hb2, hcell, hfr⟩ := hA k hlt
      clear hA
      have hcell' : wr.cell? ⟨b, k, none⟩ = some (.int .i64 (xs.getD k 0)) := (hb.cell (p := ⟨b, k, none⟩) hb2).trans hcell
      clear hcell
      have hnk := HN.out k
      have HS := Lib.hid (rests_step m xs k hlt)
      have HL : Hid ((rests m (xs.take k)).length = k) := by unfold Hid; rw [length_rests, List.length_take]; omega
      generalize xs.getD k 0 = x at *
      have hx1 : 0 ≤ x % m := Int.emod_nonneg _ (by omega)
      have hx2 : x % m < m := Int.emod_lt_of_pos _ hm
      have hk0 : (0 : Int) ≤ (k : Int) := by omega
      have hk1 : (k : Int) < (xs.length : Int) := by omega
      go_wp2_with (at_builtin; refine wpAppend1 _ _ w.heap.size (.slice (some ⟨g, 0, none⟩) k c') (rests m (xs.take k)) k (x % m) wr.heap.size (wr.heap.size + 1) (by rfl) (by rfl) (by rfl) (by rfl) ((hrow.alloc _).own' hg HL.out) HL.out (RowI.block1 _) (by omega) (by simp; omega) (by simp) ?_; intro gg cap w1 hown1 hge hgrow hat)
      go_roundw
      case rel =>
        refine ⟨k + 1, gg, cap, by omega, by go_num, rfl, hge, by rw [HS.out]; exact hown1, ?_⟩
        refine Below.grown (hb.alloc hz _) hgrow (by simp; omega) fun b hb => ?_
        simp [Value.ownBlock] at hb
        omega
      case measure => simp [intOf]; omega
    · obtain rfl : k = xs.length := by omega
      have hrow' : RowI wr g c' ys := by rw [← HY.out]; simpa using hrow
      have hly : Hid (ys.length = xs.length) := by unfold Hid; rw [← HY.out, length_rests]
      go_wp2
      go_ret
      have ho := hrow'.own hg
      exact ⟨_, _, by rw [hly.out]; rfl, ho, hb⟩
theorem remainders_any (m : Int) (w : World) (v : Value) (xs ys : List Int) (B : Nat) (hv : OwnI w B v xs) (hy : rests m xs = ys) (hm : 0 < m) (hm' : m ≤ 10000) (hn : ∀ k, 0 ≤ xs.getD k 0 ∧ xs.getD k 0 < 1000000) (hl : xs.length ≤ 1000000) :
    Calls Try.prog 81 #[v, .int .i64 m] w (NewI w ys) := by
  obtain ⟨A, c, e0, hc1, hc2, hA⟩ := hv.open_
  subst e0
  unfold maxLen at hc2
  have HY := Lib.hid hy
  have HN := Lib.hid hn
  clear hy hn
  go_enter Try.func81, Try.ntmps81
  go_wp2
  go_loopw [5, 11] (fun r i wr => ∃ k g c' : Nat, k ≤ xs.length ∧ i = .int .i64 k ∧ r = .slice (some ⟨g, 0, none⟩) k c' ∧ w.heap.size ≤ g ∧ RowI wr g c' (rests m (xs.take k)) ∧ Below w.heap.size w wr) (fun _ i _ => xs.length - (intOf i).toNat)
  case atStart => exact ⟨0, w.heap.size, 0, Nat.zero_le _, rfl, rfl, Nat.le_refl _, RowI.lit w [] #[] rfl (by simp), by (repeat (first | assumption | exact Below.refl _ _ | refine Below.alloc ?_ (by first | omega | (simp; done) | (simp; omega)) _ | refine Below.setCell ?_ (by first | omega | (simp; done) | (simp; omega)) _ | refine below_drewN ?_ _))⟩
  case round =>
    obtain ⟨k, g, c', hk, rfl, rfl, hg, hrow, hb⟩ := hrel
    have hz := hb.size
    have hglt := hrow.lt
    by_cases hlt : k < xs.length
    · obtain ⟨b, rfl, hb1, hb2, hcell, hfr⟩ := hA k hlt
      clear hA
      have hcell' : wr.cell? ⟨b, k, none⟩ = some (.int .i64 (xs.getD k 0)) := (hb.cell (p := ⟨b, k, none⟩) hb2).trans hcell
      clear hcell
      have hnk := HN.out k
      have HS := Lib.hid (rests_step m xs k hlt)
      have HL : Hid ((rests m (xs.take k)).length = k) := by unfold Hid; rw [length_rests, List.length_take]; omega
      generalize xs.getD k 0 = x at *
      have hx1 : 0 ≤ x % m := Int.emod_nonneg _ (by omega)
      have hx2 : x % m < m := Int.emod_lt_of_pos _ hm
      have hk0 : (0 : Int) ≤ (k : Int) := by omega
      have hk1 : (k : Int) < (xs.length : Int) := by omega
      go_wp2_with (at_builtin; refine wpAppend1 _ _ w.heap.size (.slice (some ⟨g, 0, none⟩) k c') (rests m (xs.take k)) k (x % m) wr.heap.size (wr.heap.size + 1) (by rfl) (by rfl) (by rfl) (by rfl) ((hrow.alloc _).own' hg HL.out) HL.out (RowI.block1 _) (by omega) (by simp; omega) (by simp) ?_; intro gg cap w1 hown1 hge hgrow hat)
      go_roundw
      case rel =>
        refine ⟨k + 1, gg, cap, by omega, by go_num, rfl, hge, by rw [HS.out]; exact hown1, ?_⟩
        refine Below.grown (hb.alloc hz _) hgrow (by simp; omega) fun b hb => ?_
        simp [Value.ownBlock] at hb
        omega
      case measure => simp [intOf]; omega
    · obtain rfl : k = xs.length := by omega
      have hrow' : RowI wr g c' ys := by rw [← HY.out]; simpa using hrow
      have hly : Hid (ys.length = xs.length) := by unfold Hid; rw [← HY.out, length_rests]
      go_wp2
      go_ret
      have ho := hrow'.own hg
      exact ⟨_, _, by rw [hly.out]; rfl, ho, hb⟩

/-! ### CutSeries, ChangeSeries -/
theorem below_grown_new {B : Nat} {w0 w w' : World} {v : Value} (h : Below B w0 w) (hB : B ≤ w.heap.size) (hg : w.grownBy w' v.ownBlock) (hv : ∀ g, v.ownBlock = some g → B ≤ g) : Below B w0 w' := h.grown hg hB fun b hb => hv b hb
theorem l02Make_any (w : World) (m : Int) (A : Option Addr) (n c : Nat) : Calls Try.prog 75 #[.int .i64 m, .slice A n c] w fun e w' => e = .returned (.agg #[.int .i64 m, .slice A n c]) ∧ Below w.heap.size w w' := by
  go_enter Try.func75, Try.ntmps75
  go_wp2
  exact bodyPost_ret (v := .agg #[.int .i64 m, .slice A n c]) (by simp [results, Try.results75, go_sem]) rfl ⟨rfl, by (repeat (first | assumption | exact Below.refl _ _ | refine Below.alloc ?_ (by first | omega | (simp; done) | (simp; omega)) _ | refine Below.setCell ?_ (by first | omega | (simp; done) | (simp; omega)) _ | refine below_drewN ?_ _))⟩
def CutSeriesR (m : Int) (xs : List Int) (d : Int) : (Int × List Int) × Int := if isSer m xs = false then ((0, []), 1) else if inB d 1 ((xs.length : Int) - 1) = false then ((0, []), 2) else ((m, xs.take (d + 1).toNat), 0)
theorem CutSeriesR_len (m : Int) (xs : List Int) (d : Int) : (CutSeriesR m xs d).1.2.length ≤ 100 := by
  unfold CutSeriesR
  cases h : isSer m xs
  · simp
  · have := (isSer_true h).2.1
    split
    · simp
    · split
      · simp
      · simp only [List.length_take]; omega
def ChangeSeriesR (m : Int) (xs : List Int) (n : Int) : (Int × List Int) × Int := if isSer m xs = false then ((0, []), 1) else if isModB n = false ∨ m % n ≠ 0 then ((0, []), 2) else ((n, rests n xs), 0)
theorem ChangeSeriesR_len (m : Int) (xs : List Int) (n : Int) : (ChangeSeriesR m xs n).1.2.length ≤ 100 := by
  unfold ChangeSeriesR
  cases h : isSer m xs
  · simp
  · have := (isSer_true h).2.1
    split
    · simp
    · split
      · simp
      · simp only [length_rests]; omega
theorem getD_take (xs : List Int) (n k : Nat) (h : k < n) : (xs.take n).getD k 0 = xs.getD k 0 := by
  rw [List.getD_eq_getElem?_getD, List.getElem?_take, if_pos h, ← List.getD_eq_getElem?_getD]
theorem OwnI.rdTake {w : World} {B n : Nat} {A : Option Addr} {c : Nat} {xs : List Int} (h : OwnI w B (.slice A xs.length c) xs) (hn : n ≤ xs.length) : RdI w (.slice A n c) (xs.take n) := by
  obtain ⟨A', c', e, h1, h2, h3⟩ := h.open_
  simp only [Value.slice.injEq] at e
  obtain ⟨rfl, _, rfl⟩ := e
  have hl : (xs.take n).length = n := by rw [List.length_take]; omega
  refine ⟨A, c, by rw [hl], by omega, h2, fun k hk => ?_⟩
  rw [hl] at hk
  obtain ⟨g, h4, _, h5, h6, _⟩ := h3 k (by omega)
  exact ⟨g, 0, h4, h5, by rw [Nat.zero_add, getD_take xs n k hk]; exact h6⟩
theorem iCutSeriesR_any (w : World) (m : Int) (v : Value) (xs : List Int) (d : Int) (B : Nat) (hv : OwnI w B v xs) (hl : xs.length ≤ 2000000) : Calls Try.prog 44 #[.agg #[.int .i64 m, v], .int .i64 d] w (RetSI w (CutSeriesR m xs d)) := by
  obtain ⟨A, c, e0, hc1, hc2, hA⟩ := hv.open_
  clear hA
  subst e0
  unfold maxLen at hc2
  cases hs : isSer m xs
  · have HF : CutSeriesR m xs d = ((0, []), 1) := by simp [CutSeriesR, hs]
    rw [HF]
    clear HF
    have HS := Lib.hid hs
    clear hs
    go_enter Try.func44, Try.ntmps44
    go_wp2_with (go_at_call 20; refine (iIsSeries_any m _ _ xs B (OwnI.keep hv (by (repeat (first | assumption | exact Below.refl _ _ | refine Below.alloc ?_ (by first | omega | (simp; done) | (simp; omega)) _ | refine Below.setCell ?_ (by first | omega | (simp; done) | (simp; omega)) _ | refine below_drewN ?_ _))) (Nat.le_refl _)) (by omega)).mono ?_; rintro e w1 ⟨rfl, hb1⟩; rw [HS.out]; obtain ⟨P1, Q1, K1⟩ := Bf.first2 hb1; have p1a := P1.1.2.1; have p1b := P1.1.2.2; have z1 := P1.1.1; have q1a := Q1.1.2.1; have q1b := Q1.1.2.2; have q1c := Q1.2.1; have q1d := Q1.2.2; have y1 := Q1.1.1)
    exact bodyPost_ret (v := .tuple #[.agg #[.int .i64 0, .slice none 0 0], .int .i64 1]) (by simp [results, Try.results44, go_sem, q1a, q1b]) rfl ⟨none, 0, rfl, OwnI.nil_ _ _, by (repeat (first | assumption | exact Below.refl _ _ | refine Below.alloc ?_ (by first | omega | (simp; done) | (simp; omega)) _ | refine Below.setCell ?_ (by first | omega | (simp; done) | (simp; omega)) _ | refine below_drewN ?_ _))⟩
  · obtain ⟨hm, ⟨hl1, hl2⟩, hn⟩ := isSer_true hs
    cases hd : inB d 1 ((xs.length : Int) - 1)
    · have HF : CutSeriesR m xs d = ((0, []), 2) := by simp [CutSeriesR, hs, hd]
      rw [HF]
      clear HF
      have HS := Lib.hid hs
      have HD := Lib.hid hd
      clear hs hd hm hn
      go_enter Try.func44, Try.ntmps44
      go_wp2_with (go_at_call 20; refine (iIsSeries_any m _ _ xs B (OwnI.keep hv (by (repeat (first | assumption | exact Below.refl _ _ | refine Below.alloc ?_ (by first | omega | (simp; done) | (simp; omega)) _ | refine Below.setCell ?_ (by first | omega | (simp; done) | (simp; omega)) _ | refine below_drewN ?_ _))) (Nat.le_refl _)) (by omega)).mono ?_; rintro e w1 ⟨rfl, hb1⟩; rw [HS.out]; obtain ⟨P1, Q1, K1⟩ := Bf.first2 hb1; have p1a := P1.1.2.1; have p1b := P1.1.2.2; have z1 := P1.1.1; have q1a := Q1.1.2.1; have q1b := Q1.1.2.2; have q1c := Q1.2.1; have q1d := Q1.2.2; have y1 := Q1.1.1)
      refine (iDegree_any m A xs.length c _ (by omega)).mono ?_
      rintro e w2 ⟨rfl, hb2⟩
      have R2 : Below w1.heap.size w1 w2 := (Below.trans (by (repeat (first | assumption | exact Below.refl _ _ | refine Below.alloc ?_ (by first | omega | (simp; done) | (simp; omega)) _ | refine Below.setCell ?_ (by first | omega | (simp; done) | (simp; omega)) _ | refine below_drewN ?_ _))) (hb2.mono (by first | exact Nat.le_refl _ | (simp; done) | (simp; omega)))); have s2 := R2.size; have K2 : Below w.heap.size w w2 := K1.trans (R2.mono K1.size); have P2 := P1.keep R2; have Q2 := Q1.keep R2; have p2a := P2.1.2.1; have p2b := P2.1.2.2; have z2 := P2.1.1; have q2a := Q2.1.2.1; have q2b := Q2.1.2.2; have q2c := Q2.2.1; have q2d := Q2.2.2; have y2 := Q2.1.1
      go_wp2_with (go_at_call 58; refine (in_any _ _ _ _).mono ?_; rintro e w3 ⟨rfl, k3, rfl⟩; rw [HD.out])
      exact bodyPost_ret (v := .tuple #[.agg #[.int .i64 0, .slice none 0 0], .int .i64 2]) (by simp [results, Try.results44, go_sem, q2a, q2b]) rfl ⟨none, 0, rfl, OwnI.nil_ _ _, by (repeat (first | assumption | exact Below.refl _ _ | refine Below.alloc ?_ (by first | omega | (simp; done) | (simp; omega)) _ | refine Below.setCell ?_ (by first | omega | (simp; done) | (simp; omega)) _ | refine below_drewN ?_ _))⟩
    · obtain ⟨n, hn1, hn2⟩ : ∃ n : Nat, d = (n : Int) ∧ 1 ≤ n ∧ n + 1 ≤ xs.length := by
        have := inB_true.1 hd
        exact ⟨d.toNat, by omega, by omega, by omega⟩
      subst hn1
      obtain ⟨hn3, hn4⟩ := hn2
      obtain ⟨ys, hy⟩ : ∃ ys, xs.take (n + 1) = ys := ⟨_, rfl⟩
      have hyl : ys.length = n + 1 := by rw [← hy, List.length_take]; omega
      have HF : CutSeriesR m xs (n : Int) = ((m, ys), 0) := by
        have e : ((n : Int) + 1).toNat = n + 1 := by omega
        simp only [CutSeriesR, hs, hd, e, hy]; simp
      rw [HF]
      clear HF
      have HS := Lib.hid hs
      have HD := Lib.hid hd
      have HY := Lib.hid hy
      have HL := Lib.hid hyl
      clear hs hd hm hn hy hyl
      go_enter Try.func44, Try.ntmps44
      go_wp2_with (go_at_call 20; refine (iIsSeries_any m _ _ xs B (OwnI.keep hv (by (repeat (first | assumption | exact Below.refl _ _ | refine Below.alloc ?_ (by first | omega | (simp; done) | (simp; omega)) _ | refine Below.setCell ?_ (by first | omega | (simp; done) | (simp; omega)) _ | refine below_drewN ?_ _))) (Nat.le_refl _)) (by omega)).mono ?_; rintro e w1 ⟨rfl, hb1⟩; rw [HS.out]; obtain ⟨P1, Q1, K1⟩ := Bf.first2 hb1; have p1a := P1.1.2.1; have p1b := P1.1.2.2; have z1 := P1.1.1; have q1a := Q1.1.2.1; have q1b := Q1.1.2.2; have q1c := Q1.2.1; have q1d := Q1.2.2; have y1 := Q1.1.1)
      refine (iDegree_any m A xs.length c _ (by omega)).mono ?_
      rintro e w2 ⟨rfl, hb2⟩
      have R2 : Below w1.heap.size w1 w2 := (Below.trans (by (repeat (first | assumption | exact Below.refl _ _ | refine Below.alloc ?_ (by first | omega | (simp; done) | (simp; omega)) _ | refine Below.setCell ?_ (by first | omega | (simp; done) | (simp; omega)) _ | refine below_drewN ?_ _))) (hb2.mono (by first | exact Nat.le_refl _ | (simp; done) | (simp; omega)))); have s2 := R2.size; have K2 : Below w.heap.size w w2 := K1.trans (R2.mono K1.size); have P2 := P1.keep R2; have Q2 := Q1.keep R2; have p2a := P2.1.2.1; have p2b := P2.1.2.2; have z2 := P2.1.1; have q2a := Q2.1.2.1; have q2b := Q2.1.2.2; have q2c := Q2.2.1; have q2d := Q2.2.2; have y2 := Q2.1.1
      go_wp2_with (go_at_call 58; refine (in_any _ _ _ _).mono ?_; rintro e w3 ⟨rfl, k3, rfl⟩; rw [HD.out])
      have hw1 : IntKind.i64.wrap ((n : Int) + 1) = (n : Int) + 1 := IntWalk.i64_in _ (by omega)
      have hw2 : (0 : Int) ≤ (n : Int) + 1 := by omega
      have hw3 : (n : Int) + 1 ≤ (c : Int) := by omega
      have hw4 : ((n : Int) + 1).toNat = n + 1 := by omega
      go_region_held3 (fun w' => w'.cell? ⟨w.heap.size, 0, none⟩ = some (.int .i64 m) ∧ w'.cell? ⟨w.heap.size, 1, none⟩ = some (.slice A xs.length c)) (first | go_keep | exact ⟨p4a, p4b⟩ | (simp [p4a, p4b]; done))
        (first | (go_at_call 77; refine (copyOf_any _ _ (xs.take (n + 1)) ys (OwnI.rdTake (OwnI.drewN (hv.keep K2 (Nat.le_refl _)) _) hn4) HY.out (by rw [HY.out, HL.out]; omega) (by rw [HY.out, HL.out]; omega)).mono ?_; rintro e w4 ⟨A4, c4, rfl, o4, hb4⟩; have R4 : Below w2.heap.size w2 w4 := (Below.trans (by (repeat (first | assumption | exact Below.refl _ _ | refine Below.alloc ?_ (by first | omega | (simp; done) | (simp; omega)) _ | refine Below.setCell ?_ (by first | omega | (simp; done) | (simp; omega)) _ | refine below_drewN ?_ _))) (hb4.mono (by first | exact Nat.le_refl _ | (simp; done) | (simp; omega)))); have s4 := R4.size; have K4 : Below w.heap.size w w4 := K2.trans (R4.mono K2.size); have P4 := P2.keep R4; have Q4 := Q2.keep R4; have p4a := P4.1.2.1; have p4b := P4.1.2.2; have z4 := P4.1.1; have q4a := Q4.1.2.1; have q4b := Q4.1.2.2; have q4c := Q4.2.1; have q4d := Q4.2.2; have y4 := Q4.1.1))
      go_wp2
      exact bodyPost_ret (v := .tuple #[.agg #[.int .i64 m, .slice A4 ys.length c4], .int .i64 0]) (by simp [results, Try.results44, go_sem, q4a, q4b]) rfl ⟨A4, c4, rfl, ((o4.setCell_lt (by show _ < w2.heap.size; exact y2) _).setCell_lt (by show _ < w2.heap.size; exact y2) _).mono (by show w.heap.size ≤ w2.heap.size; omega), by (repeat (first | assumption | exact Below.refl _ _ | refine Below.alloc ?_ (by first | omega | (simp; done) | (simp; omega)) _ | refine Below.setCell ?_ (by first | omega | (simp; done) | (simp; omega)) _ | refine below_drewN ?_ _))⟩
theorem sCutSeriesR_any (w : World) (m : Int) (v : Value) (xs : List Int) (d : Int) (B : Nat) (hv : OwnI w B v xs) (hl : xs.length ≤ 2000000) : Calls Try.prog 43 #[.agg #[.int .i64 m, v], .int .i64 d] w (RetSI w (CutSeriesR m xs d)) := by
  obtain ⟨A, c, e0, hc1, hc2, hA⟩ := hv.open_
  clear hA
  subst e0
  unfold maxLen at hc2
  cases hs : isSer m xs
  · have HF : CutSeriesR m xs d = ((0, []), 1) := by simp [CutSeriesR, hs]
    rw [HF]
    clear HF
    have HS := Lib.hid hs
    clear hs
    go_enter Try.func43, Try.ntmps43
    go_wp2_with (go_at_call 56; refine (l02Is_any m _ _ xs B (OwnI.keep hv (by (repeat (first | assumption | exact Below.refl _ _ | refine Below.alloc ?_ (by first | omega | (simp; done) | (simp; omega)) _ | refine Below.setCell ?_ (by first | omega | (simp; done) | (simp; omega)) _ | refine below_drewN ?_ _))) (Nat.le_refl _)) (by omega)).mono ?_; rintro e w1 ⟨rfl, hb1⟩; rw [HS.out]; obtain ⟨P1, Q1, K1⟩ := Bf.first2 hb1; have p1a := P1.1.2.1; have p1b := P1.1.2.2; have z1 := P1.1.1; have q1a := Q1.1.2.1; have q1b := Q1.1.2.2; have q1c := Q1.2.1; have q1d := Q1.2.2; have y1 := Q1.1.1)
    exact bodyPost_ret (v := .tuple #[.agg #[.int .i64 0, .slice none 0 0], .int .i64 1]) (by simp [results, Try.results43, go_sem, q1a, q1b]) rfl ⟨none, 0, rfl, OwnI.nil_ _ _, by (repeat (first | assumption | exact Below.refl _ _ | refine Below.alloc ?_ (by first | omega | (simp; done) | (simp; omega)) _ | refine Below.setCell ?_ (by first | omega | (simp; done) | (simp; omega)) _ | refine below_drewN ?_ _))⟩
  · obtain ⟨hm, ⟨hl1, hl2⟩, hn⟩ := isSer_true hs
    cases hd : inB d 1 ((xs.length : Int) - 1)
    · have HF : CutSeriesR m xs d = ((0, []), 2) := by simp [CutSeriesR, hs, hd]
      rw [HF]
      clear HF
      have HS := Lib.hid hs
      have HD := Lib.hid hd
      clear hs hd hm hn
      go_enter Try.func43, Try.ntmps43
      go_wp2_with (go_at_call 56; refine (l02Is_any m _ _ xs B (OwnI.keep hv (by (repeat (first | assumption | exact Below.refl _ _ | refine Below.alloc ?_ (by first | omega | (simp; done) | (simp; omega)) _ | refine Below.setCell ?_ (by first | omega | (simp; done) | (simp; omega)) _ | refine below_drewN ?_ _))) (Nat.le_refl _)) (by omega)).mono ?_; rintro e w1 ⟨rfl, hb1⟩; rw [HS.out]; obtain ⟨P1, Q1, K1⟩ := Bf.first2 hb1; have p1a := P1.1.2.1; have p1b := P1.1.2.2; have z1 := P1.1.1; have q1a := Q1.1.2.1; have q1b := Q1.1.2.2; have q1c := Q1.2.1; have q1d := Q1.2.2; have y1 := Q1.1.1)
      refine (l02Degree_any m A xs.length c _ (by omega)).mono ?_
      rintro e w2 ⟨rfl, hb2⟩
      have R2 : Below w1.heap.size w1 w2 := (Below.trans (by (repeat (first | assumption | exact Below.refl _ _ | refine Below.alloc ?_ (by first | omega | (simp; done) | (simp; omega)) _ | refine Below.setCell ?_ (by first | omega | (simp; done) | (simp; omega)) _ | refine below_drewN ?_ _))) (hb2.mono (by first | exact Nat.le_refl _ | (simp; done) | (simp; omega)))); have s2 := R2.size; have K2 : Below w.heap.size w w2 := K1.trans (R2.mono K1.size); have P2 := P1.keep R2; have Q2 := Q1.keep R2; have p2a := P2.1.2.1; have p2b := P2.1.2.2; have z2 := P2.1.1; have q2a := Q2.1.2.1; have q2b := Q2.1.2.2; have q2c := Q2.2.1; have q2d := Q2.2.2; have y2 := Q2.1.1
      go_wp2_with (go_at_call 64; refine (l01In_any _ _ _ _).mono ?_; rintro e w3 ⟨rfl, k3, rfl⟩; rw [HD.out])
      exact bodyPost_ret (v := .tuple #[.agg #[.int .i64 0, .slice none 0 0], .int .i64 2]) (by simp [results, Try.results43, go_sem, q2a, q2b]) rfl ⟨none, 0, rfl, OwnI.nil_ _ _, by (repeat (first | assumption | exact Below.refl _ _ | refine Below.alloc ?_ (by first | omega | (simp; done) | (simp; omega)) _ | refine Below.setCell ?_ (by first | omega | (simp; done) | (simp; omega)) _ | refine below_drewN ?_ _))⟩
    · obtain ⟨n, hn1, hn2⟩ : ∃ n : Nat, d = (n : Int) ∧ 1 ≤ n ∧ n + 1 ≤ xs.length := by
        have := inB_true.1 hd
        exact ⟨d.toNat, by omega, by omega, by omega⟩
      subst hn1
      obtain ⟨hn3, hn4⟩ := hn2
      obtain ⟨ys, hy⟩ : ∃ ys, xs.take (n + 1) = ys := ⟨_, rfl⟩
      have hyl : ys.length = n + 1 := by rw [← hy, List.length_take]; omega
      have HF : CutSeriesR m xs (n : Int) = ((m, ys), 0) := by
        have e : ((n : Int) + 1).toNat = n + 1 := by omega
        simp only [CutSeriesR, hs, hd, e, hy]; simp
      rw [HF]
      clear HF
      have HS := Lib.hid hs
      have HD := Lib.hid hd
      have HY := Lib.hid hy
      have HL := Lib.hid hyl
      clear hs hd hm hn hy hyl
      go_enter Try.func43, Try.ntmps43
      go_wp2_with (go_at_call 56; refine (l02Is_any m _ _ xs B (OwnI.keep hv (by (repeat (first | assumption | exact Below.refl _ _ | refine Below.alloc ?_ (by first | omega | (simp; done) | (simp; omega)) _ | refine Below.setCell ?_ (by first | omega | (simp; done) | (simp; omega)) _ | refine below_drewN ?_ _))) (Nat.le_refl _)) (by omega)).mono ?_; rintro e w1 ⟨rfl, hb1⟩; rw [HS.out]; obtain ⟨P1, Q1, K1⟩ := Bf.first2 hb1; have p1a := P1.1.2.1; have p1b := P1.1.2.2; have z1 := P1.1.1; have q1a := Q1.1.2.1; have q1b := Q1.1.2.2; have q1c := Q1.2.1; have q1d := Q1.2.2; have y1 := Q1.1.1)
      refine (l02Degree_any m A xs.length c _ (by omega)).mono ?_
      rintro e w2 ⟨rfl, hb2⟩
      have R2 : Below w1.heap.size w1 w2 := (Below.trans (by (repeat (first | assumption | exact Below.refl _ _ | refine Below.alloc ?_ (by first | omega | (simp; done) | (simp; omega)) _ | refine Below.setCell ?_ (by first | omega | (simp; done) | (simp; omega)) _ | refine below_drewN ?_ _))) (hb2.mono (by first | exact Nat.le_refl _ | (simp; done) | (simp; omega)))); have s2 := R2.size; have K2 : Below w.heap.size w w2 := K1.trans (R2.mono K1.size); have P2 := P1.keep R2; have Q2 := Q1.keep R2; have p2a := P2.1.2.1; have p2b := P2.1.2.2; have z2 := P2.1.1; have q2a := Q2.1.2.1; have q2b := Q2.1.2.2; have q2c := Q2.2.1; have q2d := Q2.2.2; have y2 := Q2.1.1
      go_wp2_with (go_at_call 64; refine (l01In_any _ _ _ _).mono ?_; rintro e w3 ⟨rfl, k3, rfl⟩; rw [HD.out])
      have hw1 : IntKind.i64.wrap ((n : Int) + 1) = (n : Int) + 1 := IntWalk.i64_in _ (by omega)
      have hw2 : (0 : Int) ≤ (n : Int) + 1 := by omega
      have hw3 : (n : Int) + 1 ≤ (c : Int) := by omega
      have hw4 : ((n : Int) + 1).toNat = n + 1 := by omega
      go_region_held3 (fun w' => w'.cell? ⟨w.heap.size, 0, none⟩ = some (.int .i64 m) ∧ w'.cell? ⟨w.heap.size, 1, none⟩ = some (.slice A xs.length c)) (first | go_keep | exact ⟨p4a, p4b⟩ | exact ⟨p5a, p5b⟩ | (simp [p5a, p5b]; done))
        (first | (go_at_call 76; refine (l01Own_any _ _ (xs.take (n + 1)) ys (OwnI.rdTake (OwnI.drewN (hv.keep K2 (Nat.le_refl _)) _) hn4) HY.out (by rw [HY.out, HL.out]; omega) (by rw [HY.out, HL.out]; omega)).mono ?_; rintro e w4 ⟨A4, c4, rfl, o4, hb4⟩; have R4 : Below w2.heap.size w2 w4 := (Below.trans (by (repeat (first | assumption | exact Below.refl _ _ | refine Below.alloc ?_ (by first | omega | (simp; done) | (simp; omega)) _ | refine Below.setCell ?_ (by first | omega | (simp; done) | (simp; omega)) _ | refine below_drewN ?_ _))) (hb4.mono (by first | exact Nat.le_refl _ | (simp; done) | (simp; omega)))); have s4 := R4.size; have K4 : Below w.heap.size w w4 := K2.trans (R4.mono K2.size); have P4 := P2.keep R4; have Q4 := Q2.keep R4; have p4a := P4.1.2.1; have p4b := P4.1.2.2; have z4 := P4.1.1; have q4a := Q4.1.2.1; have q4b := Q4.1.2.2; have q4c := Q4.2.1; have q4d := Q4.2.2; have y4 := Q4.1.1) | (go_at_call 75; refine (l02Make_any _ m A4 ys.length c4).mono ?_; rintro e w5 ⟨rfl, hb5⟩; have R5 : Below w4.heap.size w4 w5 := (Below.trans (by (repeat (first | assumption | exact Below.refl _ _ | refine Below.alloc ?_ (by first | omega | (simp; done) | (simp; omega)) _ | refine Below.setCell ?_ (by first | omega | (simp; done) | (simp; omega)) _ | refine below_drewN ?_ _))) (hb5.mono (by first | exact Nat.le_refl _ | (simp; done) | (simp; omega)))); have s5 := R5.size; have K5 : Below w.heap.size w w5 := K4.trans (R5.mono K4.size); have P5 := P4.keep R5; have Q5 := Q4.keep R5; have p5a := P5.1.2.1; have p5b := P5.1.2.2; have z5 := P5.1.1; have q5a := Q5.1.2.1; have q5b := Q5.1.2.2; have q5c := Q5.2.1; have q5d := Q5.2.2; have y5 := Q5.1.1))
      go_wp2
      exact bodyPost_ret (v := .tuple #[.agg #[.int .i64 m, .slice A4 ys.length c4], .int .i64 0]) (by simp [results, Try.results43, go_sem, q5a, q5b]) rfl ⟨A4, c4, rfl, (((o4.keep R5 (Nat.le_refl _)).setCell_lt (by show _ < w2.heap.size; exact y2) _).setCell_lt (by show _ < w2.heap.size; exact y2) _).mono (by show w.heap.size ≤ w2.heap.size; omega), by (repeat (first | assumption | exact Below.refl _ _ | refine Below.alloc ?_ (by first | omega | (simp; done) | (simp; omega)) _ | refine Below.setCell ?_ (by first | omega | (simp; done) | (simp; omega)) _ | refine below_drewN ?_ _))⟩
theorem divides_any (m n : Int) (w : World) (hm : 2 ≤ m ∧ m ≤ 10000) : Calls Try.prog 80 #[.int .i64 n, .int .i64 m] w fun e w' => e = .returned (.bool (isModB n && m % n == 0)) ∧ ∃ k, w' = w.drewN k := by
  obtain ⟨hm1, hm2⟩ := hm
  cases hn : isModB n
  · have HN := Lib.hid hn
    clear hn
    go_enter Try.func80, Try.ntmps80
    go_wp2_with (go_at_call 57; refine (iIsModulus_any n _).mono ?_; rintro e w1 ⟨rfl, k1, rfl⟩; rw [HN.out])
    go_ret
    exact ⟨rfl, _, rfl⟩
  · obtain ⟨h1, h2⟩ := isModB_true hn
    have HN := Lib.hid hn
    clear hn
    have h3 : (n == 0) = false := by simp; omega
    go_enter Try.func80, Try.ntmps80
    go_wp2_with (go_at_call 57; refine (iIsModulus_any n _).mono ?_; rintro e w1 ⟨rfl, k1, rfl⟩; rw [HN.out])
    go_ret
    exact ⟨by simp, _, rfl⟩
theorem isSer_bd {m : Int} {xs : List Int} (h : isSer m xs = true) (k : Nat) : 0 ≤ xs.getD k 0 ∧ xs.getD k 0 < 1000000 := by
  have h1 := isSer_num h k
  have h2 := isModB_true (isSer_true h).1
  omega
theorem iChangeSeriesR_any (w : World) (m : Int) (v : Value) (xs : List Int) (n : Int) (B : Nat) (hv : OwnI w B v xs) (hl : xs.length ≤ 2000000) : Calls Try.prog 48 #[.agg #[.int .i64 m, v], .int .i64 n] w (RetSI w (ChangeSeriesR m xs n)) := by
  obtain ⟨A, c, e0⟩ := hv.form
  subst e0
  cases hs : isSer m xs
  · have HF : ChangeSeriesR m xs n = ((0, []), 1) := by simp [ChangeSeriesR, hs]
    rw [HF]
    clear HF
    have HS := Lib.hid hs
    clear hs
    go_enter Try.func48, Try.ntmps48
    go_wp2_with (go_at_call 20; refine (iIsSeries_any m _ _ xs B (OwnI.keep hv (by (repeat (first | assumption | exact Below.refl _ _ | refine Below.alloc ?_ (by first | omega | (simp; done) | (simp; omega)) _ | refine Below.setCell ?_ (by first | omega | (simp; done) | (simp; omega)) _ | refine below_drewN ?_ _))) (Nat.le_refl _)) (by omega)).mono ?_; rintro e w1 ⟨rfl, hb1⟩; rw [HS.out]; obtain ⟨P1, Q1, K1⟩ := Bf.first2 hb1; have p1a := P1.1.2.1; have p1b := P1.1.2.2; have z1 := P1.1.1; have q1a := Q1.1.2.1; have q1b := Q1.1.2.2; have q1c := Q1.2.1; have q1d := Q1.2.2; have y1 := Q1.1.1)
    exact bodyPost_ret (v := .tuple #[.agg #[.int .i64 0, .slice none 0 0], .int .i64 1]) (by simp [results, Try.results48, go_sem, q1a, q1b]) rfl ⟨none, 0, rfl, OwnI.nil_ _ _, by (repeat (first | assumption | exact Below.refl _ _ | refine Below.alloc ?_ (by first | omega | (simp; done) | (simp; omega)) _ | refine Below.setCell ?_ (by first | omega | (simp; done) | (simp; omega)) _ | refine below_drewN ?_ _))⟩
  · obtain ⟨hm, ⟨hl1, hl2⟩, hn⟩ := isSer_true hs
    have hmb := isModB_true hm
    cases hd : (isModB n && m % n == 0)
    · have HF : ChangeSeriesR m xs n = ((0, []), 2) := by
        have : isModB n = false ∨ m % n ≠ 0 := by
          cases h1 : isModB n
          · exact .inl rfl
          · rw [h1] at hd; simp at hd; exact .inr hd
        simp only [ChangeSeriesR, hs]; simp [this]
      rw [HF]
      clear HF
      have HS := Lib.hid hs
      have HD := Lib.hid hd
      clear hs hd hm hn
      go_enter Try.func48, Try.ntmps48
      go_wp2_with (go_at_call 20; refine (iIsSeries_any m _ _ xs B (OwnI.keep hv (by (repeat (first | assumption | exact Below.refl _ _ | refine Below.alloc ?_ (by first | omega | (simp; done) | (simp; omega)) _ | refine Below.setCell ?_ (by first | omega | (simp; done) | (simp; omega)) _ | refine below_drewN ?_ _))) (Nat.le_refl _)) (by omega)).mono ?_; rintro e w1 ⟨rfl, hb1⟩; rw [HS.out]; obtain ⟨P1, Q1, K1⟩ := Bf.first2 hb1; have p1a := P1.1.2.1; have p1b := P1.1.2.2; have z1 := P1.1.1; have q1a := Q1.1.2.1; have q1b := Q1.1.2.2; have q1c := Q1.2.1; have q1d := Q1.2.2; have y1 := Q1.1.1)
      refine (divides_any m n _ hmb).mono ?_
      rintro e w2 ⟨rfl, k2, rfl⟩
      rw [HD.out]
      go_wp2
      exact bodyPost_ret (v := .tuple #[.agg #[.int .i64 0, .slice none 0 0], .int .i64 2]) (by simp [results, Try.results48, go_sem, q1a, q1b]) rfl ⟨none, 0, rfl, OwnI.nil_ _ _, by (repeat (first | assumption | exact Below.refl _ _ | refine Below.alloc ?_ (by first | omega | (simp; done) | (simp; omega)) _ | refine Below.setCell ?_ (by first | omega | (simp; done) | (simp; omega)) _ | refine below_drewN ?_ _))⟩
    · have hd' := hd
      simp only [Bool.and_eq_true, beq_iff_eq] at hd'
      obtain ⟨hn1, hn2⟩ := isModB_true hd'.1
      obtain ⟨ys, hy⟩ : ∃ ys, rests n xs = ys := ⟨_, rfl⟩
      have HF : ChangeSeriesR m xs n = ((n, ys), 0) := by
        simp only [ChangeSeriesR, hs, hd'.1, hd'.2, hy]; simp
      rw [HF]
      clear HF hd'
      have HN := Lib.hid (isSer_bd hs)
      have HS := Lib.hid hs
      have HD := Lib.hid hd
      have HY := Lib.hid hy
      clear hs hd hm hn hy
      go_enter Try.func48, Try.ntmps48
      go_wp2_with (go_at_call 20; refine (iIsSeries_any m _ _ xs B (OwnI.keep hv (by (repeat (first | assumption | exact Below.refl _ _ | refine Below.alloc ?_ (by first | omega | (simp; done) | (simp; omega)) _ | refine Below.setCell ?_ (by first | omega | (simp; done) | (simp; omega)) _ | refine below_drewN ?_ _))) (Nat.le_refl _)) (by omega)).mono ?_; rintro e w1 ⟨rfl, hb1⟩; rw [HS.out]; obtain ⟨P1, Q1, K1⟩ := Bf.first2 hb1; have p1a := P1.1.2.1; have p1b := P1.1.2.2; have z1 := P1.1.1; have q1a := Q1.1.2.1; have q1b := Q1.1.2.2; have q1c := Q1.2.1; have q1d := Q1.2.2; have y1 := Q1.1.1)
      refine (divides_any m n _ hmb).mono ?_
      rintro e w2 ⟨rfl, k2, rfl⟩
      rw [HD.out]
      go_wp2_with fail
      refine (remainders_any n _ _ xs ys B (OwnI.drewN (hv.keep K1 (Nat.le_refl _)) _) HY.out (by omega) (by omega) HN.out (by omega)).mono ?_
      rintro e w3 ⟨A3, c3, rfl, o3, hb3⟩
      have R3 : Below w1.heap.size w1 w3 := (Below.trans (by (repeat (first | assumption | exact Below.refl _ _ | refine Below.alloc ?_ (by first | omega | (simp; done) | (simp; omega)) _ | refine Below.setCell ?_ (by first | omega | (simp; done) | (simp; omega)) _ | refine below_drewN ?_ _))) (hb3.mono (by first | exact Nat.le_refl _ | (simp; done) | (simp; omega)))); have s3 := R3.size; have K3 : Below w.heap.size w w3 := K1.trans (R3.mono K1.size); have P3 := P1.keep R3; have Q3 := Q1.keep R3; have p3a := P3.1.2.1; have p3b := P3.1.2.2; have z3 := P3.1.1; have q3a := Q3.1.2.1; have q3b := Q3.1.2.2; have q3c := Q3.2.1; have q3d := Q3.2.2; have y3 := Q3.1.1
      go_wp2
      exact bodyPost_ret (v := .tuple #[.agg #[.int .i64 n, .slice A3 ys.length c3], .int .i64 0]) (by simp [results, Try.results48, go_sem, q3a, q3b]) rfl ⟨A3, c3, rfl, ((o3.setCell_lt (by show _ < w1.heap.size; exact y1) _).setCell_lt (by show _ < w1.heap.size; exact y1) _).mono (by show w.heap.size ≤ w1.heap.size; omega), by (repeat (first | assumption | exact Below.refl _ _ | refine Below.alloc ?_ (by first | omega | (simp; done) | (simp; omega)) _ | refine Below.setCell ?_ (by first | omega | (simp; done) | (simp; omega)) _ | refine below_drewN ?_ _))⟩
theorem sChangeSeriesR_any (w : World) (m : Int) (v : Value) (xs : List Int) (n : Int) (B : Nat) (hv : OwnI w B v xs) (hl : xs.length ≤ 2000000) : Calls Try.prog 47 #[.agg #[.int .i64 m, v], .int .i64 n] w (RetSI w (ChangeSeriesR m xs n)) := by
  obtain ⟨A, c, e0⟩ := hv.form
  subst e0
  cases hs : isSer m xs
  · have HF : ChangeSeriesR m xs n = ((0, []), 1) := by simp [ChangeSeriesR, hs]
    rw [HF]
    clear HF
    have HS := Lib.hid hs
    clear hs
    go_enter Try.func47, Try.ntmps47
    go_wp2_with (go_at_call 56; refine (l02Is_any m _ _ xs B (OwnI.keep hv (by (repeat (first | assumption | exact Below.refl _ _ | refine Below.alloc ?_ (by first | omega | (simp; done) | (simp; omega)) _ | refine Below.setCell ?_ (by first | omega | (simp; done) | (simp; omega)) _ | refine below_drewN ?_ _))) (Nat.le_refl _)) (by omega)).mono ?_; rintro e w1 ⟨rfl, hb1⟩; rw [HS.out]; obtain ⟨P1, Q1, K1⟩ := Bf.first2 hb1; have p1a := P1.1.2.1; have p1b := P1.1.2.2; have z1 := P1.1.1; have q1a := Q1.1.2.1; have q1b := Q1.1.2.2; have q1c := Q1.2.1; have q1d := Q1.2.2; have y1 := Q1.1.1)
    exact bodyPost_ret (v := .tuple #[.agg #[.int .i64 0, .slice none 0 0], .int .i64 1]) (by simp [results, Try.results47, go_sem, q1a, q1b]) rfl ⟨none, 0, rfl, OwnI.nil_ _ _, by (repeat (first | assumption | exact Below.refl _ _ | refine Below.alloc ?_ (by first | omega | (simp; done) | (simp; omega)) _ | refine Below.setCell ?_ (by first | omega | (simp; done) | (simp; omega)) _ | refine below_drewN ?_ _))⟩
  · obtain ⟨hm, ⟨hl1, hl2⟩, hn⟩ := isSer_true hs
    obtain ⟨hm1, hm2⟩ := isModB_true hm
    cases hd : isModB n
    · have HF : ChangeSeriesR m xs n = ((0, []), 2) := by simp only [ChangeSeriesR, hs, hd]; simp
      rw [HF]
      clear HF
      have HS := Lib.hid hs
      have HD := Lib.hid hd
      clear hs hd hm hn
      go_enter Try.func47, Try.ntmps47
      go_wp2_with (first | (go_at_call 56; refine (l02Is_any m _ _ xs B (OwnI.keep hv (by (repeat (first | assumption | exact Below.refl _ _ | refine Below.alloc ?_ (by first | omega | (simp; done) | (simp; omega)) _ | refine Below.setCell ?_ (by first | omega | (simp; done) | (simp; omega)) _ | refine below_drewN ?_ _))) (Nat.le_refl _)) (by omega)).mono ?_; rintro e w1 ⟨rfl, hb1⟩; rw [HS.out]; obtain ⟨P1, Q1, K1⟩ := Bf.first2 hb1; have p1a := P1.1.2.1; have p1b := P1.1.2.2; have z1 := P1.1.1; have q1a := Q1.1.2.1; have q1b := Q1.1.2.2; have q1c := Q1.2.1; have q1d := Q1.2.2; have y1 := Q1.1.1) | (go_at_call 78; refine (sModulus_any n _).mono ?_; rintro e w2 ⟨rfl, k2, rfl⟩; rw [HD.out]))
      exact bodyPost_ret (v := .tuple #[.agg #[.int .i64 0, .slice none 0 0], .int .i64 2]) (by simp [results, Try.results47, go_sem, q1a, q1b]) rfl ⟨none, 0, rfl, OwnI.nil_ _ _, by (repeat (first | assumption | exact Below.refl _ _ | refine Below.alloc ?_ (by first | omega | (simp; done) | (simp; omega)) _ | refine Below.setCell ?_ (by first | omega | (simp; done) | (simp; omega)) _ | refine below_drewN ?_ _))⟩
    · obtain ⟨hn1, hn2⟩ := isModB_true hd
      have hn3 : (n == 0) = false := by simp; omega
      by_cases hr : m % n = 0
      · obtain ⟨ys, hy⟩ : ∃ ys, rests n xs = ys := ⟨_, rfl⟩
        have HF : ChangeSeriesR m xs n = ((n, ys), 0) := by
          simp only [ChangeSeriesR, hs, hd, hr, hy]; simp
        rw [HF]
        clear HF
        have hr' : (m % n != 0) = false := by simpa using hr
        have HN := Lib.hid (isSer_bd hs)
        have HS := Lib.hid hs
        have HD := Lib.hid hd
        have HY := Lib.hid hy
        clear hs hd hm hn hy hr
        go_enter Try.func47, Try.ntmps47
        go_wp2_with (first | (go_at_call 56; refine (l02Is_any m _ _ xs B (OwnI.keep hv (by (repeat (first | assumption | exact Below.refl _ _ | refine Below.alloc ?_ (by first | omega | (simp; done) | (simp; omega)) _ | refine Below.setCell ?_ (by first | omega | (simp; done) | (simp; omega)) _ | refine below_drewN ?_ _))) (Nat.le_refl _)) (by omega)).mono ?_; rintro e w1 ⟨rfl, hb1⟩; rw [HS.out]; obtain ⟨P1, Q1, K1⟩ := Bf.first2 hb1; have p1a := P1.1.2.1; have p1b := P1.1.2.2; have z1 := P1.1.1; have q1a := Q1.1.2.1; have q1b := Q1.1.2.2; have q1c := Q1.2.1; have q1d := Q1.2.2; have y1 := Q1.1.1) | (go_at_call 78; refine (sModulus_any n _).mono ?_; rintro e w2 ⟨rfl, k2, rfl⟩; rw [HD.out]))
        refine (l02Rest_any n _ _ xs ys B (OwnI.drewN (hv.keep K1 (Nat.le_refl _)) _) HY.out (by omega) (by omega) HN.out (by omega)).mono ?_
        rintro e w3 ⟨A3, c3, rfl, o3, hb3⟩
        have R3 : Below w1.heap.size w1 w3 := (Below.trans (by (repeat (first | assumption | exact Below.refl _ _ | refine Below.alloc ?_ (by first | omega | (simp; done) | (simp; omega)) _ | refine Below.setCell ?_ (by first | omega | (simp; done) | (simp; omega)) _ | refine below_drewN ?_ _))) (hb3.mono (by first | exact Nat.le_refl _ | (simp; done) | (simp; omega)))); have s3 := R3.size; have K3 : Below w.heap.size w w3 := K1.trans (R3.mono K1.size); have P3 := P1.keep R3; have Q3 := Q1.keep R3; have p3a := P3.1.2.1; have p3b := P3.1.2.2; have z3 := P3.1.1; have q3a := Q3.1.2.1; have q3b := Q3.1.2.2; have q3c := Q3.2.1; have q3d := Q3.2.2; have y3 := Q3.1.1
        go_wp2_with fail
        refine (l02Make_any _ n A3 ys.length c3).mono ?_
        rintro e w4 ⟨rfl, hb4⟩
        have R4 : Below w3.heap.size w3 w4 := (Below.trans (by (repeat (first | assumption | exact Below.refl _ _ | refine Below.alloc ?_ (by first | omega | (simp; done) | (simp; omega)) _ | refine Below.setCell ?_ (by first | omega | (simp; done) | (simp; omega)) _ | refine below_drewN ?_ _))) (hb4.mono (by first | exact Nat.le_refl _ | (simp; done) | (simp; omega)))); have s4 := R4.size; have K4 : Below w.heap.size w w4 := K3.trans (R4.mono K3.size); have P4 := P3.keep R4; have Q4 := Q3.keep R4; have p4a := P4.1.2.1; have p4b := P4.1.2.2; have z4 := P4.1.1; have q4a := Q4.1.2.1; have q4b := Q4.1.2.2; have q4c := Q4.2.1; have q4d := Q4.2.2; have y4 := Q4.1.1
        go_wp2
        exact bodyPost_ret (v := .tuple #[.agg #[.int .i64 n, .slice A3 ys.length c3], .int .i64 0]) (by simp [results, Try.results47, go_sem, q4a, q4b]) rfl ⟨A3, c3, rfl, (((o3.keep R4 (Nat.le_refl _)).setCell_lt (by show _ < w1.heap.size; exact y1) _).setCell_lt (by show _ < w1.heap.size; exact y1) _).mono (by show w.heap.size ≤ w1.heap.size; omega), by (repeat (first | assumption | exact Below.refl _ _ | refine Below.alloc ?_ (by first | omega | (simp; done) | (simp; omega)) _ | refine Below.setCell ?_ (by first | omega | (simp; done) | (simp; omega)) _ | refine below_drewN ?_ _))⟩
      · have HF : ChangeSeriesR m xs n = ((0, []), 2) := by simp only [ChangeSeriesR, hs, hd]; simp; exact hr
        rw [HF]
        clear HF
        have hr' : (m % n != 0) = true := by simpa using hr
        have HS := Lib.hid hs
        have HD := Lib.hid hd
        clear hs hd hm hn hr
        go_enter Try.func47, Try.ntmps47
        go_wp2_with (first | (go_at_call 56; refine (l02Is_any m _ _ xs B (OwnI.keep hv (by (repeat (first | assumption | exact Below.refl _ _ | refine Below.alloc ?_ (by first | omega | (simp; done) | (simp; omega)) _ | refine Below.setCell ?_ (by first | omega | (simp; done) | (simp; omega)) _ | refine below_drewN ?_ _))) (Nat.le_refl _)) (by omega)).mono ?_; rintro e w1 ⟨rfl, hb1⟩; rw [HS.out]; obtain ⟨P1, Q1, K1⟩ := Bf.first2 hb1; have p1a := P1.1.2.1; have p1b := P1.1.2.2; have z1 := P1.1.1; have q1a := Q1.1.2.1; have q1b := Q1.1.2.2; have q1c := Q1.2.1; have q1d := Q1.2.2; have y1 := Q1.1.1) | (go_at_call 78; refine (sModulus_any n _).mono ?_; rintro e w2 ⟨rfl, k2, rfl⟩; rw [HD.out]))
        exact bodyPost_ret (v := .tuple #[.agg #[.int .i64 0, .slice none 0 0], .int .i64 2]) (by simp [results, Try.results47, go_sem, q1a, q1b]) rfl ⟨none, 0, rfl, OwnI.nil_ _ _, by (repeat (first | assumption | exact Below.refl _ _ | refine Below.alloc ?_ (by first | omega | (simp; done) | (simp; omega)) _ | refine Below.setCell ?_ (by first | omega | (simp; done) | (simp; omega)) _ | refine below_drewN ?_ _))⟩

end Go.Proofs.Ytipiljinloapjaa
