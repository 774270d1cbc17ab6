/- Contracts over this seat's translation. Condition: each contract's own. -/
import Derived.Test.YtmppmnmkhfcoaaaO
import Derived.ProofKit
import Derived.Laws.Bits64b
import Derived.Lib.Mul64
import Derived.OpenShut
import Derived.Below
import Derived.ChangeSame
import Derived.Deep.Modes
import Derived.Lib.SmallJoins
import Derived.ChangeSlices
import Derived.WalkKit
import Derived.WalkSpells
import Derived.WalkLawsBesides
import Derived.Deep.QuietTactic
import Derived.BigQuiet
import Derived.Deep.RegionHeld3
import Derived.Deep.RegionWith
import Derived.Deep.RegionLaw
import Derived.Deep.AppendLies
import Derived.Laws.CopyOwn
import Derived.Deep.DeepCutAuto
import Derived.Deep.OwnRows
import Derived.Deep.LoopGhost
import Derived.Deep.DeepFit
import Derived.Deep.DeepMust
import Derived.Deep.Draws
import Derived.Deep.CutRange
import Derived.Maps.AppendAt
import Derived.Lib.Hide
import Derived.StillTailTactics
import Derived.Laws.MakeOwn
import Derived.Deep.Matrix
set_option linter.unusedVariables false
open Go Go.RowKit
namespace Go.Proofs.Ytmppmnmkhfcoaaa
/-! ### Values, orders, cut series, changed moduli -/
theorem NewI.of {w : World} {xs ys : List Int} {e : Ending} {w' : World} (h : NewI w xs e w') (he : Hid (xs = ys)) : NewI w ys e w' := by rw [← he.out]; exact h
theorem isModB_bd {m : Int} (h : isModB m = true) : 2 ≤ m ∧ m ≤ 10000 := isModB_true h
def horn (m x : Int) : List Int → Int
  | [] => 0
  | c :: r => (horn m x r * x + c) % m
theorem horn_step (m x : Int) (xs : List Int) (k : Nat) (hk : k < xs.length) : horn m x (xs.drop k) = (horn m x (xs.drop (k + 1)) * x + xs.getD k 0) % m := by
  rw [List.drop_eq_getElem_cons hk, List.getD_eq_getElem?_getD, List.getElem?_eq_getElem hk]
  rfl
theorem horn_bd {m x : Int} (hm : 0 < m) (xs : List Int) : 0 ≤ horn m x xs ∧ horn m x xs < m := by
  cases xs with
  | nil => exact ⟨Int.le_refl _, hm⟩
  | cons c r => exact ⟨Int.emod_nonneg _ (by omega), Int.emod_lt_of_pos _ hm⟩
theorem mul_bd {a b m n : Int} (ha : 0 ≤ a) (ha' : a ≤ m) (hb : 0 ≤ b) (hb' : b ≤ n) : 0 ≤ a * b ∧ a * b ≤ m * n := ⟨Int.mul_nonneg ha hb, Int.mul_le_mul ha' hb' hb (by omega)⟩
theorem valueOf_any (m : Int) (w : World) (v : Value) (xs : List Int) (B : Nat) (x : Int) (hv : OwnI w B v xs) (hm : 2 ≤ m) (hm' : m ≤ 10000) (hn : ∀ k, 0 ≤ xs.getD k 0 ∧ xs.getD k 0 < m) (hx : 0 ≤ x) (hx' : x < m) (hl : xs.length ≤ 1000000) :
    Calls Try.prog 123 #[.int .i64 m, v, .int .i64 x] w fun e w' => e = .returned (.int .i64 (horn m x xs)) ∧ w = w' := by
  obtain ⟨A, c, rfl, hc1, hc2, hA⟩ := hv.open_
  clear hv
  unfold maxLen at hc2
  have HN := Lib.hid hn
  clear hn
  go_enter Try.func123, Try.ntmps123
  go_wp2
  go_loop [7, 8] (fun t i => ∃ k : Nat, k ≤ xs.length ∧ i = .int .i64 ((k : Int) - 1) ∧ t = .int .i64 (horn m x (xs.drop k))) (fun _ i => (intOf i + 1).toNat)
  case atStart => exact ⟨xs.length, Nat.le_refl _, rfl, by simp [horn]⟩
  case round =>
    obtain ⟨k, hk, rfl, rfl⟩ := hrel
    have hb := horn_bd (x := x) (show 0 < m by omega) (xs.drop k)
    rcases Nat.eq_zero_or_pos k with h0 | h0
    · subst h0
      have hd : decide ((0 : Int) ≤ ((0 : Nat) : Int) - 1) = false := by decide
      go_wp2
      go_ret
      exact ⟨by simp, rfl⟩
    · obtain ⟨j, rfl⟩ : ∃ j, k = j + 1 := ⟨k - 1, by omega⟩
      obtain ⟨g, rfl, hg1, hg2, hcell, hfr⟩ := hA j (by omega)
      clear hA
      have hnj := HN.out j
      have HS := Lib.hid (horn_step m x xs j (by omega))
      generalize xs.getD j 0 = y at *
      generalize horn m x (xs.drop (j + 1)) = t at *
      have hp := mul_bd hb.1 (show t ≤ 10000 by omega) hx (show x ≤ 10000 by omega)
      have hj : ((j + 1 : Nat) : Int) - 1 = (j : Int) := by omega
      rw [hj]
      clear hj
      have hjl : (j : Int) < (xs.length : Int) := by omega
      go_wp2
      go_round
      case rel => exact ⟨j, by omega, rfl, by rw [HS.out]⟩
      case measure => simp [intOf] <;> omega
def OrderOfSeriesR (m : Int) (xs : List Int) : Int × Int := if isSer m xs = false then (0, 1) else if xs.any (fun x => x != 0) = false then (0, 5) else (firstI (fun x => x != 0) xs, 0)
theorem firstI_bd (p : Int → Bool) (xs : List Int) : firstI p xs ≤ xs.length := by
  unfold firstI
  split
  · have := List.findIdx_le_length (xs := xs) (p := p); omega
  · omega

/-! ### ValueOfSeries -/
def ValueOfSeriesR (m : Int) (xs : List Int) (x : Int) : Int × Int := if isSer m xs = false then (0, 1) else if isNumB x m = false then (0, 2) else (horn m x xs, 0)

/-! ### Roots of polynomials -/
theorem codeR_zeroL {m : Int} {xs : List Int} (h : codeR m xs = 0) : (2 ≤ m ∧ m ≤ 10000) ∧ (∀ k, 0 ≤ xs.getD k 0 ∧ xs.getD k 0 < m) := by
  unfold codeR at h
  cases h1 : isModB m
  · simp [h1] at h
  · cases h2 : numsB m xs
    · simp [h1, h2] at h
    · have hm := isModB_true h1
      refine ⟨hm, fun k => ?_⟩
      rcases Nat.lt_or_ge k xs.length with hk | hk
      · rw [List.getD_eq_getElem?_getD, List.getElem?_eq_getElem hk]
        unfold numsB at h2
        rw [List.all_eq_true] at h2
        exact isNumB_true (h2 _ (List.getElem_mem hk))
      · rw [List.getD_eq_getElem?_getD, List.getElem?_eq_none hk]
        simp
        omega
def rootsTo (m : Int) (xs : List Int) (k : Nat) : List Int := ((List.range k).filter fun a : Nat => horn m (a : Int) xs == 0).map fun a : Nat => (a : Int)
theorem rootsTo_succ (m : Int) (xs : List Int) (k : Nat) : rootsTo m xs (k + 1) = rootsTo m xs k ++ if (horn m (k : Int) xs == 0) = true then [(k : Int)] else [] := by
  unfold rootsTo
  rw [List.range_succ, List.filter_append, List.map_append]
  by_cases h : (horn m (k : Int) xs == 0) = true <;> simp [h]
theorem rootsTo_len (m : Int) (xs : List Int) (k : Nat) : (rootsTo m xs k).length ≤ k := by
  unfold rootsTo
  have := List.length_filter_le (fun a : Nat => horn m (a : Int) xs == 0) (List.range k)
  rw [List.length_range] at this
  simpa using this
def RootsModuloR (m : Int) (xs : List Int) : List Int × Int := if codeR m xs = 0 then (if 20 < xs.length then ([], 2) else (rootsTo m xs m.toNat, 0)) else ([], codeR m xs)
theorem RootsModuloR_len (m : Int) (xs : List Int) : (RootsModuloR m xs).1.length ≤ 100000 := by
  unfold RootsModuloR
  by_cases h : codeR m xs = 0
  · have := (codeR_zeroL h).1
    have h2 := rootsTo_len m xs m.toNat
    rw [if_pos h]
    split
    · simp
    · simp only; omega
  · rw [if_neg h]; simp
set_option maxHeartbeats 1000000 in
theorem iRootsModuloR_any (w : World) (m : Int) (v : Value) (xs : List Int) (B : Nat) (hv : OwnI w B v xs) (hl : xs.length ≤ 2000000) : Calls Try.prog 54 #[.int .i64 m, v] w (RetLI w (RootsModuloR m xs)) := by
  obtain ⟨A, c, e0⟩ := hv.form
  subst e0
  by_cases hc : codeR m xs = 0
  · obtain ⟨⟨h1, h2⟩, hn⟩ := codeR_zeroL hc
    have HN := Lib.hid hn
    have HC := Lib.hid hc
    by_cases h20 : 20 < xs.length
    · have HF : RootsModuloR m xs = ([], 2) := by simp [RootsModuloR, hc, h20]
      rw [HF]
      clear HF hc hn
      have hd : decide (20 < (xs.length : Int)) = true := by simp; omega
      go_enter Try.func54, Try.ntmps54
      go_wp2_with (go_at_call 112; refine (modular_any m _ _ xs B hv).mono ?_; rintro e w1 ⟨rfl, hb1⟩; rw [HC.out])
      go_ret2
      exact ⟨none, 0, rfl, OwnI.nil_ _ _, hb1⟩
    · have HF : RootsModuloR m xs = (rootsTo m xs m.toNat, 0) := by simp [RootsModuloR, hc, h20]
      rw [HF]
      clear HF hc hn
      have hd : decide (20 < (xs.length : Int)) = false := by simp; omega
      have hl20 : xs.length ≤ 20 := by omega
      clear h20
      go_enter Try.func54, Try.ntmps54
      go_wp2_with (go_at_call 112; refine (modular_any m _ _ xs B hv).mono ?_; rintro e w1 ⟨rfl, hb1⟩; rw [HC.out])
      have hv1 : Hid (OwnI w1 B (.slice A xs.length c) xs) := hv.keep hb1 (Nat.le_refl _)
      have z1 := hb1.size
      have K1 : Hid (Below w.heap.size w w1) := hb1
      clear hb1 hv
      go_loopw [7, 8, 20] (fun r _ s2 wr => ∃ k n g c' : Nat, (k : Int) ≤ m ∧ s2 = .int .i64 k ∧ r = .slice (some ⟨g, 0, none⟩) n c' ∧ n ≤ k ∧ Hid ((rootsTo m xs k).length = n) ∧ w1.heap.size ≤ g ∧ RowI wr g c' (rootsTo m xs k) ∧ Below w1.heap.size w1 wr) (fun _ _ s2 _ => (m - intOf s2).toNat)
      case atStart => exact ⟨0, 0, w1.heap.size, 0, by omega, rfl, rfl, Nat.le_refl _, rfl, Nat.le_refl _, RowI.lit w1 [] #[] rfl (by simp), by (repeat (first | assumption | exact Below.refl _ _ | refine Below.alloc ?_ (by first | omega | (simp; done) | (simp; omega)) _ | refine Below.setCell ?_ (by first | omega | (simp; done) | (simp; omega)) _ | refine below_drewN ?_ _))⟩
      case round =>
        obtain ⟨k, n, g, c', hk, rfl, rfl, hnk, hlen, hg, hrow, hb⟩ := hrel
        have hz := hb.size
        have hglt := hrow.lt
        by_cases hlt : (k : Int) < m
        · have HS := Lib.hid (rootsTo_succ m xs k)
          cases hr : (horn m (k : Int) xs == 0)
          · have HS2 : Hid (rootsTo m xs (k + 1) = rootsTo m xs k) := by unfold Hid; rw [HS.out, hr]; simp
            have HR := Lib.hid hr
            clear hr
            go_wp2_with (go_at_call 123; refine (valueOf_any m _ _ xs B _ (hv1.out.keep hb (Nat.le_refl _)) h1 h2 HN.out (by omega) (by omega) (by omega)).mono ?_; rintro e w2 ⟨rfl, rfl⟩; have hq := HR.out)
            go_roundw
            case rel => exact ⟨k + 1, n, g, c', by omega, by go_num, rfl, by omega, by unfold Hid; rw [HS2.out]; exact hlen.out, hg, by rw [HS2.out]; exact hrow, hb⟩
            case measure => simp [intOf]; omega
          · have HS2 : Hid (rootsTo m xs (k + 1) = rootsTo m xs k ++ [(k : Int)]) := by unfold Hid; rw [HS.out, hr]; simp
            have HR := Lib.hid hr
            clear hr
            go_wp2_with (first | (go_at_call 123; refine (valueOf_any m _ _ xs B _ (hv1.out.keep hb (Nat.le_refl _)) h1 h2 HN.out (by omega) (by omega) (by omega)).mono ?_; rintro e w2 ⟨rfl, rfl⟩; have hq := HR.out) | (at_builtin; refine wpAppend1 _ _ w1.heap.size (.slice (some ⟨g, 0, none⟩) n c') (rootsTo m xs k) n (k : Int) wr.heap.size (wr.heap.size + 1) (by rfl) (by rfl) (by rfl) (by rfl) ((hrow.alloc _).own' hg hlen.out) hlen.out (RowI.block1 _) (by omega) (by simp; omega) (by simp) ?_; intro gg cap w3 hown1 hge hgrow hat))
            go_roundw
            case rel =>
              refine ⟨k + 1, n + 1, gg, cap, by omega, by go_num, rfl, by omega, by unfold Hid; rw [HS2.out, List.length_append, hlen.out]; rfl, hge, by rw [HS2.out]; exact hown1, ?_⟩
              refine Below.grown (hb.alloc hz _) hgrow (by simp; omega) fun b hb => ?_
              simp [Value.ownBlock] at hb
              omega
            case measure => simp [intOf]; omega
        · have hkm : k = m.toNat := by omega
          have HK := Lib.hid hkm
          clear hkm
          go_wp2
          go_ret2
          refine ⟨some ⟨g, 0, none⟩, c', by rw [← HK.out, hlen.out]; rfl, ?_, K1.out.trans (hb.mono z1)⟩
          rw [← HK.out]
          exact hrow.own (by omega)
  · have HF : RootsModuloR m xs = ([], codeR m xs) := by simp [RootsModuloR, hc]
    rw [HF]
    clear HF
    have h1 : (codeR m xs != 0) = true := by simpa using hc
    clear hc
    go_enter Try.func54, Try.ntmps54
    go_wp2_with (go_at_call 112; refine (modular_any m _ _ xs B hv).mono ?_; rintro e w1 ⟨rfl, hb1⟩)
    go_ret2
    exact ⟨none, 0, rfl, OwnI.nil_ _ _, hb1⟩
set_option maxHeartbeats 1000000 in
theorem sRootsModuloR_any (w : World) (m : Int) (v : Value) (xs : List Int) (B : Nat) (hv : OwnI w B v xs) (hl : xs.length ≤ 2000000) : Calls Try.prog 55 #[.int .i64 m, v] w (RetLI w (RootsModuloR m xs)) := by
  obtain ⟨A, c, e0, hc1, hc2, hA⟩ := hv.open_
  subst e0
  unfold maxLen at hc2
  by_cases hc : codeR m xs = 0
  · obtain ⟨⟨h1, h2⟩, hn⟩ := codeR_zeroL hc
    have HN := Lib.hid hn
    have HC := Lib.hid hc
    by_cases h20 : 20 < xs.length
    · have HF : RootsModuloR m xs = ([], 2) := by simp [RootsModuloR, hc, h20]
      rw [HF]
      clear HF hc hn hA
      have hd : decide (20 < (xs.length : Int)) = true := by simp; omega
      go_enter Try.func55, Try.ntmps55
      go_wp2_with (go_at_call 114; refine (l01Code_any m _ _ xs B hv).mono ?_; rintro e w1 ⟨rfl, k1, rfl⟩; rw [HC.out])
      go_ret2
      exact ⟨none, 0, rfl, OwnI.nil_ _ _, by (repeat (first | assumption | exact Below.refl _ _ | refine Below.alloc ?_ (by first | omega | (simp; done) | (simp; omega)) _ | refine Below.setCell ?_ (by first | omega | (simp; done) | (simp; omega)) _ | refine below_drewN ?_ _))⟩
    · have HF : RootsModuloR m xs = (rootsTo m xs m.toNat, 0) := by simp [RootsModuloR, hc, h20]
      rw [HF]
      clear HF hc hn
      have hd : decide (20 < (xs.length : Int)) = false := by simp; omega
      have hl20 : xs.length ≤ 20 := by omega
      clear h20
      have HA : Hid (∀ k, k < xs.length → ∃ g, A = some ⟨g, 0, none⟩ ∧ B ≤ g ∧ g < w.heap.size ∧ w.cell? ⟨g, k, none⟩ = some (.int .i64 (xs.getD k 0)) ∧ w.frozen? ⟨g, k, none⟩ = false) := hA
      clear hA
      go_enter Try.func55, Try.ntmps55
      go_wp2_with (go_at_call 114; refine (l01Code_any m _ _ xs B hv).mono ?_; rintro e w1 ⟨rfl, k1, rfl⟩; rw [HC.out])
      go_loopw [7, 8, 9, 10] (fun r s2 _ _ wr => ∃ k n g c' : Nat, (k : Int) ≤ m ∧ s2 = .int .i64 k ∧ r = .slice (some ⟨g, 0, none⟩) n c' ∧ n ≤ k ∧ Hid ((rootsTo m xs k).length = n) ∧ w.heap.size ≤ g ∧ RowI wr g c' (rootsTo m xs k) ∧ Below w.heap.size w wr) (fun _ s2 _ _ _ => (m - intOf s2).toNat)
      case atStart => exact ⟨0, 0, w.heap.size, 0, by omega, rfl, rfl, Nat.le_refl _, rfl, Nat.le_refl _, RowI.lit (w.drewN k1) [] #[] rfl (by simp), by (repeat (first | assumption | exact Below.refl _ _ | refine Below.alloc ?_ (by first | omega | (simp; done) | (simp; omega)) _ | refine Below.setCell ?_ (by first | omega | (simp; done) | (simp; omega)) _ | refine below_drewN ?_ _))⟩
      case round =>
        obtain ⟨k, n, g, c', hk, rfl, rfl, hnk, hlen, hg, hrow, hb⟩ := hrel
        have hz := hb.size
        have hglt := hrow.lt
        by_cases hlt : (k : Int) < m
        · go_wp2
          go_loop [9, 10] (fun s1 s2 => ∃ j : Nat, j ≤ xs.length ∧ s2 = .int .i64 ((j : Int) - 1) ∧ s1 = .int .i64 (horn m (k : Int) (xs.drop j))) (fun _ s2 => (intOf s2 + 1).toNat)
          case atStart => exact ⟨xs.length, Nat.le_refl _, rfl, by simp [horn]⟩
          case round =>
            obtain ⟨j, hj, rfl, rfl⟩ := hrel
            have hb2 := horn_bd (x := (k : Int)) (show 0 < m by omega) (xs.drop j)
            rcases Nat.eq_zero_or_pos j with h0 | h0
            · subst h0
              rw [List.drop_zero] at *
              have hd0 : decide ((0 : Int) ≤ ((0 : Nat) : Int) - 1) = false := by decide
              have HS := Lib.hid (rootsTo_succ m xs k)
              cases hr : (horn m (k : Int) xs == 0)
              · have HS2 : Hid (rootsTo m xs (k + 1) = rootsTo m xs k) := by unfold Hid; rw [HS.out, hr]; simp
                go_wp2
                go_roundw
                case rel => exact ⟨k + 1, n, g, c', by omega, by go_num, rfl, by omega, by unfold Hid; rw [HS2.out]; exact hlen.out, hg, by rw [HS2.out]; exact hrow, hb⟩
                case measure => simp [intOf]; omega
              · have HS2 : Hid (rootsTo m xs (k + 1) = rootsTo m xs k ++ [(k : Int)]) := by unfold Hid; rw [HS.out, hr]; simp
                go_wp2_with (at_builtin; refine wpAppend1 _ _ w.heap.size (.slice (some ⟨g, 0, none⟩) n c') (rootsTo m xs k) n (k : Int) wr.heap.size (wr.heap.size + 1) (by rfl) (by rfl) (by rfl) (by rfl) ((hrow.alloc _).own' hg hlen.out) hlen.out (RowI.block1 _) (by omega) (by simp; omega) (by simp) ?_; intro gg cap w3 hown1 hge hgrow hat)
                go_roundw
                case rel =>
                  refine ⟨k + 1, n + 1, gg, cap, by omega, by go_num, rfl, by omega, by unfold Hid; rw [HS2.out, List.length_append, hlen.out]; rfl, hge, by rw [HS2.out]; exact hown1, ?_⟩
                  refine Below.grown (hb.alloc hz _) hgrow (by simp; omega) fun b hb => ?_
                  simp [Value.ownBlock] at hb
                  omega
                case measure => simp [intOf]; omega
            · obtain ⟨i, rfl⟩ : ∃ i, j = i + 1 := ⟨j - 1, by omega⟩
              obtain ⟨g', rfl, hg1, hg2, hcell, hfr⟩ := HA.out i (by omega)
              have hnj := HN.out i
              have HS := Lib.hid (horn_step m (k : Int) xs i (by omega))
              have hcell' : wr.cell? ⟨g', i, none⟩ = some (.int .i64 (xs.getD i 0)) := (hb.cell (p := ⟨g', i, none⟩) hg2).trans hcell
              clear hcell
              generalize xs.getD i 0 = y at *
              generalize horn m (k : Int) (xs.drop (i + 1)) = t at *
              have hp := mul_bd hb2.1 (show t ≤ 10000 by omega) (show 0 ≤ (k : Int) by omega) (show (k : Int) ≤ 10000 by omega)
              have hji : ((i + 1 : Nat) : Int) - 1 = (i : Int) := by omega
              rw [hji]
              clear hji
              have hjl : (i : Int) < (xs.length : Int) := by omega
              go_wp2
              go_round
              case rel => exact ⟨i, by omega, rfl, by rw [HS.out]⟩
              case measure => simp [intOf] <;> omega
        · have hkm : k = m.toNat := by omega
          have HK := Lib.hid hkm
          clear hkm
          go_wp2
          go_ret2
          refine ⟨some ⟨g, 0, none⟩, c', by rw [← HK.out, hlen.out]; rfl, ?_, hb⟩
          rw [← HK.out]
          exact hrow.own (by omega)
  · have HF : RootsModuloR m xs = ([], codeR m xs) := by simp [RootsModuloR, hc]
    rw [HF]
    clear HF hA
    have h1 : (codeR m xs != 0) = true := by simpa using hc
    have h2 : (codeR m xs == 0) = false := by simpa using hc
    clear hc
    go_enter Try.func55, Try.ntmps55
    go_wp2_with (go_at_call 114; refine (l01Code_any m _ _ xs B hv).mono ?_; rintro e w1 ⟨rfl, k1, rfl⟩)
    go_ret2
    exact ⟨none, 0, rfl, OwnI.nil_ _ _, by (repeat (first | assumption | exact Below.refl _ _ | refine Below.alloc ?_ (by first | omega | (simp; done) | (simp; omega)) _ | refine Below.setCell ?_ (by first | omega | (simp; done) | (simp; omega)) _ | refine below_drewN ?_ _))⟩

/-! ### Plain laws of the numbers modulo m -/
theorem gcd_rest {r s : Int} (hr : 0 ≤ r) : Int.gcd s (r - r / s * s) = Int.gcd r s := by
  have h := Int.emod_def r s
  rw [Int.mul_comm] at h
  rw [← h, ← Int.tmod_eq_emod_of_nonneg hr]
  exact gcd_step r s
theorem eu_dvd {m a : Int} : ∀ (n : Nat) (r s x y : Int), 0 < r → 0 ≤ s → s.toNat < n → m ∣ x * a - r → m ∣ y * a - s → m ∣ eu n r s x y * a - (Int.gcd r s : Int)
  | 0, _, _, _, _, _, _, h, _, _ => by omega
  | n + 1, r, s, x, y, hr, hs, hn, h1, h2 => by
    unfold eu
    by_cases e : s = 0
    · rw [if_pos e, e]
      have : (Int.gcd r 0 : Int) = r := by simp [Int.gcd]; omega
      rw [this]; exact h1
    · rw [if_neg e]
      have hb := rest_bd (r := r) (show 0 < s by omega)
      have h3 : m ∣ (x - r / s * y) * a - (r - r / s * s) := by
        have h4 : (x - r / s * y) * a - (r - r / s * s) = (x * a - r) - r / s * (y * a - s) := by
          rw [Int.sub_mul, Int.mul_sub, Int.mul_assoc]; omega
        rw [h4]
        exact Int.dvd_sub h1 (Int.dvd_mul_of_dvd_right h2)
      have := eu_dvd n s (r - r / s * s) y (x - r / s * y) (by omega) hb.1 (by omega) h2 h3
      rwa [gcd_rest (by omega)] at this
theorem gcd_cong {m : Int} (hm : 1 ≤ m) (a : Int) : Int.gcd (a.tmod m) m = Int.gcd (a % m) m := by
  have h1 := Int.tmod_eq_emod (a := a) (b := m)
  rw [h1]
  split
  · simp
  · rw [show ((m.natAbs : Int)) = m by omega]
    exact Int.gcd_sub_self_left ..
/-- A number whose product with a is the common divisor, modulo m. -/
theorem bezout_mod {m : Int} (hm : 1 ≤ m) (a : Int) : m ∣ eu ((a % m).toNat + 1) m (a % m) 0 1 * a - (Int.gcd a m : Int) := by
  have h1 := Int.emod_nonneg a (show m ≠ 0 by omega)
  have h := eu_dvd (m := m) (a := a) ((a % m).toNat + 1) m (a % m) 0 1 (by omega) h1 (by omega) ⟨-1, by omega⟩ (by rw [Int.one_mul]; exact Int.dvd_self_sub_emod)
  have h2 : Int.gcd m (a % m) = Int.gcd a m := by
    have h3 := gcd_step a m
    rw [← h3]
    have h4 : Int.gcd m (a.tmod m) = Int.gcd m (a % m) := by
      rw [Int.gcd_comm m, Int.gcd_comm m]
      exact gcd_cong (by omega) a
    exact h4.symm
  rwa [h2] at h
theorem invN_mul {m a : Int} (hm : 2 ≤ m) (hu : unitB m a = true) : a * invN m a % m = 1 := by
  unfold unitB at hu
  simp only [beq_iff_eq] at hu
  have h := bezout_mod (m := m) (by omega) a
  rw [hu] at h
  unfold invN
  obtain ⟨t, ht⟩ := h
  rw [Int.mul_emod, Int.emod_emod_of_dvd _ (Int.dvd_refl m), ← Int.mul_emod, Int.mul_comm]
  rw [show eu ((a % m).toNat + 1) m (a % m) 0 1 * a = 1 + m * t by omega, Int.add_mul_emod_self_left]
  exact Int.emod_eq_of_lt (by omega) (by omega)
/-! Orders divide the number of units. -/
def itN (f : Nat → Nat) : Nat → Nat → Nat
  | 0, x => x
  | j + 1, x => f (itN f j x)
theorem itN_add (f : Nat → Nat) (x : Nat) : ∀ i j, itN f (i + j) x = itN f i (itN f j x)
  | 0, j => by rw [Nat.zero_add]; rfl
  | i + 1, j => by rw [show i + 1 + j = (i + j) + 1 by omega]; simp only [itN]; rw [itN_add f x i j]
theorem orbit_len (f : Nat → Nat) (n : Nat) (hn : 1 ≤ n) : ∀ (k : Nat) (L : List Nat), L.length ≤ k → L.Nodup → (∀ x ∈ L, f x ∈ L) → (∀ x ∈ L, itN f n x = x) → (∀ x ∈ L, ∀ j, 1 ≤ j → j < n → itN f j x ≠ x) → n ∣ L.length
  | 0, L, hk, _, _, _, _ => by rw [show L.length = 0 by omega]; exact Nat.dvd_zero n
  | k + 1, [], _, _, _, _, _ => Nat.dvd_zero n
  | k + 1, x :: l, hk, hd, hf, hp, hm => by
    obtain ⟨L, hL⟩ : ∃ L, L = x :: l := ⟨_, rfl⟩
    have hxL : x ∈ L := by rw [hL]; simp
    rw [← hL] at hk hd hf hp hm ⊢
    have hin : ∀ j, itN f j x ∈ L := by
      intro j
      induction j with
      | zero => exact hxL
      | succ j ih => exact hf _ ih
    obtain ⟨O, hO⟩ : ∃ O, O = (List.range n).map (fun j => itN f j x) := ⟨_, rfl⟩
    have hOm : ∀ y, y ∈ O ↔ ∃ j, j < n ∧ itN f j x = y := by
      intro y; rw [hO]; simp
    have hOl : O.length = n := by rw [hO]; simp
    have hOd : O.Nodup := by
      rw [hO, List.Nodup, List.pairwise_map]
      refine List.Pairwise.imp_of_mem ?_ (List.pairwise_lt_range (n := n))
      intro i j hi hj hij he
      have hj' : j < n := List.mem_range.1 hj
      have h1 : itN f (n - j + i) x = x := by
        rw [itN_add, he, ← itN_add, show n - j + j = n by omega]; exact hp x hxL
      exact hm x hxL _ (by omega) (by omega) h1
    have hOL : ∀ y ∈ O, y ∈ L := by
      intro y hy
      obtain ⟨j, _, rfl⟩ := (hOm y).1 hy
      exact hin j
    have hperm : (L.filter (fun y => decide (y ∈ O))).Perm O := by
      refine (List.perm_ext_iff_of_nodup (hd.filter _) hOd).2 fun y => ?_
      rw [List.mem_filter]
      simp only [decide_eq_true_eq]
      exact ⟨fun h => h.2, fun h => ⟨hOL y h, h⟩⟩
    have hlen : L.length = (L.filter (fun y => decide (y ∈ O))).length + (L.filter (fun y => !decide (y ∈ O))).length := by
      rw [← List.countP_eq_length_filter, ← List.countP_eq_length_filter, List.length_eq_countP_add_countP (fun y => decide (y ∈ O))]
      congr 1
      apply List.countP_congr
      intro y _; simp
    rw [hperm.length_eq, hOl] at hlen
    have ih := orbit_len f n hn k (L.filter (fun y => !decide (y ∈ O))) (by omega) (hd.filter _) ?_ ?_ ?_
    · rw [hlen]; exact Nat.dvd_add (Nat.dvd_refl n) ih
    · intro y hy
      rw [List.mem_filter] at hy ⊢
      obtain ⟨h1, h2⟩ := hy
      refine ⟨hf y h1, ?_⟩
      simp only [Bool.not_eq_true', decide_eq_false_iff_not] at h2 ⊢
      intro h3
      obtain ⟨j, hj, hj2⟩ := (hOm _).1 h3
      have h4 : itN f (n - 1 + j) x = y := by
        rw [itN_add, hj2]
        have h5 := hp y h1
        rw [show n = (n - 1) + 1 by omega, itN_add] at h5
        exact h5
      rcases Nat.eq_zero_or_pos j with e | e
      · exact h2 ((hOm y).2 ⟨n - 1, by omega, by rw [← h4, e]; rfl⟩)
      · refine h2 ((hOm y).2 ⟨j - 1, by omega, ?_⟩)
        rw [← h4, show n - 1 + j = (j - 1) + n by omega, itN_add, hp x hxL]
    · intro y hy; exact hp y (List.mem_filter.1 hy).1
    · intro y hy; exact hm y (List.mem_filter.1 hy).1
theorem itN_mul (M A x : Nat) (hx : x < M) : ∀ j, itN (fun y => A * y % M) j x = A ^ j * x % M
  | 0 => by simp [itN, Nat.mod_eq_of_lt hx]
  | j + 1 => by
    simp only [itN]
    rw [itN_mul M A x hx j, Nat.mul_mod, Nat.mod_mod, ← Nat.mul_mod, Nat.pow_succ, ← Nat.mul_assoc, Nat.mul_comm A]
theorem ordN_spec {m a : Int} (hm : 2 ≤ m) (ha : 0 ≤ a) (hu : unitB m a = true) : OrdP m a (ordN m a) := by
  obtain ⟨N, h1, h2, h3⟩ := order_bound hm ha hu
  have : ∃ k, OrdP m a k := by
    have key : ∀ n, (∃ N, N ≤ n ∧ 1 ≤ N ∧ powN m a N = 1) → ∃ k, OrdP m a k := by
      intro n
      induction n with
      | zero => rintro ⟨N, h, h', _⟩; omega
      | succ n ih =>
        rintro ⟨N, h, h', h''⟩
        by_cases c : ∃ N, N ≤ n ∧ 1 ≤ N ∧ powN m a N = 1
        · exact ih c
        · exact ⟨N, h', h'', fun j hj hj' he => c ⟨j, by omega, hj, he⟩⟩
    exact key N ⟨N, Nat.le_refl _, h1, h3⟩
  exact Classical.epsilon_spec this
theorem unit_gcd {M A : Nat} : unitB (M : Int) (A : Int) = true ↔ Nat.gcd A M = 1 := by
  unfold unitB
  simp only [beq_iff_eq, Int.gcd, Int.natAbs_natCast]
  omega
theorem units_div {m a : Int} (hm : 2 ≤ m) (ha : 0 ≤ a) (hu : unitB m a = true) : unitsN m m.toNat % (ordN m a : Int) = 0 := by
  have ho := ordN_spec hm ha hu
  obtain ⟨M, rfl⟩ := Int.eq_ofNat_of_zero_le (show 0 ≤ m by omega)
  obtain ⟨A, rfl⟩ := Int.eq_ofNat_of_zero_le ha
  have hg := unit_gcd.1 hu
  have hM : 2 ≤ M := by omega
  have hA : 0 < A := by
    rcases Nat.eq_zero_or_pos A with h | h
    · subst h; simp at hg; omega
    · exact h
  obtain ⟨n, hn⟩ : ∃ n, n = ordN (M : Int) (A : Int) := ⟨_, rfl⟩
  rw [← hn] at ho ⊢
  obtain ⟨h1, h2, h3⟩ := ho
  rw [powN_cast] at h2
  have h2' : A ^ n % M = 1 := by omega
  unfold unitsN
  rw [Int.toNat_natCast]
  have hmem : ∀ x, x ∈ (List.range M).filter (fun x : Nat => unitB (M : Int) (x : Int)) ↔ x < M ∧ Nat.gcd x M = 1 := by
    intro x; rw [List.mem_filter, List.mem_range, unit_gcd]
  have h := orbit_len (fun y => A * y % M) n h1 _ ((List.range M).filter (fun x : Nat => unitB (M : Int) (x : Int))) (Nat.le_refl _) (List.nodup_range.filter _) ?_ ?_ ?_
  · obtain ⟨t, ht⟩ := h
    rw [ht]; push_cast; exact Int.mul_emod_right _ _
  · intro x hx
    obtain ⟨hx1, hx2⟩ := (hmem x).1 hx
    refine (hmem _).2 ⟨Nat.mod_lt _ (by omega), ?_⟩
    have h4 : Nat.gcd (A * x) M = 1 := Nat.Coprime.mul_left hg hx2
    rw [← Nat.gcd_rec, Nat.gcd_comm]
    exact h4
  · intro x hx
    obtain ⟨hx1, hx2⟩ := (hmem x).1 hx
    rw [itN_mul M A x hx1, Nat.mul_mod, h2', Nat.one_mul, Nat.mod_mod]
    exact Nat.mod_eq_of_lt hx1
  · intro x hx j hj hj' he
    obtain ⟨hx1, hx2⟩ := (hmem x).1 hx
    rw [itN_mul M A x hx1] at he
    have h4 : A ^ j * x % M = x % M := by rw [he, Nat.mod_eq_of_lt hx1]
    have h5 : 1 ≤ A ^ j := Nat.pow_pos hA
    have h6 : (A ^ j * x - x) % M = 0 := Nat.sub_mod_eq_zero_of_mod_eq h4
    have h7 : A ^ j * x - x = x * (A ^ j - 1) := by rw [Nat.mul_sub, Nat.mul_one, Nat.mul_comm]
    rw [h7] at h6
    have hc : Nat.Coprime M x := (show Nat.Coprime x M from hx2).symm
    obtain ⟨t, ht⟩ := Nat.Coprime.dvd_of_dvd_mul_left hc (Nat.dvd_of_mod_eq_zero h6)
    have h8 : A ^ j % M = 1 := by
      rw [show A ^ j = 1 + M * t by omega, Nat.add_mul_mod_self_left]
      exact Nat.mod_eq_of_lt (by omega)
    exact h3 j hj hj' (by rw [powN_cast, h8]; rfl)
/-! Equations. -/
theorem solve_iff {m a b : Int} (hm : 2 ≤ m) (hb : 0 ≤ b ∧ b < m) : (∃ x : Nat, x < m.toNat ∧ a * (x : Int) % m = b) ↔ b % (Int.gcd a m : Int) = 0 := by
  have hg1 : (Int.gcd a m : Int) ∣ a := Int.gcd_dvd_left ..
  have hg2 : (Int.gcd a m : Int) ∣ m := Int.gcd_dvd_right ..
  constructor
  · rintro ⟨x, _, hx⟩
    refine Int.emod_eq_zero_of_dvd ?_
    rw [← hx, Int.emod_def]
    exact Int.dvd_sub (Int.dvd_mul_of_dvd_left hg1) (Int.dvd_mul_of_dvd_left hg2)
  · intro h
    obtain ⟨c, hc⟩ := Int.dvd_of_emod_eq_zero h
    obtain ⟨t, ht⟩ := bezout_mod (m := m) (by omega) a
    generalize eu ((a % m).toNat + 1) m (a % m) 0 1 = e at ht
    have h1 := Int.emod_nonneg (e * c) (show m ≠ 0 by omega)
    have h2 := Int.emod_lt_of_pos (e * c) (show 0 < m by omega)
    refine ⟨(e * c % m).toNat, by omega, ?_⟩
    rw [Int.toNat_of_nonneg h1, Int.mul_emod, Int.emod_emod_of_dvd _ (Int.dvd_refl m), ← Int.mul_emod]
    have h3 : a * (e * c) = b + m * (t * c) := by
      rw [hc, ← Int.mul_assoc, Int.mul_comm a e, show e * a = (Int.gcd a m : Int) + m * t by omega, Int.add_mul, Int.mul_assoc]
    rw [h3, Int.add_mul_emod_self_left]
    exact Int.emod_eq_of_lt hb.1 hb.2
theorem solveR_law {m a b : Int} (hc : codeR m [a, b] = 0) : ((solveR m a b).2 = 0 ∨ (solveR m a b).2 = 4) ∧ (b % (Int.gcd a m : Int) = 0 ↔ (solveR m a b).2 = 0) ∧ ((solveR m a b).2 = 0 → a * (solveR m a b).1 % m = b ∧ 0 ≤ (solveR m a b).1 ∧ (solveR m a b).1 < m) := by
  obtain ⟨h1, h2, h3⟩ := codeR_zero2 hc
  have hs := solve_iff (a := a) h1.1 h3
  unfold solveR
  rw [if_pos hc]
  cases hf : (List.range m.toNat).find? (solveAt m a b) with
  | none =>
    rw [List.find?_range_eq_none] at hf
    refine ⟨.inr rfl, ⟨fun h => ?_, fun h => absurd h (by decide)⟩, fun h => absurd h (by decide)⟩
    obtain ⟨x, hx1, hx2⟩ := hs.2 h
    have := hf x hx1
    simp [solveAt, hx2] at this
  | some x =>
    rw [List.find?_range_eq_some] at hf
    have h4 : a * (x : Int) % m = b := by simpa [solveAt] using hf.1
    have h5 : x < m.toNat := by simpa using hf.2.1
    exact ⟨.inl rfl, ⟨fun _ => rfl, fun _ => hs.1 ⟨x, h5, h4⟩⟩, fun _ => ⟨h4, by show (0 : Int) ≤ (x : Int); omega, by show (x : Int) < m; omega⟩⟩

end Go.Proofs.Ytmppmnmkhfcoaaa
