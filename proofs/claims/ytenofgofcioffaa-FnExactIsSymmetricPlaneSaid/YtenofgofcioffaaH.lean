/- Contracts over this seat's translation. Condition: each contract's own. -/
import Derived.Test.YtenofgofcioffaaG
import Derived.ProofKit
import Derived.OpenShut
import Derived.Below
import Derived.ChangeSame
import Derived.Deep.Modes
import Derived.Lib.SmallJoins
import Derived.ChangeSlices
import Derived.WalkKit
import Derived.WalkSpells
import Derived.WalkLawsBesides
import Derived.Deep.QuietTactic
import Derived.BigQuiet
import Derived.Deep.RegionHeld3
import Derived.Deep.RegionWith
import Derived.Deep.RegionLaw
import Derived.Deep.AppendLies
import Derived.Laws.CopyOwn
import Derived.Deep.DeepCutAuto
import Derived.Deep.OwnRows
import Derived.Deep.LoopGhost
import Derived.Deep.DeepFit
import Derived.Deep.DeepMust
import Derived.Deep.Draws
import Derived.Deep.CutRange
import Derived.Maps.AppendAt
import Derived.Lib.Hide
import Derived.StillTailTactics
import Derived.Laws.MakeOwn
import Derived.Deep.Matrix
set_option linter.unusedVariables false
open Go Go.RowKit
namespace Go.Proofs.Ytenofgofcioffaa
/-! ### Equality of tables -/
theorem l01Same_any (w : World) (v u : Value) (xs ys : List Int) (hv : RdI w v xs) (hu : RdI w u ys) : Calls Try.prog 109 #[v, u] w fun e w' => e = .returned (.bool (xs == ys)) ∧ ∃ n, w' = w.drewN n := by
  obtain ⟨A, c, rfl, hc1, hc2, hA⟩ := hv
  obtain ⟨A', c', rfl, hc1', hc2', hA'⟩ := hu
  unfold maxLen at hc2 hc2'
  by_cases hl : xs.length = ys.length
  · have hnl : (xs.length != ys.length) = false := by simpa using hl
    have hnl' : ((xs.length : Int) != (ys.length : Int)) = false := by rw [hl]; simp
    have HL := Lib.hid hl
    clear hl
    go_enter Try.func109, Try.ntmps109
    go_wp2
    go_loopw [5] (fun i wr => ∃ k : Nat, k ≤ xs.length ∧ i = .int .i64 k ∧ Hid (∀ j, j < k → xs.getD j 0 = ys.getD j 0) ∧ ∃ n, wr = w.drewN n) (fun i _ => xs.length - (intOf i).toNat)
    case atStart => exact ⟨0, Nat.zero_le _, rfl, (fun j hj => by omega), 0, rfl⟩
    case round =>
      obtain ⟨k, hk, rfl, hp, n, rfl⟩ := hrel
      by_cases hlt : k < xs.length
      · obtain ⟨b, off, rfl, hb1, hcell⟩ := hA k hlt
        have hlt' : k < ys.length := by rw [← HL.out]; exact hlt
        obtain ⟨b', off', rfl, hb1', hcell'⟩ := hA' k hlt'
        clear hA hA'
        obtain ⟨x, hx⟩ : ∃ x, x = xs.getD k 0 := ⟨_, rfl⟩
        obtain ⟨y, hy⟩ : ∃ y, y = ys.getD k 0 := ⟨_, rfl⟩
        rw [← hx] at hcell
        rw [← hy] at hcell'
        have HX := Lib.hid hx
        have HY := Lib.hid hy
        clear hx hy
        have hi0 : (0 : Int) ≤ (k : Int) := by omega
        have hi1 : (k : Int) < (xs.length : Int) := by omega
        have hi2 : (k : Int) < (ys.length : Int) := by omega
        by_cases hxy : x = y
        · have hne : (x != y) = false := by simpa using hxy
          have HXY := Lib.hid hxy
          clear hxy
          go_wp2
          go_quiet (fail)
          go_wp2
          go_roundw
          case rel =>
            refine ⟨k + 1, by omega, by go_num, fun j hj => ?_, n + nq, by first | rfl | rw [World.drewN_drewN]⟩
            rcases Nat.lt_or_ge j k with h | h
            · exact hp.out j h
            · obtain rfl : j = k := by omega
              rw [← HX.out, ← HY.out]; exact HXY.out
          case measure => simp [intOf]; omega
        · have hne : (x != y) = true := by simpa using hxy
          have HF : Hid ((xs == ys) = false) := by
            unfold Hid
            rw [beq_eq_false_iff_ne]
            intro h
            apply hxy
            rw [HX.out, HY.out, h]
          clear hxy
          go_wp2
          go_quiet (fail)
          go_wp2
          go_ret
          exact ⟨by rw [HF.out]; rfl, n + nq, by first | rfl | rw [World.drewN_drewN]⟩
      · have HF : Hid ((xs == ys) = true) := by
          unfold Hid
          rw [beq_iff_eq]
          exact eq_of_getD HL.out fun j hj => hp.out j (by omega)
        go_wp2
        go_ret
        exact ⟨by rw [HF.out]; rfl, n, rfl⟩
  · have hnl : (xs.length != ys.length) = true := by simpa using hl
    have hnl' : ((xs.length : Int) != (ys.length : Int)) = true := by simp; omega
    have HF : Hid ((xs == ys) = false) := by
      unfold Hid
      rw [beq_eq_false_iff_ne]
      intro h
      exact hl (by rw [h])
    clear hl
    go_enter Try.func109, Try.ntmps109
    go_wp2
    go_ret
    exact ⟨by rw [HF.out]; rfl, 0, rfl⟩
theorem l01Same_b (w : World) (v u : Value) (xs ys : List Int) (hv : RdI w v xs) (hu : RdI w u ys) : Calls Try.prog 109 #[v, u] w fun e w' => e = .returned (.bool (xs == ys)) ∧ Below w.heap.size w w' :=
  (l01Same_any w v u xs ys hv hu).mono fun _ _ ⟨h, n, e⟩ => ⟨h, by rw [e]; exact below_drewN (Below.refl _ _) _⟩
set_option maxHeartbeats 1000000 in
theorem l01Same2_any (w : World) (v u : Value) (xss yss : List (List Int)) (hv : RdP w v xss) (hu : RdP w u yss) : Calls Try.prog 92 #[v, u] w fun e w' => e = .returned (.bool (xss == yss)) ∧ Below w.heap.size w w' := by
  obtain ⟨A, c, rfl, hc1, hc2, hA⟩ := hv
  obtain ⟨A', c', rfl, hc1', hc2', hA'⟩ := hu
  unfold maxLen at hc2 hc2'
  by_cases hl : xss.length = yss.length
  · have hnl : (xss.length != yss.length) = false := by simpa using hl
    have hnl' : ((xss.length : Int) != (yss.length : Int)) = false := by rw [hl]; simp
    have HL := Lib.hid hl
    clear hl
    go_enter Try.func92, Try.ntmps92
    go_wp2
    go_loopw [5] (fun i wr => ∃ k : Nat, k ≤ xss.length ∧ i = .int .i64 k ∧ Hid (∀ j, j < k → xss.getD j [] = yss.getD j []) ∧ Below w.heap.size w wr) (fun i _ => xss.length - (intOf i).toNat)
    case atStart => exact ⟨0, Nat.zero_le _, rfl, (fun j hj => by omega), Below.refl _ _⟩
    case round =>
      obtain ⟨k, hk, rfl, hp, hb⟩ := hrel
      by_cases hlt : k < xss.length
      · obtain ⟨b, off, u, rfl, hb1, hcell, hr⟩ := hA k hlt
        have hlt' : k < yss.length := by rw [← HL.out]; exact hlt
        obtain ⟨b', off', u', rfl, hb1', hcell', hr'⟩ := hA' k hlt'
        clear hA hA'
        have hc0 : wr.cell? ⟨b, off + k, none⟩ = some u := (hb.cell (p := ⟨b, off + k, none⟩) hb1).trans hcell
        have hc0' : wr.cell? ⟨b', off' + k, none⟩ = some u' := (hb.cell (p := ⟨b', off' + k, none⟩) hb1').trans hcell'
        have hr2 := hr.below hb
        have hr2' := hr'.below hb
        obtain ⟨A1, c1, e1⟩ := hr2.form
        obtain ⟨A2, c2, e2⟩ := hr2'.form
        subst e1 e2
        clear hcell hcell' hr hr'
        have hi0 : (0 : Int) ≤ (k : Int) := by omega
        have hi1 : (k : Int) < (xss.length : Int) := by omega
        have hbz : b < wr.heap.size := Nat.lt_of_lt_of_le hb1 hb.size
        have hbz' : b' < wr.heap.size := Nat.lt_of_lt_of_le hb1' hb.size
        have hi2 : (k : Int) < (yss.length : Int) := by omega
        obtain ⟨x, hx⟩ : ∃ x, x = xss.getD k [] := ⟨_, rfl⟩
        obtain ⟨y, hy⟩ : ∃ y, y = yss.getD k [] := ⟨_, rfl⟩
        rw [← hx] at hc0 hr2
        rw [← hy] at hc0' hr2'
        have HX := Lib.hid hx
        have HY := Lib.hid hy
        clear hx hy
        cases hxy : (x == y)
        · have HF : Hid ((xss == yss) = false) := by
            unfold Hid
            rw [beq_eq_false_iff_ne] at hxy ⊢
            intro h
            apply hxy
            rw [HX.out, HY.out, h]
          have HXY := Lib.hid hxy
          clear hxy
          go_wp2
          go_region_held3 (fun w' => w'.cell? ⟨b, off + k, none⟩ = some (.slice A1 x.length c1) ∧ w'.cell? ⟨b', off' + k, none⟩ = some (.slice A2 y.length c2))
            (first | exact ⟨hc0, hc0'⟩ | exact ⟨(hb2.cell (p := ⟨b, off + k, none⟩) hbz).trans hc0, (hb2.cell (p := ⟨b', off' + k, none⟩) hbz').trans hc0'⟩)
            (first | (go_at_call 109; refine (l01Same_b _ _ _ x y (hr2.below (below_drew (Below.refl _ _))) (hr2'.below (below_drew (Below.refl _ _)))).mono ?_; rintro e w2 ⟨rfl, hb2⟩; rw [HXY.out]; have K2 : Below w.heap.size w w2 := (below_drew hb).trans (hb2.mono hb.size)))
          go_wp2
          go_ret
          exact ⟨by rw [HF.out]; rfl, K2⟩
        · have HXY := Lib.hid hxy
          clear hxy
          go_wp2
          go_region_held3 (fun w' => w'.cell? ⟨b, off + k, none⟩ = some (.slice A1 x.length c1) ∧ w'.cell? ⟨b', off' + k, none⟩ = some (.slice A2 y.length c2))
            (first | exact ⟨hc0, hc0'⟩ | exact ⟨(hb2.cell (p := ⟨b, off + k, none⟩) hbz).trans hc0, (hb2.cell (p := ⟨b', off' + k, none⟩) hbz').trans hc0'⟩)
            (first | (go_at_call 109; refine (l01Same_b _ _ _ x y (hr2.below (below_drew (Below.refl _ _))) (hr2'.below (below_drew (Below.refl _ _)))).mono ?_; rintro e w2 ⟨rfl, hb2⟩; rw [HXY.out]; have K2 : Below w.heap.size w w2 := (below_drew hb).trans (hb2.mono hb.size)))
          go_wp2
          go_roundw
          case rel =>
            refine ⟨k + 1, by omega, by go_num, fun j hj => ?_, K2⟩
            rcases Nat.lt_or_ge j k with h | h
            · exact hp.out j h
            · obtain rfl : j = k := by omega
              rw [← HX.out, ← HY.out]; exact beq_iff_eq.1 HXY.out
          case measure => simp [intOf]; omega
      · have HF : Hid ((xss == yss) = true) := by
          unfold Hid
          rw [beq_iff_eq]
          apply List.ext_getElem HL.out
          intro i h1 h2
          have := hp.out i (by omega)
          rwa [List.getD_eq_getElem?_getD, List.getD_eq_getElem?_getD, List.getElem?_eq_getElem h1, List.getElem?_eq_getElem h2] at this
        go_wp2
        go_ret
        exact ⟨by rw [HF.out]; rfl, hb⟩
  · have hnl : (xss.length != yss.length) = true := by simpa using hl
    have hnl' : ((xss.length : Int) != (yss.length : Int)) = true := by simp; omega
    have HF : Hid ((xss == yss) = false) := by
      unfold Hid
      rw [beq_eq_false_iff_ne]
      intro h
      exact hl (by rw [h])
    clear hl
    go_enter Try.func92, Try.ntmps92
    go_wp2
    go_ret
    exact ⟨by rw [HF.out]; rfl, Below.refl _ _⟩
theorem slEqual_any (w : World) (v u : Value) (xs ys : List Int) (hv : RdI w v xs) (hu : RdI w u ys) : Calls Try.prog 112 #[v, u] w fun e w' => e = .returned (.bool (xs == ys)) ∧ ∃ n, w' = w.drewN n := by
  obtain ⟨A, c, rfl, hc1, hc2, hA⟩ := hv
  obtain ⟨A', c', rfl, hc1', hc2', hA'⟩ := hu
  unfold maxLen at hc2 hc2'
  by_cases hl : xs.length = ys.length
  · have hnl : (xs.length != ys.length) = false := by simpa using hl
    have hnl' : ((xs.length : Int) != (ys.length : Int)) = false := by rw [hl]; simp
    have HL := Lib.hid hl
    clear hl
    go_enter Try.func112, Try.ntmps112
    go_wp2
    go_loopw [13] (fun i wr => ∃ k : Nat, k ≤ xs.length ∧ i = .int .i64 k ∧ Hid (∀ j, j < k → xs.getD j 0 = ys.getD j 0) ∧ ∃ n, wr = w.drewN n) (fun i _ => xs.length - (intOf i).toNat)
    case atStart => exact ⟨0, Nat.zero_le _, rfl, (fun j hj => by omega), 0, rfl⟩
    case round =>
      obtain ⟨k, hk, rfl, hp, n, rfl⟩ := hrel
      by_cases hlt : k < xs.length
      · obtain ⟨b, off, rfl, hb1, hcell⟩ := hA k hlt
        have hlt' : k < ys.length := by rw [← HL.out]; exact hlt
        obtain ⟨b', off', rfl, hb1', hcell'⟩ := hA' k hlt'
        clear hA hA'
        obtain ⟨x, hx⟩ : ∃ x, x = xs.getD k 0 := ⟨_, rfl⟩
        obtain ⟨y, hy⟩ : ∃ y, y = ys.getD k 0 := ⟨_, rfl⟩
        rw [← hx] at hcell
        rw [← hy] at hcell'
        have HX := Lib.hid hx
        have HY := Lib.hid hy
        clear hx hy
        have hi0 : (0 : Int) ≤ (k : Int) := by omega
        have hi1 : (k : Int) < (xs.length : Int) := by omega
        have hi2 : (k : Int) < (ys.length : Int) := by omega
        by_cases hxy : x = y
        · have hne : (x != y) = false := by simpa using hxy
          have HXY := Lib.hid hxy
          clear hxy
          go_wp2
          go_quiet (fail)
          go_wp2
          go_roundw
          case rel =>
            refine ⟨k + 1, by omega, by go_num, fun j hj => ?_, n + nq, by first | rfl | rw [World.drewN_drewN]⟩
            rcases Nat.lt_or_ge j k with h | h
            · exact hp.out j h
            · obtain rfl : j = k := by omega
              rw [← HX.out, ← HY.out]; exact HXY.out
          case measure => simp [intOf]; omega
        · have hne : (x != y) = true := by simpa using hxy
          have HF : Hid ((xs == ys) = false) := by
            unfold Hid
            rw [beq_eq_false_iff_ne]
            intro h
            apply hxy
            rw [HX.out, HY.out, h]
          clear hxy
          go_wp2
          go_quiet (fail)
          go_wp2
          go_ret
          exact ⟨by rw [HF.out]; rfl, n + nq, by first | rfl | rw [World.drewN_drewN]⟩
      · have HF : Hid ((xs == ys) = true) := by
          unfold Hid
          rw [beq_iff_eq]
          exact eq_of_getD HL.out fun j hj => hp.out j (by omega)
        go_wp2
        go_ret
        exact ⟨by rw [HF.out]; rfl, n, rfl⟩
  · have hnl : (xs.length != ys.length) = true := by simpa using hl
    have hnl' : ((xs.length : Int) != (ys.length : Int)) = true := by simp; omega
    have HF : Hid ((xs == ys) = false) := by
      unfold Hid
      rw [beq_eq_false_iff_ne]
      intro h
      exact hl (by rw [h])
    clear hl
    go_enter Try.func112, Try.ntmps112
    go_wp2
    go_ret
    exact ⟨by rw [HF.out]; rfl, 0, rfl⟩
theorem same1_any (w : World) (v u : Value) (xs ys : List Int) (hv : RdI w v xs) (hu : RdI w u ys) : Calls Try.prog 111 #[v, u] w fun e w' => e = .returned (.bool (xs == ys)) ∧ ∃ n, w' = w.drewN n := by
  go_enter Try.func111, Try.ntmps111
  go_wp2_with fail
  refine (slEqual_any _ _ _ xs ys hv hu).mono ?_
  rintro e w1 ⟨rfl, k, rfl⟩
  go_wp2
  go_ret
  exact ⟨rfl, _, rfl⟩
set_option maxHeartbeats 1000000 in
theorem equalFunc_any (w : World) (v u : Value) (xss yss : List (List Int)) (hv : RdP w v xss) (hu : RdP w u yss) : Calls Try.prog 110 #[v, u, .func (.func 111) #[] #[]] w fun e w' => e = .returned (.bool (xss == yss)) ∧ Below w.heap.size w w' := by
  have eg := Try.call111
  obtain ⟨A, c, rfl, hc1, hc2, hA⟩ := hv
  obtain ⟨A', c', rfl, hc1', hc2', hA'⟩ := hu
  unfold maxLen at hc2 hc2'
  by_cases hl : xss.length = yss.length
  · have hnl : (xss.length != yss.length) = false := by simpa using hl
    have hnl' : ((xss.length : Int) != (yss.length : Int)) = false := by rw [hl]; simp
    have HL := Lib.hid hl
    clear hl
    go_enter Try.func110, Try.ntmps110
    go_wp2
    go_loopw [17] (fun i wr => ∃ k : Nat, k ≤ xss.length ∧ i = .int .i64 k ∧ Hid (∀ j, j < k → xss.getD j [] = yss.getD j []) ∧ Below w.heap.size w wr) (fun i _ => xss.length - (intOf i).toNat)
    case atStart => exact ⟨0, Nat.zero_le _, rfl, (fun j hj => by omega), Below.refl _ _⟩
    case round =>
      obtain ⟨k, hk, rfl, hp, hb⟩ := hrel
      by_cases hlt : k < xss.length
      · obtain ⟨b, off, u, rfl, hb1, hcell, hr⟩ := hA k hlt
        have hlt' : k < yss.length := by rw [← HL.out]; exact hlt
        obtain ⟨b', off', u', rfl, hb1', hcell', hr'⟩ := hA' k hlt'
        clear hA hA'
        have hc0 : wr.cell? ⟨b, off + k, none⟩ = some u := (hb.cell (p := ⟨b, off + k, none⟩) hb1).trans hcell
        have hc0' : wr.cell? ⟨b', off' + k, none⟩ = some u' := (hb.cell (p := ⟨b', off' + k, none⟩) hb1').trans hcell'
        have hr2 := hr.below hb
        have hr2' := hr'.below hb
        obtain ⟨A1, c1, e1⟩ := hr2.form
        obtain ⟨A2, c2, e2⟩ := hr2'.form
        subst e1 e2
        clear hcell hcell' hr hr'
        have hi0 : (0 : Int) ≤ (k : Int) := by omega
        have hi1 : (k : Int) < (xss.length : Int) := by omega
        have hbz : b < wr.heap.size := Nat.lt_of_lt_of_le hb1 hb.size
        have hbz' : b' < wr.heap.size := Nat.lt_of_lt_of_le hb1' hb.size
        have hi2 : (k : Int) < (yss.length : Int) := by omega
        obtain ⟨x, hx⟩ : ∃ x, x = xss.getD k [] := ⟨_, rfl⟩
        obtain ⟨y, hy⟩ : ∃ y, y = yss.getD k [] := ⟨_, rfl⟩
        rw [← hx] at hc0 hr2
        rw [← hy] at hc0' hr2'
        have HX := Lib.hid hx
        have HY := Lib.hid hy
        clear hx hy
        cases hxy : (x == y)
        · have HF : Hid ((xss == yss) = false) := by
            unfold Hid
            rw [beq_eq_false_iff_ne] at hxy ⊢
            intro h
            apply hxy
            rw [HX.out, HY.out, h]
          have HXY := Lib.hid hxy
          clear hxy
          go_wp2_with fail
          refine (same1_any _ _ _ x y hr2 hr2').mono ?_
          rintro e w2 ⟨rfl, k2, rfl⟩
          rw [HXY.out]
          go_wp2
          go_ret
          exact ⟨by rw [HF.out]; rfl, below_drewN hb _⟩
        · have HXY := Lib.hid hxy
          clear hxy
          go_wp2_with fail
          refine (same1_any _ _ _ x y hr2 hr2').mono ?_
          rintro e w2 ⟨rfl, k2, rfl⟩
          rw [HXY.out]
          go_wp2
          go_roundw
          case rel =>
            refine ⟨k + 1, by omega, by go_num, fun j hj => ?_, below_drewN hb _⟩
            rcases Nat.lt_or_ge j k with h | h
            · exact hp.out j h
            · obtain rfl : j = k := by omega
              rw [← HX.out, ← HY.out]; exact beq_iff_eq.1 HXY.out
          case measure => simp [intOf]; omega
      · have HF : Hid ((xss == yss) = true) := by
          unfold Hid
          rw [beq_iff_eq]
          apply List.ext_getElem HL.out
          intro i h1 h2
          have := hp.out i (by omega)
          rwa [List.getD_eq_getElem?_getD, List.getD_eq_getElem?_getD, List.getElem?_eq_getElem h1, List.getElem?_eq_getElem h2] at this
        go_wp2
        go_ret
        exact ⟨by rw [HF.out]; rfl, hb⟩
  · have hnl : (xss.length != yss.length) = true := by simpa using hl
    have hnl' : ((xss.length : Int) != (yss.length : Int)) = true := by simp; omega
    have HF : Hid ((xss == yss) = false) := by
      unfold Hid
      rw [beq_eq_false_iff_ne]
      intro h
      exact hl (by rw [h])
    clear hl
    go_enter Try.func110, Try.ntmps110
    go_wp2
    go_ret
    exact ⟨by rw [HF.out]; rfl, Below.refl _ _⟩
theorem pSame_any (w : World) (m : Int) (v u : Value) (xss yss : List (List Int)) (hv : RdP w v xss) (hu : RdP w u yss) :
    Calls Try.prog 93 #[.agg #[.int .i64 m, v], .agg #[.int .i64 m, u]] w fun e w' => e = .returned (.bool (xss == yss)) ∧ Below w.heap.size w w' := by
  obtain ⟨A0, c0, rfl, hv1⟩ := id hv
  obtain ⟨A1, c1, rfl, hu1⟩ := id hu
  clear hv1 hu1
  have h1 : (m == m) = true := by simp
  cases hs : (xss == yss)
  all_goals
    have HS := Lib.hid hs
    clear hs
    go_enter Try.func93, Try.ntmps93
    go_wp2_with fail
    refine (equalFunc_any _ _ _ xss yss (hv.below ?_) (hu.below ?_)).mono ?_
    · (repeat (first | assumption | exact Below.refl _ _ | refine Below.alloc ?_ (by first | omega | (simp; done) | (simp; omega)) _ | refine Below.setCell ?_ (by first | omega | (simp; done) | (simp; omega)) _ | refine below_drewN ?_ _))
    · (repeat (first | assumption | exact Below.refl _ _ | refine Below.alloc ?_ (by first | omega | (simp; done) | (simp; omega)) _ | refine Below.setCell ?_ (by first | omega | (simp; done) | (simp; omega)) _ | refine below_drewN ?_ _))
    rintro e w1 ⟨rfl, hb⟩
    rw [HS.out]
    have K : Below w.heap.size w w1 := Below.trans (by (repeat (first | assumption | exact Below.refl _ _ | refine Below.alloc ?_ (by first | omega | (simp; done) | (simp; omega)) _ | refine Below.setCell ?_ (by first | omega | (simp; done) | (simp; omega)) _ | refine below_drewN ?_ _))) (hb.mono (by (first | omega | (simp; done) | (simp; omega))))
    go_wp2
    go_ret
    exact ⟨rfl, K⟩

/-! ### IsSymmetricPlane -/
def IsSymmetricPlaneR (m : Int) (xss : List (List Int)) : Bool × Int := if isPl m xss = false then (false, 1) else (xss == tab xss.length fun i j => co2 xss j i, 0)
set_option maxHeartbeats 1000000 in
theorem iIsSymmetricPlaneR_any (w : World) (m : Int) (v : Value) (xss : List (List Int)) (lo hi : Nat) (hv : OwnP w lo hi v xss) (hl : szP xss ≤ 2000000) : Calls Try.prog 44 #[.agg #[.int .i64 m, v]] w (RetBI w (IsSymmetricPlaneR m xss)) := by
  obtain ⟨A, c, rfl, -, -⟩ := hv.form
  cases hs : isPl m xss
  · have HF : Hid (IsSymmetricPlaneR m xss = (false, 1)) := by simp [Hid, IsSymmetricPlaneR, hs]
    have HS := Lib.hid hs
    clear hs
    go_enter Try.func44, Try.ntmps44
    go_wp2_with (go_at_call 18; refine (iIsPlane_any _ m _ xss lo hi (OwnP.keep hv (by (repeat (first | assumption | exact Below.refl _ _ | refine Below.alloc ?_ (by first | omega | (simp; done) | (simp; omega)) _ | refine Below.setCell ?_ (by first | omega | (simp; done) | (simp; omega)) _ | refine below_drewN ?_ _)))) hl).mono ?_; rintro e w1 ⟨rfl, hb1⟩; rw [HS.out]; obtain ⟨P1, K1⟩ := Bf.first1 hb1; have p1a := P1.1.2.1; have p1b := P1.1.2.2; have z1 := P1.1.1)
    go_ret2
    exact ⟨by rw [HF.out]; rfl, K1⟩
  · have hm := isModB_true (isPl_true hs).1
    have hlen := (isPl_true hs).2.1
    have HT := Lib.hid (isPl_tri hs)
    have HN := Lib.hid (isPl_num2 hs)
    obtain ⟨ys, hy⟩ : ∃ ys, (tab xss.length fun i j => co2 xss j i) = ys := ⟨_, rfl⟩
    obtain ⟨bb, hbb⟩ : ∃ bb, (xss == ys) = bb := ⟨_, rfl⟩
    have HF : Hid (IsSymmetricPlaneR m xss = (bb, 0)) := by simp [Hid, IsSymmetricPlaneR, hs, hy, hbb]
    have HYL : Hid (ys.length = xss.length) := by unfold Hid; rw [← hy, length_tab]
    have HY := Lib.hid hy
    have HS := Lib.hid hs
    have HB := Lib.hid hbb
    clear hs hy hbb
    go_enter Try.func44, Try.ntmps44
    go_wp2_with (go_at_call 18; refine (iIsPlane_any _ m _ xss lo hi (OwnP.keep hv (by (repeat (first | assumption | exact Below.refl _ _ | refine Below.alloc ?_ (by first | omega | (simp; done) | (simp; omega)) _ | refine Below.setCell ?_ (by first | omega | (simp; done) | (simp; omega)) _ | refine below_drewN ?_ _)))) hl).mono ?_; rintro e w1 ⟨rfl, hb1⟩; rw [HS.out]; obtain ⟨P1, K1⟩ := Bf.first1 hb1; have p1a := P1.1.2.1; have p1b := P1.1.2.2; have z1 := P1.1.1)
    have HV := Lib.hid (hv.keep K1)
    go_region_held3 (fun w' => w'.cell? ⟨w.heap.size, 0, none⟩ = some (.int .i64 m) ∧ w'.cell? ⟨w.heap.size, 1, none⟩ = some (.slice A xss.length c)) (first | exact ⟨p1a, p1b⟩ | exact ⟨p2a, p2b⟩ | exact ⟨p3a, p3b⟩ | go_keep)
      (first | (go_at_call 91; refine (turned_any _ m _ xss ys xss.length lo hi (HV.out.drewN 1) HT.out HN.out (by omega) (by omega) (by omega) (by omega) HY.out).mono ?_; rintro e w2 ⟨A2, c2, rfl, o2, hb2⟩; have R2 : Below w1.heap.size w1 w2 := (Below.trans (by (repeat (first | assumption | exact Below.refl _ _ | refine Below.alloc ?_ (by first | omega | (simp; done) | (simp; omega)) _ | refine Below.setCell ?_ (by first | omega | (simp; done) | (simp; omega)) _ | refine below_drewN ?_ _))) (hb2.mono (by first | exact Nat.le_refl _ | (simp; done) | (simp; omega)))); have s2 := R2.size; have K2 : Below w.heap.size w w2 := K1.trans (R2.mono K1.size); have P2 := P1.keep R2; have p2a := P2.1.2.1; have p2b := P2.1.2.2; have z2 := P2.1.1; have HV2 := Lib.hid (hv.keep K2)) | (go_at_call 93; refine (pSame_any _ m _ _ xss ys HV2.out.rd o2.rd).mono ?_; rintro e w3 ⟨rfl, hb3⟩; rw [HB.out]; have R3 : Below w2.heap.size w2 w3 := (Below.trans (by (repeat (first | assumption | exact Below.refl _ _ | refine Below.alloc ?_ (by first | omega | (simp; done) | (simp; omega)) _ | refine Below.setCell ?_ (by first | omega | (simp; done) | (simp; omega)) _ | refine below_drewN ?_ _))) (hb3.mono (by first | exact Nat.le_refl _ | (simp; done) | (simp; omega)))); have s3 := R3.size; have K3 : Below w.heap.size w w3 := K2.trans (R3.mono K2.size); have P3 := P2.keep R3; have p3a := P3.1.2.1; have p3b := P3.1.2.2; have z3 := P3.1.1))
    go_wp2
    go_ret2
    exact ⟨by rw [HF.out]; rfl, K3⟩
set_option maxHeartbeats 1000000 in
theorem sIsSymmetricPlaneR_any (w : World) (m : Int) (v : Value) (xss : List (List Int)) (lo hi : Nat) (hv : OwnP w lo hi v xss) (hl : szP xss ≤ 2000000) : Calls Try.prog 43 #[.agg #[.int .i64 m, v]] w (RetBI w (IsSymmetricPlaneR m xss)) := by
  obtain ⟨A, c, rfl, -, -⟩ := hv.form
  cases hs : isPl m xss
  · have HF : Hid (IsSymmetricPlaneR m xss = (false, 1)) := by simp [Hid, IsSymmetricPlaneR, hs]
    have HS := Lib.hid hs
    clear hs
    go_enter Try.func43, Try.ntmps43
    go_wp2_with (go_at_call 50; refine (l03Is_any _ m _ xss lo hi (OwnP.keep hv (by (repeat (first | assumption | exact Below.refl _ _ | refine Below.alloc ?_ (by first | omega | (simp; done) | (simp; omega)) _ | refine Below.setCell ?_ (by first | omega | (simp; done) | (simp; omega)) _ | refine below_drewN ?_ _)))) hl).mono ?_; rintro e w1 ⟨rfl, hb1⟩; rw [HS.out]; obtain ⟨P1, K1⟩ := Bf.first1 hb1; have p1a := P1.1.2.1; have p1b := P1.1.2.2; have z1 := P1.1.1)
    go_ret2
    exact ⟨by rw [HF.out]; rfl, K1⟩
  · have hlen := (isPl_true hs).2.1
    have HT := Lib.hid (isPl_tri hs)
    obtain ⟨ys, hy⟩ : ∃ ys, (tab xss.length fun i j => co2 xss j i) = ys := ⟨_, rfl⟩
    obtain ⟨bb, hbb⟩ : ∃ bb, (xss == ys) = bb := ⟨_, rfl⟩
    have HF : Hid (IsSymmetricPlaneR m xss = (bb, 0)) := by simp [Hid, IsSymmetricPlaneR, hs, hy, hbb]
    have HY := Lib.hid hy
    have HS := Lib.hid hs
    have HB := Lib.hid hbb
    clear hs hy hbb
    go_enter Try.func43, Try.ntmps43
    go_wp2_with (go_at_call 50; refine (l03Is_any _ m _ xss lo hi (OwnP.keep hv (by (repeat (first | assumption | exact Below.refl _ _ | refine Below.alloc ?_ (by first | omega | (simp; done) | (simp; omega)) _ | refine Below.setCell ?_ (by first | omega | (simp; done) | (simp; omega)) _ | refine below_drewN ?_ _)))) hl).mono ?_; rintro e w1 ⟨rfl, hb1⟩; rw [HS.out]; obtain ⟨P1, K1⟩ := Bf.first1 hb1; have p1a := P1.1.2.1; have p1b := P1.1.2.2; have z1 := P1.1.1)
    have HV := Lib.hid (hv.keep K1)
    go_region_held3 (fun w' => w'.cell? ⟨w.heap.size, 0, none⟩ = some (.int .i64 m) ∧ w'.cell? ⟨w.heap.size, 1, none⟩ = some (.slice A xss.length c)) (first | exact ⟨p1a, p1b⟩ | exact ⟨p2a, p2b⟩ | exact ⟨p3a, p3b⟩ | go_keep)
      (first | (go_at_call 83; refine (l03Turn_any _ _ xss ys xss.length lo hi (HV.out.drewN 1) HT.out (by omega) (by omega) HY.out).mono ?_; rintro e w2 ⟨A2, c2, rfl, o2, hb2⟩; have R2 : Below w1.heap.size w1 w2 := (Below.trans (by (repeat (first | assumption | exact Below.refl _ _ | refine Below.alloc ?_ (by first | omega | (simp; done) | (simp; omega)) _ | refine Below.setCell ?_ (by first | omega | (simp; done) | (simp; omega)) _ | refine below_drewN ?_ _))) (hb2.mono (by first | exact Nat.le_refl _ | (simp; done) | (simp; omega)))); have s2 := R2.size; have K2 : Below w.heap.size w w2 := K1.trans (R2.mono K1.size); have P2 := P1.keep R2; have p2a := P2.1.2.1; have p2b := P2.1.2.2; have z2 := P2.1.1; have HV2 := Lib.hid (hv.keep K2)) | (go_at_call 92; refine (l01Same2_any _ _ _ xss ys HV2.out.rd o2.rd).mono ?_; rintro e w3 ⟨rfl, hb3⟩; rw [HB.out]; have R3 : Below w2.heap.size w2 w3 := (Below.trans (by (repeat (first | assumption | exact Below.refl _ _ | refine Below.alloc ?_ (by first | omega | (simp; done) | (simp; omega)) _ | refine Below.setCell ?_ (by first | omega | (simp; done) | (simp; omega)) _ | refine below_drewN ?_ _))) (hb3.mono (by first | exact Nat.le_refl _ | (simp; done) | (simp; omega)))); have s3 := R3.size; have K3 : Below w.heap.size w w3 := K2.trans (R3.mono K2.size); have P3 := P2.keep R3; have p3a := P3.1.2.1; have p3b := P3.1.2.2; have z3 := P3.1.1))
    go_wp2
    go_ret2
    exact ⟨by rw [HF.out]; rfl, K3⟩

/-! ### The laws' walks, printed by genlaw2.py -/
set_option maxHeartbeats 4000000 in
theorem FnExactIsSymmetricPlane_walk (w : World) (m0 : Int) (v0 : Value) (xs0 : List (List Int)) (hv0 : RdP w v0 xs0) : Calls Try.prog 12 #[.agg #[.int .i64 m0, v0]] w fun e w' => e = .returned (.bool true) ∧ Below w.heap.size w w' := by
  obtain ⟨A0, c0, e0⟩ := hv0.form
  subst e0
  obtain ⟨r0, HR⟩ : ∃ r0, Hid (IsSymmetricPlaneR m0 xs0 = r0) := ⟨_, rfl⟩
  obtain ⟨r, rc⟩ := r0
  by_cases hz0 : 1048576 < ((szP xs0) : Int)
  · skip
    have HZ0 := Lib.hid (szN_lt hz0)
    go_enter Try.func12, Try.ntmps12
    go_wp2_with fail
    refine (szP_any _ m0 _ xs0 (1048576) (hv0.below (by (repeat (first | assumption | exact Below.refl _ _ | refine Below.alloc ?_ (by first | omega | (simp; done) | (simp; omega)) _ | refine Below.setCell ?_ (by first | omega | (simp; done) | (simp; omega)) _ | refine below_drewN ?_ _)))) (by omega) (by omega)).mono ?_
    rintro e w1 ⟨rfl, hb1⟩
    rw [HZ0.out]
    have R : Below w.heap.size w w1 := Below.trans (by (repeat (first | assumption | exact Below.refl _ _ | refine Below.alloc ?_ (by first | omega | (simp; done) | (simp; omega)) _ | refine Below.setCell ?_ (by first | omega | (simp; done) | (simp; omega)) _ | refine below_drewN ?_ _))) (hb1.mono (by first | exact Nat.le_refl _ | (simp; done) | (simp; omega)))
    have s1 : w.heap.size ≤ w1.heap.size := R.size
    have K1 : Hid (Below w.heap.size w w1) := R
    have b0 : Hid (Bx w1 w.heap.size (.int .i64 m0) (.slice A0 xs0.length c0)) := ⟨by have := hb1.size; simp at this; omega, by rw [hb1.cell (by first | (simp; done) | (simp; omega))]; simp, by rw [hb1.cell (by first | (simp; done) | (simp; omega))]; simp⟩
    clear R hb1
    have b0_c := b0.out.2.1
    have b0_d := b0.out.2.2
    have b0_z := b0.out.1
    go_wp2
    go_ret
    exact ⟨rfl, K1.out⟩
  have HZ0 := Lib.hid (szN_ge hz0)
  have hl0 : ((szP xs0) : Int) ≤ 1048576 := by omega
  clear hz0
  have hq0 := cntP_le_szP xs0
  have hq0' := length_le_szP xs0
  go_enter Try.func12, Try.ntmps12
  go_wp2_with fail
  refine (szP_any _ m0 _ xs0 (1048576) (hv0.below (by (repeat (first | assumption | exact Below.refl _ _ | refine Below.alloc ?_ (by first | omega | (simp; done) | (simp; omega)) _ | refine Below.setCell ?_ (by first | omega | (simp; done) | (simp; omega)) _ | refine below_drewN ?_ _)))) (by omega) (by omega)).mono ?_
  rintro e w2 ⟨rfl, hb2⟩
  rw [HZ0.out]
  have R : Below w.heap.size w w2 := Below.trans (by (repeat (first | assumption | exact Below.refl _ _ | refine Below.alloc ?_ (by first | omega | (simp; done) | (simp; omega)) _ | refine Below.setCell ?_ (by first | omega | (simp; done) | (simp; omega)) _ | refine below_drewN ?_ _))) (hb2.mono (by first | exact Nat.le_refl _ | (simp; done) | (simp; omega)))
  have s2 : w.heap.size ≤ w2.heap.size := R.size
  have K2 : Hid (Below w.heap.size w w2) := R
  have b0 : Hid (Bx w2 w.heap.size (.int .i64 m0) (.slice A0 xs0.length c0)) := ⟨by have := hb2.size; simp at this; omega, by rw [hb2.cell (by first | (simp; done) | (simp; omega))]; simp, by rw [hb2.cell (by first | (simp; done) | (simp; omega))]; simp⟩
  clear R hb2
  have b0_c := b0.out.2.1
  have b0_d := b0.out.2.2
  have b0_z := b0.out.1
  go_wp2_with fail
  refine (toP_any _ m0 _ xs0 (hv0.below K2.out) (by omega)).mono ?_
  rintro e w3 ⟨A_p0, c_p0, rfl, o_p0, hb3⟩
  clear b0_c b0_d b0_z
  have o_p0' := (o_p0).mono (show w2.heap.size ≤ _ from by first | exact Nat.le_refl _ | (simp; done) | (simp; omega)) (Nat.le_refl _)
  clear o_p0
  have R : Below w2.heap.size w2 w3 := Below.trans (by (repeat (first | assumption | exact Below.refl _ _ | refine Below.alloc ?_ (by first | omega | (simp; done) | (simp; omega)) _ | refine Below.setCell ?_ (by first | omega | (simp; done) | (simp; omega)) _ | refine below_drewN ?_ _))) (hb3.mono (by first | exact Nat.le_refl _ | (simp; done) | (simp; omega)))
  have s3 : w2.heap.size ≤ w3.heap.size := R.size
  have K3 : Hid (Below w.heap.size w w3) := K2.out.trans (R.mono (by omega))
  replace b0 : Hid (Bx w3 w.heap.size (.int .i64 m0) (.slice A0 xs0.length c0)) := b0.out.keep R
  clear R hb3
  have p0 : Hid (OwnP w3 w2.heap.size w3.heap.size (.slice A_p0 xs0.length c_p0) xs0) := o_p0'
  clear o_p0'
  have b0_c := b0.out.2.1
  have b0_d := b0.out.2.2
  have b0_z := b0.out.1
  go_wp2_with fail
  refine (sIsSymmetricPlaneR_any _ m0 (.slice A_p0 xs0.length c_p0) xs0 w2.heap.size w3.heap.size (p0.out.keep (by (repeat (first | assumption | exact Below.refl _ _ | refine Below.alloc ?_ (by first | omega | (simp; done) | (simp; omega)) _ | refine Below.setCell ?_ (by first | omega | (simp; done) | (simp; omega)) _ | refine below_drewN ?_ _)))) (by omega)).mono ?_
  rintro e w4 h_r
  replace h_r := h_r.of HR
  obtain ⟨rfl, hb4⟩ := h_r
  clear b0_c b0_d b0_z
  have R : Below w3.heap.size w3 w4 := Below.trans (by (repeat (first | assumption | exact Below.refl _ _ | refine Below.alloc ?_ (by first | omega | (simp; done) | (simp; omega)) _ | refine Below.setCell ?_ (by first | omega | (simp; done) | (simp; omega)) _ | refine below_drewN ?_ _))) (hb4.mono (by first | exact Nat.le_refl _ | (simp; done) | (simp; omega)))
  have s4 : w3.heap.size ≤ w4.heap.size := R.size
  have K4 : Hid (Below w.heap.size w w4) := K3.out.trans (R.mono (by omega))
  replace b0 : Hid (Bx w4 w.heap.size (.int .i64 m0) (.slice A0 xs0.length c0)) := b0.out.keep R
  replace p0 : Hid (OwnP w4 w2.heap.size w3.heap.size (.slice A_p0 xs0.length c_p0) xs0) := p0.out.keep R
  clear R hb4
  clear p0
  have b0_c := b0.out.2.1
  have b0_d := b0.out.2.2
  have b0_z := b0.out.1
  go_wp2_with fail
  refine (toP_any _ m0 _ xs0 (hv0.below K4.out) (by omega)).mono ?_
  rintro e w5 ⟨A_x0, c_x0, rfl, o_x0, hb5⟩
  clear b0_c b0_d b0_z
  have o_x0' := (o_x0).mono (show w4.heap.size ≤ _ from by first | exact Nat.le_refl _ | (simp; done) | (simp; omega)) (Nat.le_refl _)
  clear o_x0
  have R : Below w4.heap.size w4 w5 := Below.trans (by (repeat (first | assumption | exact Below.refl _ _ | refine Below.alloc ?_ (by first | omega | (simp; done) | (simp; omega)) _ | refine Below.setCell ?_ (by first | omega | (simp; done) | (simp; omega)) _ | refine below_drewN ?_ _))) (hb5.mono (by first | exact Nat.le_refl _ | (simp; done) | (simp; omega)))
  have s5 : w4.heap.size ≤ w5.heap.size := R.size
  have K5 : Hid (Below w.heap.size w w5) := K4.out.trans (R.mono (by omega))
  replace b0 : Hid (Bx w5 w.heap.size (.int .i64 m0) (.slice A0 xs0.length c0)) := b0.out.keep R
  clear R hb5
  have x0 : Hid (OwnP w5 w4.heap.size w5.heap.size (.slice A_x0 xs0.length c_x0) xs0) := o_x0'
  clear o_x0'
  have b0_c := b0.out.2.1
  have b0_d := b0.out.2.2
  have b0_z := b0.out.1
  go_wp2_with fail
  refine (iIsSymmetricPlaneR_any _ m0 (.slice A_x0 xs0.length c_x0) xs0 w4.heap.size w5.heap.size (x0.out.keep (by (repeat (first | assumption | exact Below.refl _ _ | refine Below.alloc ?_ (by first | omega | (simp; done) | (simp; omega)) _ | refine Below.setCell ?_ (by first | omega | (simp; done) | (simp; omega)) _ | refine below_drewN ?_ _)))) (by omega)).mono ?_
  rintro e w6 h_r
  replace h_r := h_r.of HR
  obtain ⟨rfl, hb6⟩ := h_r
  clear b0_c b0_d b0_z
  have R : Below w5.heap.size w5 w6 := Below.trans (by (repeat (first | assumption | exact Below.refl _ _ | refine Below.alloc ?_ (by first | omega | (simp; done) | (simp; omega)) _ | refine Below.setCell ?_ (by first | omega | (simp; done) | (simp; omega)) _ | refine below_drewN ?_ _))) (hb6.mono (by first | exact Nat.le_refl _ | (simp; done) | (simp; omega)))
  have s6 : w5.heap.size ≤ w6.heap.size := R.size
  have K6 : Hid (Below w.heap.size w w6) := K5.out.trans (R.mono (by omega))
  replace b0 : Hid (Bx w6 w.heap.size (.int .i64 m0) (.slice A0 xs0.length c0)) := b0.out.keep R
  replace x0 : Hid (OwnP w6 w4.heap.size w5.heap.size (.slice A_x0 xs0.length c_x0) xs0) := x0.out.keep R
  have bx0 : Hid (Bx w6 w5.heap.size (.int .i64 m0) (.slice A_x0 xs0.length c_x0)) := ⟨by have := hb6.size; simp at this; omega, by rw [hb6.cell (by first | (simp; done) | (simp; omega))]; simp, by rw [hb6.cell (by first | (simp; done) | (simp; omega))]; simp⟩
  clear R hb6
  have b0_c := b0.out.2.1
  have b0_d := b0.out.2.2
  have b0_z := b0.out.1
  have bx0_c := bx0.out.2.1
  have bx0_d := bx0.out.2.2
  have bx0_z := bx0.out.1
  go_wp2
  clear b0_c b0_d b0_z
  clear bx0_c bx0_d bx0_z
  have L0 : Below w.heap.size w w6.drew := below_drew K6.out
  have T0 : Hid (Bx w6.drew w.heap.size (.int .i64 m0) (.slice A0 xs0.length c0) ∧ Bx w6.drew w5.heap.size (.int .i64 m0) (.slice A_x0 xs0.length c_x0) ∧ OwnP w6.drew w4.heap.size w5.heap.size (.slice A_x0 xs0.length c_x0) xs0 ∧ Below w.heap.size w w6.drew ∧ w6.heap.size ≤ w6.drew.heap.size) := ⟨b0.out, bx0.out, x0.out, L0, Nat.le_refl _⟩
  go_region_held3 (fun w' => w'.cell? ⟨w.heap.size, 0, none⟩ = some (.int .i64 m0) ∧ w'.cell? ⟨w.heap.size, 1, none⟩ = some (.slice A0 xs0.length c0) ∧ w'.cell? ⟨w5.heap.size, 0, none⟩ = some (.int .i64 m0) ∧ w'.cell? ⟨w5.heap.size, 1, none⟩ = some (.slice A_x0 xs0.length c_x0) ∧ Hid (Bx w' w.heap.size (.int .i64 m0) (.slice A0 xs0.length c0) ∧ Bx w' w5.heap.size (.int .i64 m0) (.slice A_x0 xs0.length c_x0) ∧ OwnP w' w4.heap.size w5.heap.size (.slice A_x0 xs0.length c_x0) xs0 ∧ Below w.heap.size w w' ∧ w6.heap.size ≤ w'.heap.size))
    (first | exact ⟨(T0.out.1).2.1, (T0.out.1).2.2, (T0.out.2.1).2.1, (T0.out.2.1).2.2, T0⟩ | exact ⟨(T1.out.1).2.1, (T1.out.1).2.2, (T1.out.2.1).2.1, (T1.out.2.1).2.2, T1⟩ | exact ⟨(T2.out.1).2.1, (T2.out.1).2.2, (T2.out.2.1).2.1, (T2.out.2.1).2.2, T2⟩)
    (first
      | (go_at_call 17; refine (toP_any _ m0 _ xs0 (hv0.below L0) (by omega)).mono ?_; rintro e w7 ⟨A_t, c_t, rfl, o_t, hbA⟩; have T1 : Hid (Bx w7 w.heap.size (.int .i64 m0) (.slice A0 xs0.length c0) ∧ Bx w7 w5.heap.size (.int .i64 m0) (.slice A_x0 xs0.length c_x0) ∧ OwnP w7 w4.heap.size w5.heap.size (.slice A_x0 xs0.length c_x0) xs0 ∧ Below w.heap.size w w7 ∧ w6.heap.size ≤ w7.heap.size) := ⟨(T0.out.1).keep hbA, (T0.out.2.1).keep hbA, (T0.out.2.2.1).keep hbA, (T0.out.2.2.2.1).trans (hbA.mono (Nat.le_trans (show w.heap.size ≤ w6.heap.size from by omega) (T0.out.2.2.2.2))), Nat.le_trans (T0.out.2.2.2.2) hbA.size⟩)
      | (go_at_call 19; refine (eqP_any _ m0 m0 _ _ xs0 xs0 (T1.out.2.2.1).rd o_t.rd).mono ?_; rintro e w8 ⟨rfl, hbB⟩; have T2 : Hid (Bx w8 w.heap.size (.int .i64 m0) (.slice A0 xs0.length c0) ∧ Bx w8 w5.heap.size (.int .i64 m0) (.slice A_x0 xs0.length c_x0) ∧ OwnP w8 w4.heap.size w5.heap.size (.slice A_x0 xs0.length c_x0) xs0 ∧ Below w.heap.size w w8 ∧ w6.heap.size ≤ w8.heap.size) := ⟨(T1.out.1).keep hbB, (T1.out.2.1).keep hbB, (T1.out.2.2.1).keep hbB, (T1.out.2.2.2.1).trans (hbB.mono (Nat.le_trans (show w.heap.size ≤ w6.heap.size from by omega) (T1.out.2.2.2.2))), Nat.le_trans (T1.out.2.2.2.2) hbB.size⟩))
  have s8 : w6.heap.size ≤ w8.heap.size := T2.out.2.2.2.2
  have K8 : Hid (Below w.heap.size w w8) := T2.out.2.2.2.1
  replace b0 : Hid (Bx w8 w.heap.size (.int .i64 m0) (.slice A0 xs0.length c0)) := T2.out.1
  replace bx0 : Hid (Bx w8 w5.heap.size (.int .i64 m0) (.slice A_x0 xs0.length c_x0)) := T2.out.2.1
  replace x0 : Hid (OwnP w8 w4.heap.size w5.heap.size (.slice A_x0 xs0.length c_x0) xs0) := T2.out.2.2.1
  clear T0 T1 T2 L0 o_t
  have b0_c := b0.out.2.1
  have b0_d := b0.out.2.2
  have b0_z := b0.out.1
  have bx0_c := bx0.out.2.1
  have bx0_d := bx0.out.2.2
  have bx0_z := bx0.out.1
  go_wp2
  go_ret
  exact ⟨rfl, K8.out⟩


end Go.Proofs.Ytenofgofcioffaa
