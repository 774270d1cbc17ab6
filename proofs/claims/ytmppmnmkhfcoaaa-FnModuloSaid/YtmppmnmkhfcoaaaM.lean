/- Contracts over this seat's translation. Condition: each contract's own. -/
import Derived.Test.YtmppmnmkhfcoaaaJ
import Derived.ProofKit
import Derived.Laws.Bits64b
import Derived.Lib.Mul64
import Derived.OpenShut
import Derived.Below
import Derived.ChangeSame
import Derived.Deep.Modes
import Derived.Lib.SmallJoins
import Derived.ChangeSlices
import Derived.WalkKit
import Derived.WalkSpells
import Derived.WalkLawsBesides
import Derived.Deep.QuietTactic
import Derived.BigQuiet
import Derived.Deep.RegionHeld3
import Derived.Deep.RegionWith
import Derived.Deep.RegionLaw
import Derived.Deep.AppendLies
import Derived.Laws.CopyOwn
import Derived.Deep.DeepCutAuto
import Derived.Deep.OwnRows
import Derived.Deep.LoopGhost
import Derived.Deep.DeepFit
import Derived.Deep.DeepMust
import Derived.Deep.Draws
import Derived.Deep.CutRange
import Derived.Maps.AppendAt
import Derived.Lib.Hide
import Derived.StillTailTactics
import Derived.Laws.MakeOwn
import Derived.Deep.Matrix
set_option linter.unusedVariables false
open Go Go.RowKit
namespace Go.Proofs.Ytmppmnmkhfcoaaa
/-! ### The law of the numbers modulo m: its walk -/
theorem ordN_le {m a : Int} (hm : 2 ≤ m) (ha : 0 ≤ a) (hu : unitB m a = true) : (ordN m a : Int) ≤ m := by
  obtain ⟨N, h1, h2, h3⟩ := order_bound hm ha hu
  have ho := ordN_spec hm ha hu
  rcases Nat.lt_or_ge N (ordN m a) with h | h
  · exact absurd h3 (ho.2.2 N h1 h)
  · omega
theorem codeR_two {m a x : Int} (hm : 2 ≤ m ∧ m ≤ 10000) (ha : 0 ≤ a ∧ a < m) (hx : 0 ≤ x ∧ x < m) : codeR m [a, x] = 0 := by
  have h1 : isModB m = true := inB_true.2 hm
  have h2 : isNumB a m = true := inB_true.2 (by omega)
  have h3 : isNumB x m = true := inB_true.2 (by omega)
  unfold codeR numsB
  rw [h1]
  simp [h2, h3]
structure InvLaw (m a x : Int) : Prop where
  mul : codeN m [a, x] (a * x % m) = (1, 0)
  units : unitsR m = (unitsN m m.toNat, 0)
  order : OrderModuloR m a = ((ordN m a : Int), 0)
  unit : IsUnitR m a = (true, 0)
  pos : 1 ≤ ordN m a
  le : (ordN m a : Int) ≤ 10000
  pow : PowerModuloR m a (ordN m a : Int) = (1, 0)
  div : (unitsN m m.toNat).tmod (ordN m a : Int) = 0
theorem inv_law {m a x : Int} (h : InverseModuloR m a = (x, 0)) : InvLaw m a x := by
  unfold InverseModuloR at h
  split at h
  · rename_i hu
    obtain ⟨hc, hub⟩ := unitC_zero hu
    obtain ⟨hm, ha⟩ := codeR_zero1 hc
    have hmb : isModB m = true := inB_true.2 hm
    simp only [Prod.mk.injEq, and_true] at h
    subst h
    have hx : 0 ≤ invN m a ∧ invN m a < m := ⟨Int.emod_nonneg _ (by omega), Int.emod_lt_of_pos _ (by omega)⟩
    have ho := ordN_spec hm.1 ha.1 hub
    have hle := ordN_le hm.1 ha.1 hub
    refine ⟨?_, ?_, ?_, ?_, ho.1, by omega, ?_, ?_⟩
    · rw [invN_mul hm.1 hub]; unfold codeN; rw [if_pos (codeR_two hm ha hx)]
    · unfold unitsR; rw [hmb]; rfl
    · unfold OrderModuloR; rw [if_pos hu]
    · unfold IsUnitR; rw [if_pos hc, hub]
    · unfold PowerModuloR
      have : inB (ordN m a : Int) 0 1000000000000 = true := inB_true.2 (by omega)
      rw [if_pos hc, this, Int.toNat_natCast, ho.2.1]; rfl
    · rw [Int.tmod_eq_emod_of_nonneg (unitsN_le m m.toNat).1]
      exact units_div hm.1 ha.1 hub
  · simp only [Prod.mk.injEq] at h
    rename_i hu
    exact absurd h.2 hu
theorem rem_law {r s x : Int} (h : remR r s = (x, 0)) : (2 ≤ r ∧ r ≤ 10000) ∧ (-1000000000000 ≤ s ∧ s ≤ 1000000000000) ∧ (0 ≤ x ∧ x < r) ∧ (s - x).tmod r = 0 := by
  unfold remR at h
  split at h
  · simp at h
  · split at h
    · simp at h
    · rename_i h1 h2
      have hr := isModB_true (by simpa using h1)
      have hs := isIntB_true (by simpa using h2)
      simp only [Prod.mk.injEq, and_true] at h
      subst h
      refine ⟨hr, hs, ⟨Int.emod_nonneg _ (by omega), Int.emod_lt_of_pos _ (by omega)⟩, ?_⟩
      rw [tmod_zero_iff]
      exact Int.dvd_self_sub_emod
theorem solve_code {k b c y z : Int} (h : solveR k b c = (y, z)) (hz : z = 0 ∨ z = 4) : codeR k [b, c] = 0 := by
  unfold solveR at h
  split at h
  · assumption
  · simp only [Prod.mk.injEq] at h
    rename_i hc
    have : codeR k [b, c] = 0 ∨ codeR k [b, c] = 1 ∨ codeR k [b, c] = 2 := by
      unfold codeR
      split
      · simp
      · split <;> simp
    omega
theorem iIsModulus_b (m : Int) (w : World) : Calls Try.prog 44 #[.int .i64 m] w fun e w' => e = .returned (.bool (isModB m)) ∧ Below w.heap.size w w' :=
  (iIsModulus_any m w).mono fun e w' h => by obtain ⟨h1, k, rfl⟩ := h; exact ⟨h1, below_drewN (Below.refl _ _) k⟩
theorem sIsModulus_b (m : Int) (w : World) : Calls Try.prog 45 #[.int .i64 m] w fun e w' => e = .returned (.bool (isModB m)) ∧ Below w.heap.size w w' :=
  (sIsModulus_any m w).mono fun e w' h => by obtain ⟨h1, k, rfl⟩ := h; exact ⟨h1, below_drewN (Below.refl _ _) k⟩
set_option maxRecDepth 16000 in
set_option maxHeartbeats 8000000 in
theorem FnModulo_walk (w : World) (v : Value) (n : Nat) (hv : RdY w w.heap.size v n) : Calls Try.prog 8 #[v] w fun e w' => e = .returned (.bool true) ∧ Below w.heap.size w w' := by
  obtain ⟨A, c, e0, hc1, hc2, _⟩ := id hv
  subst e0
  unfold maxLen at hc2
  by_cases hbig : 4096 < (n : Int)
  · have hb1 : decide (4096 < (n : Int)) = true := by simpa using hbig
    clear hbig
    go_enter Try.func8, Try.ntmps8
    go_wp2_with (go_at_call 22; refine (big_any _ A n c).mono ?_; rintro e w1 ⟨rfl, B1⟩; rw [hb1])
    go_ret
    exact ⟨rfl, B1⟩
  · have hb1 : decide (4096 < (n : Int)) = false := by simpa using hbig
    have hn : n ≤ 1000000000 := by omega
    clear hbig
    go_enter Try.func8, Try.ntmps8
    go_upto_if 123 with (first | (go_at_call 22; refine (big_any _ A n c).mono ?_; rintro e w1 ⟨rfl, B1⟩; rw [hb1]) | (go_at_call 37; refine (DrawInverseModulo_any _ _ n (hv.next B1) hn).mono ?_; rintro e w2 ⟨m, a, rfl, B2⟩; have KK := B1.trans (B2.mono B1.size); obtain ⟨⟨x, z1⟩, h1⟩ : ∃ r, InverseModuloR m a = r := ⟨_, rfl⟩; have H1 := Lib.hid h1; clear h1; obtain ⟨⟨o, z2⟩, h2⟩ : ∃ r, OrderModuloR m a = r := ⟨_, rfl⟩; have H2 := Lib.hid h2; clear h2; obtain ⟨⟨u, z3⟩, h3⟩ : ∃ r, IsUnitR m a = r := ⟨_, rfl⟩; have H3 := Lib.hid h3; clear h3; obtain ⟨mb, h4⟩ : ∃ r, isModB m = r := ⟨_, rfl⟩; have H4 := Lib.hid h4; clear h4) | (go_at_call 38; refine (iInverseModulo_any m a _).mono ?_; rw [H1.out]; rintro e w3 ⟨rfl, B3⟩; have KK := KK.trans (B3.mono KK.size)) | (go_at_call 39; refine (sInverseModulo_any m a _).mono ?_; rw [H1.out]; rintro e w3 ⟨rfl, B3⟩; have KK := KK.trans (B3.mono KK.size)) | (go_at_call 40; refine (iOrderModulo_any m a _).mono ?_; rw [H2.out]; rintro e w3 ⟨rfl, B3⟩; have KK := KK.trans (B3.mono KK.size)) | (go_at_call 41; refine (sOrderModulo_any m a _).mono ?_; rw [H2.out]; rintro e w3 ⟨rfl, B3⟩; have KK := KK.trans (B3.mono KK.size)) | (go_at_call 42; refine (iIsUnit_any m a _).mono ?_; rw [H3.out]; rintro e w3 ⟨rfl, B3⟩; have KK := KK.trans (B3.mono KK.size)) | (go_at_call 43; refine (sIsUnit_any m a _).mono ?_; rw [H3.out]; rintro e w3 ⟨rfl, B3⟩; have KK := KK.trans (B3.mono KK.size)) | (go_at_call 44; refine (iIsModulus_b m _).mono ?_; rw [H4.out]; rintro e w3 ⟨rfl, B3⟩; have KK := KK.trans (B3.mono KK.size)) | (go_at_call 45; refine (sIsModulus_b m _).mono ?_; rw [H4.out]; rintro e w3 ⟨rfl, B3⟩; have KK := KK.trans (B3.mono KK.size)))
    have K2 := Lib.hid KK
    clear KK B1 B2
    go_cut [17, 18, 19, 20, 21, 22] from 123 to 174 (fun _ _ _ _ _ _ wx => Hid (Below w.heap.size w wx))
    case first =>
      by_cases hz : z1 = 0
      · subst hz
        have il := inv_law H1.out
        have hoe := H2.out
        rw [il.order] at hoe
        simp only [Prod.mk.injEq] at hoe
        obtain ⟨ho, rfl⟩ := hoe
        have hue := H3.out
        rw [il.unit] at hue
        simp only [Prod.mk.injEq] at hue
        obtain ⟨rfl, rfl⟩ := hue
        have I1 := Lib.hid il.mul
        have I2 := Lib.hid il.units
        have I3 := Lib.hid il.pow
        have hp := il.pos
        have hle := il.le
        have hdv := il.div
        obtain ⟨U, hU⟩ : ∃ U, unitsN m m.toNat = U := ⟨_, rfl⟩
        rw [hU] at hdv I2
        rw [ho] at hdv I3 hle
        have ho1 : decide (o < 1) = false := decide_eq_false (by omega)
        have ho0 : ¬ o = 0 := by omega
        have hrm : (U.tmod o != 0) = false := by simpa using hdv
        have KK := K2.out
        clear il hdv hU ho hp H1 H2 H3 K2
        go_wp2_with (first | (go_at_call 46; refine (iMultiplyModulo_any m a x _).mono ?_; rw [I1.out]; rintro e w3 ⟨rfl, B3⟩; have KK := KK.trans (B3.mono KK.size)) | (go_at_call 47; refine (iCountUnits_any m _).mono ?_; rw [I2.out]; rintro e w3 ⟨rfl, B3⟩; have KK := KK.trans (B3.mono KK.size)) | (go_at_call 48; refine (iPowerModulo_any m a o _).mono ?_; rw [I3.out]; rintro e w3 ⟨rfl, B3⟩; have KK := KK.trans (B3.mono KK.size)))
        go_meet
        exact Lib.hid KK
      · have hz1 : (z1 == 0) = false := by simpa using hz
        clear hz
        go_wp2
        go_meet
        exact K2
    case rest =>
      have BX := hcut.out
      clear hcut K2 H1 H2 H3 H4
      go_upto_region 23 with (first | (go_at_call 49; refine (DrawSolveModulo_any _ _ n (hv.next BX) hn).mono ?_; rintro e w2 ⟨k, b, c5, rfl, B2⟩; have KK := BX.trans (B2.mono BX.size); obtain ⟨⟨y, z4⟩, h1⟩ : ∃ r, solveR k b c5 = r := ⟨_, rfl⟩; have H1 := Lib.hid h1; clear h1) | (go_at_call 50; refine (iSolveModulo_any k b c5 _).mono ?_; rw [H1.out]; rintro e w3 ⟨rfl, B3⟩; have KK := KK.trans (B3.mono KK.size)) | (go_at_call 51; refine (sSolveModulo_any k b c5 _).mono ?_; rw [H1.out]; rintro e w3 ⟨rfl, B3⟩; have KK := KK.trans (B3.mono KK.size)))
      have K2 := Lib.hid KK
      clear BX B2 KK
      go_cut [208] from 203 to 208 (fun s wx => s = .bool ((z4 == 0) || (z4 == 4)) ∧ Hid (Below w.heap.size w wx))
      case first =>
        cases hz : (z4 == 0) with
        | true =>
          go_wp2
          go_meet
          exact ⟨by rw [hz]; rfl, K2⟩
        | false =>
          cases hz4 : (z4 == 4) with
          | true =>
            go_wp2
            go_meet
            exact ⟨by rw [hz, hz4]; rfl, K2⟩
          | false =>
            go_wp2
            go_meet
            exact ⟨by rw [hz, hz4]; rfl, K2⟩
      case rest =>
        obtain ⟨rfl, K2⟩ := hcut
        go_upto_if 208 with fail
        obtain ⟨T, hT⟩ : ∃ T, ((z4 == 0) || (z4 == 4)) = T := ⟨_, rfl⟩
        rw [hT]
        have HT := Lib.hid hT
        clear hT
        go_cut [30, 31] from 208 to 242 (fun _ _ wx => Hid (Below w.heap.size w wx))
        case first =>
          cases T with
          | false =>
            go_wp2
            go_meet
            exact K2
          | true =>
            have hz : z4 = 0 ∨ z4 = 4 := by
              have := HT.out
              simpa [Bool.or_eq_true] using this
            have hcd := solve_code H1.out hz
            obtain ⟨hk, hb, hc⟩ := codeR_zero2 hcd
            obtain ⟨l1, l2, l3⟩ := solveR_law hcd
            rw [H1.out] at l1 l2 l3
            simp only at l1 l2 l3
            have hg1 : isIntB b = true := inB_true.2 (by omega)
            have hg2 : isIntB k = true := inB_true.2 (by omega)
            have HG : Hid (gcdR b k = ((Int.gcd b k : Int), 0)) := by unfold Hid gcdR; rw [hg1, hg2]; simp
            have hgp : 1 ≤ (Int.gcd b k : Int) := by
              rcases Nat.eq_zero_or_pos (Int.gcd b k) with h | h
              · rw [Int.gcd_eq_zero_iff] at h; omega
              · omega
            obtain ⟨g, hg⟩ : ∃ g, (Int.gcd b k : Int) = g := ⟨_, rfl⟩
            rw [hg] at l2 hgp HG
            have hgd : decide (g < 1) = false := decide_eq_false (by omega)
            have hg0 : ¬ g = 0 := by omega
            have htm : c5.tmod g = c5 % g := Int.tmod_eq_emod_of_nonneg hc.1
            have KK := K2.out
            clear hcd hg1 hg2 hg K2 HT
            rcases hz with rfl | rfl
            · obtain ⟨e1, e2, e3⟩ := l3 rfl
              have hcg : (c5 % g == 0) = true := by simpa using l2.2 rfl
              have hby := mul_bd' hb.1 (show b ≤ 10000 by omega) e2 (show y ≤ 10000 by omega)
              have v1 : IntKind.i64.wrap (b * y) = b * y := IntWalk.i64_in _ (by omega)
              have v2 : (b * y).tmod k = b * y % k := Int.tmod_eq_emod_of_nonneg hby.1
              have v3 : (b * y % k != c5) = false := by simpa using e1
              have hk0 : ¬ k = 0 := by omega
              clear l1 l2 l3 e1 H1
              go_wp2_with (go_at_call 52; refine (iCommonDivisor_any b k _).mono ?_; rw [HG.out]; rintro e w3 ⟨rfl, B3⟩; have KK := KK.trans (B3.mono KK.size))
              go_meet
              exact Lib.hid KK
            · have hcg : (c5 % g == 0) = false := by
                have : ¬ c5 % g = 0 := fun h => absurd (l2.1 h) (by decide)
                simpa using this
              clear l1 l2 l3 H1
              go_wp2_with (go_at_call 52; refine (iCommonDivisor_any b k _).mono ?_; rw [HG.out]; rintro e w3 ⟨rfl, B3⟩; have KK := KK.trans (B3.mono KK.size))
              go_meet
              exact Lib.hid KK
        case rest =>
          have BY := hcut.out
          clear hcut K2 HT H1
          go_upto_region 33 with (first | (go_at_call 53; refine (DrawRootsModulo_any _ _ n (hv.next BY) hn).mono ?_; rintro e w2 ⟨q, A2, c2, xs, rfl, hx21, ox, B2⟩; have KK := BY.trans (B2.mono BY.size); obtain ⟨⟨rs, z5⟩, h1⟩ : ∃ r, RootsModuloR q xs = r := ⟨_, rfl⟩; have H1 := Lib.hid h1; clear h1) | (go_at_call 54; refine (iRootsModuloR_any _ q _ xs _ ox (by omega)).mono ?_; rw [H1.out]; rintro e w3 ⟨A3, c3, rfl, o3, B3⟩; have KK := KK.trans (B3.mono KK.size)) | (go_at_call 55; refine (sRootsModuloR_any _ q _ xs _ (ox.keep B3 (Nat.le_refl _)) (by omega)).mono ?_; rw [H1.out]; rintro e w4 ⟨A4, c4, rfl, o4, B4⟩; have KK := KK.trans (B4.mono KK.size); have r3 := o3.rd.below B4; have r4 := o4.rd) | (go_at_call 56; refine (DrawRemainderOf_any _ _ n (hv.next KK) hn).mono ?_; rintro e w5 ⟨r, s, rfl, B5⟩; have KK := KK.trans (B5.mono KK.size); have r3 := r3.below B5; have r4 := r4.below B5; obtain ⟨⟨x2, z6⟩, h2⟩ : ∃ t, remR r s = t := ⟨_, rfl⟩; have H2 := Lib.hid h2; clear h2) | (go_at_call 57; refine (iRemainderOf_any r s _).mono ?_; rw [H2.out]; rintro e w6 ⟨rfl, B6⟩; have KK := KK.trans (B6.mono KK.size); have r3 := r3.below B6; have r4 := r4.below B6) | (go_at_call 58; refine (sRemainderOf_any r s _).mono ?_; rw [H2.out]; rintro e w7 ⟨rfl, B7⟩; have KK := KK.trans (B7.mono KK.size); have r3 := r3.below B7; have r4 := r4.below B7))
          clear B2 BY ox o3 o4
          by_cases hz : z6 = 0
          · subst hz
            obtain ⟨hr, hs, hx, hd⟩ := rem_law H2.out
            have v1 : IntKind.i64.wrap (s - x2) = s - x2 := IntWalk.i64_in _ (by omega)
            have v2 : ((s - x2).tmod r == 0) = true := by simpa using hd
            have hr0 : ¬ r = 0 := by omega
            clear hd
            go_wp2_with (go_at_call 59; refine (likeL_any _ _ _ rs rs r3 r4).mono ?_; rintro e w8 ⟨rfl, B8⟩; rw [beq_self_eq_true]; have KK := KK.trans (B8.mono KK.size))
            go_ret
            exact ⟨by simp, KK⟩
          · have hz1 : (z6 != 0) = true := by simpa using hz
            clear hz
            go_wp2_with (go_at_call 59; refine (likeL_any _ _ _ rs rs r3 r4).mono ?_; rintro e w8 ⟨rfl, B8⟩; rw [beq_self_eq_true]; have KK := KK.trans (B8.mono KK.size))
            go_ret
            exact ⟨by simp, KK⟩

end Go.Proofs.Ytmppmnmkhfcoaaa
