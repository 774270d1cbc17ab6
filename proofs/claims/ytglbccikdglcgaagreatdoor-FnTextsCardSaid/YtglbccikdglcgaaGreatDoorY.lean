/- Contracts over this seat's translation. Condition: each contract's own. -/
import Derived.Test.YtglbccikdglcgaaGreatDoorV
import Derived.ProofKit
import Derived.Laws.Bits64b
import Derived.Lib.Mul64
import Derived.OpenShut
import Derived.Below
import Derived.ChangeSame
import Derived.Deep.Modes
import Derived.Lib.SmallJoins
import Derived.ChangeSlices
import Derived.WalkKit
import Derived.WalkSpells
import Derived.WalkLawsBesides
import Derived.Deep.QuietTactic
import Derived.BigQuiet
import Derived.Deep.RegionHeld3
import Derived.Deep.RegionWith
import Derived.Deep.RegionLaw
import Derived.Deep.AppendLies
import Derived.Laws.CopyOwn
import Derived.Deep.DeepCutAuto
import Derived.Deep.OwnRows
import Derived.Deep.LoopGhost
import Derived.Deep.DeepFit
import Derived.Deep.DeepMust
import Derived.Deep.Draws
import Derived.Deep.CutRange
import Derived.Maps.AppendAt
import Derived.Lib.Hide
import Derived.StillTailTactics
import Derived.Laws.MakeOwn
import Derived.Deep.Matrix
import Derived.ChangeAgain
import Derived.SizedLaws
import Derived.Handed
import Derived.Lib.SplitLaws
import Derived.Lib.ParseIntB
import Derived.Lib.ItoaMem
import Derived.Lib.ItoaLen
import Derived.Laws.BytesArg
import Derived.Lib.Join
import Derived.Lib.IndexBytes
set_option linter.unusedVariables false
open Go Go.RowKit
namespace Go.Proofs.YtglbccikdglcgaaGreatDoor
/-! ### What is a plane, and its text, for a table that may be a part of one -/
theorem cntP_le_mul {K : Nat} : ∀ (xss : List (List Int)), (∀ r ∈ xss, r.length ≤ K) → cntP xss ≤ xss.length * K
  | [], _ => by simp [cntP]
  | r :: rs, h => by
    have h1 := h r (by simp)
    have h2 := cntP_le_mul rs fun x hx => h x (by simp [hx])
    simp only [cntP, List.length_cons, Nat.add_mul]
    omega
theorem PlB.len {xss : List (List Int)} (h : PlB xss) : xss.length ≤ 1000000000 := by have := h.2.1; omega
theorem PlB.cnt {xss : List (List Int)} (h : PlB xss) : cntP xss ≤ 4000000000 := by
  have h1 := cntP_le_mul (K := 11) xss fun r hr => by
    obtain ⟨k, hk, e⟩ := List.mem_iff_getElem.1 hr
    have := h.2.2 k
    rw [List.getD_eq_getElem?_getD, List.getElem?_eq_getElem hk] at this
    rw [← e]
    exact this
  have := h.2.1
  omega
set_option maxHeartbeats 2000000 in
theorem l03Is_z (w : World) (m : Int) (v : Value) (xss : List (List Int)) (B0 : Nat) (hv : RdQ w B0 v xss) (hl : xss.length ≤ 1000000000) (hcn : cntP xss ≤ 4000000000) :
    Calls Tryz.prog 44 #[.agg #[.int .i64 m, v]] w fun e w' => e = .returned (.bool (isPl m xss)) ∧ Below w.heap.size w w' := by
  obtain ⟨A, c, rfl, hc1, hc2, hA⟩ := hv
  unfold maxLen at hc2
  have hxl := hl
  cases hm : isModB m
  · have HF : Hid (isPl m xss = false) := by simp [Hid, isPl, hm]
    have HM := Lib.hid hm
    clear hm hA
    go_enter Tryz.func44, Tryz.ntmps44
    go_wp2_with (go_at_call 63; refine (sModulus_any _ _).mono ?_; rintro e w' ⟨rfl, k', rfl⟩; rw [HM.out])
    go_ret
    exact ⟨by rw [HF.out]; rfl, by (repeat (first | assumption | exact Below.refl _ _ | refine Below.alloc ?_ (by first | omega | (simp; done) | (simp; omega)) _ | refine Below.setCell ?_ (by first | omega | (simp; done) | (simp; omega)) _ | refine below_drewN ?_ _))⟩
  · cases hn : inB xss.length 2 11
    · have HF : Hid (isPl m xss = false) := by simp [Hid, isPl, hn]
      have HM := Lib.hid hm
      have hn2 := inB_false.1 hn
      clear hm hn hA
      by_cases h2 : (xss.length : Int) < 2
      · go_enter Tryz.func44, Tryz.ntmps44
        go_wp2_with (go_at_call 63; refine (sModulus_any _ _).mono ?_; rintro e w' ⟨rfl, k', rfl⟩; rw [HM.out])
        go_ret
        exact ⟨by rw [HF.out]; rfl, by (repeat (first | assumption | exact Below.refl _ _ | refine Below.alloc ?_ (by first | omega | (simp; done) | (simp; omega)) _ | refine Below.setCell ?_ (by first | omega | (simp; done) | (simp; omega)) _ | refine below_drewN ?_ _))⟩
      · have h3 : (11 : Int) < (xss.length : Int) := by omega
        go_enter Tryz.func44, Tryz.ntmps44
        go_wp2_with (go_at_call 63; refine (sModulus_any _ _).mono ?_; rintro e w' ⟨rfl, k', rfl⟩; rw [HM.out])
        go_ret
        exact ⟨by rw [HF.out]; rfl, by (repeat (first | assumption | exact Below.refl _ _ | refine Below.alloc ?_ (by first | omega | (simp; done) | (simp; omega)) _ | refine Below.setCell ?_ (by first | omega | (simp; done) | (simp; omega)) _ | refine below_drewN ?_ _))⟩
    · have HM := Lib.hid hm
      have HN := Lib.hid hn
      have hn2 := inB_true.1 hn
      have h2 : ¬ (xss.length : Int) < 2 := by omega
      have h3 : ¬ (11 : Int) < (xss.length : Int) := by omega
      have HA := Lib.hid hA
      clear hm hn hA
      go_enter Tryz.func44, Tryz.ntmps44
      go_wp2_with (go_at_call 63; refine (sModulus_any _ _).mono ?_; rintro e w' ⟨rfl, k', rfl⟩; rw [HM.out])
      go_loopw [4] (fun i wr => ∃ k : Nat, k ≤ xss.length ∧ i = .int .i64 k ∧ Hid (∀ i, i < k → (xss.getD i []).length = xss.length - i ∧ numsB m (xss.getD i []) = true) ∧ Hid (Bf wr w.heap.size (.int .i64 m) (.slice A xss.length c)) ∧ Hid (Below w.heap.size w wr)) (fun i _ => xss.length - (intOf i).toNat)
      case atStart => exact ⟨0, Nat.zero_le _, rfl, (fun j hj => by omega), (Bf.alloc1 w _ _ _).drewN _, by unfold Hid; (repeat (first | assumption | exact Below.refl _ _ | refine Below.alloc ?_ (by first | omega | (simp; done) | (simp; omega)) _ | refine Below.setCell ?_ (by first | omega | (simp; done) | (simp; omega)) _ | refine below_drewN ?_ _))⟩
      case round =>
        obtain ⟨k, hk, rfl, hp, HP, HB⟩ := hrel
        have p1 := HP.out.1.2.1
        have p2 := HP.out.1.2.2
        by_cases hlt : k < xss.length
        · obtain ⟨g, off, Ar, cr, rfl, -, hg, hcell, hown⟩ := HA.out k hlt
          have hc0 := (HB.out.cell (p := ⟨g, off + k, none⟩) hg).trans hcell
          have HO := Lib.hid (hown.keep HB.out (Nat.le_refl _))
          obtain ⟨x, hx⟩ : ∃ x, x = xss.getD k [] := ⟨_, rfl⟩
          rw [← hx] at hc0 HO
          have hxlen : x.length ≤ 4000000000 := by have := len_le_cnt xss k hlt; rw [hx]; omega
          have hi0 : (0 : Int) ≤ (k : Int) := by omega
          have hi1 : (k : Int) < (xss.length : Int) := by omega
          have v1 : IntKind.i64.wrap ((xss.length : Int) - (k : Int)) = (xss.length : Int) - (k : Int) := IntWalk.i64_in _ (by omega)
          have HX := Lib.hid hx
          clear hcell hown hx
          by_cases hxe : x.length = xss.length - k
          · have hb1 : ((x.length : Int) != (xss.length : Int) - (k : Int)) = false := by simp; omega
            have HXE := Lib.hid hxe
            clear hxe
            cases hnn : numsB m x
            · have HF : Hid (isPl m xss = false) := isPl_not hlt (.inr (by rw [← HX.out]; exact hnn))
              have HNN := Lib.hid hnn
              clear hnn
              go_wp2
              go_quiet ((go_at_call 65; exact Calls.quiet_of (l01Numbers_q m _ _ x B0 HM.out (OwnI.drewN HO.out _) false HNN)))
              go_wp2
              go_ret
              exact ⟨by rw [HF.out]; rfl, below_drewN HB.out _⟩
            · have HNN := Lib.hid hnn
              clear hnn
              go_wp2
              go_quiet ((go_at_call 65; exact Calls.quiet_of (l01Numbers_q m _ _ x B0 HM.out (OwnI.drewN HO.out _) true HNN)))
              go_wp2
              go_roundw
              case rel => exact ⟨k + 1, by omega, by go_num, isPl_take_succ m xss k hlt hp.out (by rw [← HX.out]; exact HXE.out) (by rw [← HX.out]; exact HNN.out), HP.out.drewN _, below_drewN HB.out _⟩
              case measure => simp [intOf]; omega
          · have hb1 : ((x.length : Int) != (xss.length : Int) - (k : Int)) = true := by simp; omega
            have HF : Hid (isPl m xss = false) := isPl_not hlt (.inl (by rw [← HX.out]; exact hxe))
            clear hxe
            go_wp2
            go_quiet (fail)
            go_wp2
            go_ret
            exact ⟨by rw [HF.out]; rfl, below_drewN HB.out _⟩
        · obtain rfl : k = xss.length := by omega
          have HF : Hid (isPl m xss = true) := isPl_of m xss HM.out HN.out hp.out
          go_wp2
          go_ret
          exact ⟨by rw [HF.out]; rfl, HB.out⟩
set_option maxHeartbeats 2000000 in
theorem iIsPlane_z (w : World) (m : Int) (v : Value) (xss : List (List Int)) (B0 : Nat) (hv : RdQ w B0 v xss) (hl : xss.length ≤ 1000000000) (hcn : cntP xss ≤ 4000000000) :
    Calls Tryz.prog 15 #[.agg #[.int .i64 m, v]] w fun e w' => e = .returned (.bool (isPl m xss)) ∧ Below w.heap.size w w' := by
  obtain ⟨A, c, rfl, hc1, hc2, hA⟩ := hv
  unfold maxLen at hc2
  have hxl := hl
  cases hm : isModB m
  · have HF : Hid (isPl m xss = false) := by simp [Hid, isPl, hm]
    have HM := Lib.hid hm
    clear hm hA
    go_enter Tryz.func15, Tryz.ntmps15
    go_wp2_with (go_at_call 46; refine (iIsModulus_any _ _).mono ?_; rintro e w' ⟨rfl, k', rfl⟩; rw [HM.out])
    go_ret
    exact ⟨by rw [HF.out]; rfl, by (repeat (first | assumption | exact Below.refl _ _ | refine Below.alloc ?_ (by first | omega | (simp; done) | (simp; omega)) _ | refine Below.setCell ?_ (by first | omega | (simp; done) | (simp; omega)) _ | refine below_drewN ?_ _))⟩
  · cases hn : inB xss.length 2 11
    · have HF : Hid (isPl m xss = false) := by simp [Hid, isPl, hn]
      have HN : Hid (inB ((xss.length : Int) - 1) 1 10 = false) := by
        unfold Hid; rw [inB_false] at hn ⊢; omega
      have HM := Lib.hid hm
      clear hm hn hA
      go_enter Tryz.func15, Tryz.ntmps15
      go_wp2_with (go_at_call 46; refine (iIsModulus_any _ _).mono ?_; rintro e w' ⟨rfl, k', rfl⟩; rw [HM.out])
      refine (pDegree_any m A xss.length c _ (by omega)).mono ?_
      rintro e w1 ⟨rfl, hb1⟩
      go_wp2_with (go_at_call 47; refine (in_any _ _ _ _).mono ?_; rintro e w' ⟨rfl, k'', rfl⟩; rw [HN.out])
      go_ret
      exact ⟨by rw [HF.out]; rfl, below_drewN (Below.trans (by (repeat (first | assumption | exact Below.refl _ _ | refine Below.alloc ?_ (by first | omega | (simp; done) | (simp; omega)) _ | refine Below.setCell ?_ (by first | omega | (simp; done) | (simp; omega)) _ | refine below_drewN ?_ _))) (hb1.mono (by simp))) _⟩
    · have HN2 := Lib.hid hn
      have HN : Hid (inB ((xss.length : Int) - 1) 1 10 = true) := by
        unfold Hid; rw [inB_true] at hn ⊢; omega
      have HM := Lib.hid hm
      have HA := Lib.hid hA
      clear hm hn hA
      go_enter Tryz.func15, Tryz.ntmps15
      go_wp2_with (go_at_call 46; refine (iIsModulus_any _ _).mono ?_; rintro e w' ⟨rfl, k', rfl⟩; rw [HM.out])
      refine (pDegree_any m A xss.length c _ (by omega)).mono ?_
      rintro e w1 ⟨rfl, hb1⟩
      have P1 : Bf w1 w.heap.size (.int .i64 m) (.slice A xss.length c) := ((Bf.alloc1 w _ _ 36).drewN _).keep hb1
      have K1 : Below w.heap.size w w1 := Below.trans (by (repeat (first | assumption | exact Below.refl _ _ | refine Below.alloc ?_ (by first | omega | (simp; done) | (simp; omega)) _ | refine Below.setCell ?_ (by first | omega | (simp; done) | (simp; omega)) _ | refine below_drewN ?_ _))) (hb1.mono (by simp))
      have p1a := P1.1.2.1
      have p1b := P1.1.2.2
      go_wp2_with (go_at_call 47; refine (in_any _ _ _ _).mono ?_; rintro e w' ⟨rfl, k'', rfl⟩; rw [HN.out])
      clear p1a p1b
      go_loopw [18] (fun i wr => ∃ k : Nat, k ≤ xss.length ∧ i = .int .i64 k ∧ Hid (∀ i, i < k → (xss.getD i []).length = xss.length - i ∧ numsB m (xss.getD i []) = true) ∧ Hid (Bf wr w.heap.size (.int .i64 m) (.slice A xss.length c)) ∧ Hid (Below w.heap.size w wr)) (fun i _ => xss.length - (intOf i).toNat)
      case atStart => exact ⟨0, Nat.zero_le _, rfl, (fun j hj => by omega), P1.drewN _, by unfold Hid; exact below_drewN K1 _⟩
      case round =>
        clear P1 K1
        obtain ⟨k, hk, rfl, hp, HP, HB⟩ := hrel
        have p1 := HP.out.1.2.1
        have p2 := HP.out.1.2.2
        by_cases hlt : k < xss.length
        · obtain ⟨g, off, Ar, cr, rfl, -, hg, hcell, hown⟩ := HA.out k hlt
          have hc0 := (HB.out.cell (p := ⟨g, off + k, none⟩) hg).trans hcell
          have HO := Lib.hid (hown.keep HB.out (Nat.le_refl _))
          obtain ⟨x, hx⟩ : ∃ x, x = xss.getD k [] := ⟨_, rfl⟩
          rw [← hx] at hc0 HO
          have hxlen : x.length ≤ 4000000000 := by have := len_le_cnt xss k hlt; rw [hx]; omega
          have hi0 : (0 : Int) ≤ (k : Int) := by omega
          have hi1 : (k : Int) < (xss.length : Int) := by omega
          have HX := Lib.hid hx
          clear hcell hown hx
          by_cases hxe : x.length = xss.length - k
          · have hb1 : ((x.length : Int) != (xss.length : Int) - (k : Int)) = false := by simp; omega
            have HXE := Lib.hid hxe
            have HAL : Hid ((x.all fun a => isNumB a m) = numsB m x) := rfl
            clear hxe
            cases hnn : numsB m x
            · have HF : Hid (isPl m xss = false) := isPl_not hlt (.inr (by rw [← HX.out]; exact hnn))
              have HNN := Lib.hid hnn
              clear hnn
              go_wp2_with fail
              refine (all_any _ _ x B0 HO.out _ _ _ (IsPlane1_pred _ w.heap.size m HM.out p1 HP.out.1.1)).mono ?_
              rintro e w2 ⟨rfl, hb2⟩
              rw [HAL.out, HNN.out]
              go_wp2
              go_ret
              exact ⟨by rw [HF.out]; rfl, HB.out.trans (hb2.mono HB.out.size)⟩
            · have HNN := Lib.hid hnn
              clear hnn
              go_wp2_with fail
              refine (all_any _ _ x B0 HO.out _ _ _ (IsPlane1_pred _ w.heap.size m HM.out p1 HP.out.1.1)).mono ?_
              rintro e w2 ⟨rfl, hb2⟩
              rw [HAL.out, HNN.out]
              go_wp2
              go_roundw
              case rel => exact ⟨k + 1, by omega, by go_num, isPl_take_succ m xss k hlt hp.out (by rw [← HX.out]; exact HXE.out) (by rw [← HX.out]; exact HNN.out), HP.out.keep hb2, HB.out.trans (hb2.mono HB.out.size)⟩
              case measure => simp [intOf]; omega
          · have hb1 : ((x.length : Int) != (xss.length : Int) - (k : Int)) = true := by simp; omega
            have HF : Hid (isPl m xss = false) := isPl_not hlt (.inl (by rw [← HX.out]; exact hxe))
            clear hxe
            go_wp2
            go_ret
            exact ⟨by rw [HF.out]; rfl, HB.out⟩
        · obtain rfl : k = xss.length := by omega
          have HF : Hid (isPl m xss = true) := isPl_of m xss HM.out HN2.out hp.out
          go_wp2
          go_ret
          exact ⟨by rw [HF.out]; rfl, HB.out⟩
set_option maxRecDepth 4000 in
set_option maxHeartbeats 1000000 in
theorem sPlaneTextR_z (w : World) (m : Int) (v : Value) (xss : List (List Int)) (B0 : Nat) (hv : RdQ w B0 v xss) (hp : PlB xss) :
    Calls Tryz.prog 14 #[.agg #[.int .i64 m, v]] w (RetTI w (PlaneTextR m xss)) := by
  obtain ⟨A, c, e0⟩ := hv.form
  subst e0
  cases hS : isPl m xss
  · have HS := Lib.hid hS
    have HR : Hid (PlaneTextR m xss = ([], 1)) := by unfold Hid PlaneTextR; rw [hS]; rfl
    clear hS
    go_enter Tryz.func14, Tryz.ntmps14
    go_wp2_with (go_at_call 44; refine (l03Is_z _ _ _ xss B0 (hv.keep (below_alloc1 w _)) hp.len hp.cnt).mono ?_; rintro e w1 ⟨rfl, hb1⟩; rw [HS.out])
    exact bodyPost_ret (v := .tuple #[.string ⟨#[]⟩, .int .i64 1]) (by simp [results, Tryz.results14, go_sem]) rfl (by rw [HR.out]; exact ⟨rfl, (below_alloc1 w _).trans (hb1.mono (by simp))⟩)
  · obtain ⟨hm, hn, h2, h11⟩ := isPl_nums hS
    have HS := Lib.hid hS
    have HR : Hid (PlaneTextR m xss = (plT m xss, 0)) := by unfold Hid PlaneTextR; rw [hS]; rfl
    have HTX : Hid (∀ W, Below w.heap.size w W → Calls Tryz.prog 45 #[.agg #[.int .i64 m, .slice A xss.length c]] W fun e w' => e = .returned (.string ⟨(plT m xss).toArray⟩) ∧ Below W.heap.size W w') :=
      fun W hW => l03Text_any W m _ xss (hv.rd.below hW) hm hn h2 (by omega)
    obtain ⟨S, hSS⟩ : ∃ S : ByteArray, (⟨(plT m xss).toArray⟩ : ByteArray) = S := ⟨_, rfl⟩
    rw [hSS] at HTX
    have HSS := Lib.hid hSS
    clear hS hm hn h2 h11 hSS
    go_enter Tryz.func14, Tryz.ntmps14
    go_wp2_with (first | (go_at_call 44; refine (l03Is_z _ _ _ xss B0 (hv.keep (below_alloc1 w _)) hp.len hp.cnt).mono ?_; rintro e w1 ⟨rfl, hb1⟩; rw [HS.out]; obtain ⟨P1, K1⟩ := Bf.first1 hb1; have p1a := P1.1.2.1; have p1b := P1.1.2.2; have z1 := P1.1.1) | (go_at_call 45; refine (HTX.out _ K1).mono ?_; rintro e w2 ⟨rfl, hb2⟩))
    exact bodyPost_ret (v := .tuple #[.string S, .int .i64 0]) (by simp [results, Tryz.results14, go_sem]) rfl (by rw [HR.out]; exact ⟨by rw [← HSS.out], K1.trans (hb2.mono K1.size)⟩)
set_option maxRecDepth 4000 in
set_option maxHeartbeats 2000000 in
theorem iPlaneTextR_z (w : World) (m : Int) (v : Value) (xss : List (List Int)) (B0 : Nat) (hv : RdQ w B0 v xss) (hp : PlB xss) (hT : Tab w) :
    Calls Tryz.prog 13 #[.agg #[.int .i64 m, v]] w (RetTI w (PlaneTextR m xss)) := by
  cases hS : isPl m xss
  · obtain ⟨A, c, e0⟩ := hv.form
    subst e0
    have HS := Lib.hid hS
    have HR : Hid (PlaneTextR m xss = ([], 1)) := by unfold Hid PlaneTextR; rw [hS]; rfl
    clear hS
    go_enter Tryz.func13, Tryz.ntmps13
    go_wp2_with (go_at_call 15; refine (iIsPlane_z _ _ _ xss B0 (hv.keep (below_alloc1 w _)) hp.len hp.cnt).mono ?_; rintro e w1 ⟨rfl, hb1⟩; rw [HS.out])
    exact bodyPost_ret (v := .tuple #[.string ⟨#[]⟩, .int .i64 1]) (by simp [results, Tryz.results13, go_sem]) rfl (by rw [HR.out]; exact ⟨rfl, (below_alloc1 w _).trans (hb1.mono (by simp))⟩)
  · obtain ⟨hm, hn, h2, h11⟩ := isPl_nums hS
    have hlen2 := (isPl_true hS).2.1
    have HV := Lib.hid hv
    obtain ⟨A, c, e0, hc1, hc2, hA⟩ := hv.rd
    subst e0
    unfold maxLen at hc2
    have HN := Lib.hid hn
    have H2 := Lib.hid h2
    have HS := Lib.hid hS
    have HT := Lib.hid hT
    have HA := Lib.hid hA
    have HR : Hid (PlaneTextR m xss = (plT m xss, 0)) := by unfold Hid PlaneTextR; rw [hS]; rfl
    have HLN := Lib.hid (plT_len_take (m := m) hm hn h2 (by omega) xss.length)
    rw [List.take_length] at HLN
    obtain ⟨X, HX⟩ : ∃ X : ByteArray, Hid ((⟨(Lib.itoa m).toArray⟩ : ByteArray) = X) := ⟨_, rfl⟩
    have hxs : X.size ≤ 20 := by rw [← HX.out, size_mk]; exact itoa_len hm.1 hm.2
    have HDC : Hid (∀ W, Below w.heap.size w W → Calls Tryz.prog 27 #[.int .i64 m] W fun e w' => e = .returned (.string X) ∧ Below W.heap.size W w') := fun W hW => by
      have := decimal_any m (by omega) (by omega) W (HT.out.keep hW)
      rwa [HX.out] at this
    clear hS hn h2 hT hv hA
    go_enter Tryz.func13, Tryz.ntmps13
    go_wp2_with (go_at_call 15; refine (iIsPlane_z _ _ _ xss B0 (HV.out.keep (below_alloc1 w _)) hp.len hp.cnt).mono ?_; rintro e w1 ⟨rfl, hb1⟩; rw [HS.out]; obtain ⟨P1, K1⟩ := Bf.first1 hb1; have p1a := P1.1.2.1; have p1b := P1.1.2.2; have z1 := P1.1.1)
    go_loopw [4, 6, 14] (fun q _ i wr => ∃ (k : Nat) (A' : Option Addr) (cc : Nat) (ts : List ByteArray), k ≤ xss.length ∧ i = .int .i64 k ∧ q = .slice A' ts.length cc ∧ Hid (ts.length = k) ∧ Hid (OwnT wr (w.heap.size + 1) (.slice A' ts.length cc) ts) ∧ Hid (ts.map (fun t : ByteArray => t.data.toList) = (xss.take k).map listT) ∧ Hid (Bf wr w.heap.size (.int .i64 m) (.slice A xss.length c)) ∧ Hid (Below w.heap.size w wr)) (fun _ _ i _ => xss.length - (intOf i).toNat)
    case atStart => exact ⟨0, _, _, [], Nat.zero_le _, rfl, rfl, rfl, OwnT.lit0 w1 (by omega), by unfold Hid; simp, P1.al _, K1.alloc K1.size _⟩
    case round =>
      clear P1 K1 p1a p1b hb1
      obtain ⟨k, A', cc, ts, hk, rfl, rfl, HTL, HO, HTS, HB, hb⟩ := hrel
      have hz := hb.out.size
      have zB := HB.out.1.1
      have b1 := HB.out.1.2.1
      have b2 := HB.out.1.2.2
      have htl : ts.length ≤ 1000000 := by rw [HTL.out]; omega
      by_cases hlt : k < xss.length
      · obtain ⟨b, off, rowv, rfl, hb1, hcell, hrow⟩ := HA.out k hlt
        have hcell' : wr.cell? ⟨b, off + k, none⟩ = some rowv := (hb.out.cell (p := ⟨b, off + k, none⟩) hb1).trans hcell
        clear hcell
        have HM := Lib.hid (mapListT_step hlt)
        have hnk := HN.out k
        have h2k := H2.out k
        obtain ⟨x, hx⟩ : ∃ x, x = xss.getD k [] := ⟨_, rfl⟩
        rw [← hx] at hrow HM hnk h2k
        clear hx
        obtain ⟨Ar, cr, er⟩ := hrow.form
        subst er
        obtain ⟨X2, HX2⟩ : ∃ X2 : ByteArray, Hid ((⟨(listT x).toArray⟩ : ByteArray) = X2) := ⟨_, rfl⟩
        have HLI : Hid (∀ W, Below w.heap.size w W → Calls Tryz.prog 28 #[.slice Ar x.length cr] W fun e w' => e = .returned (.string X2) ∧ Below W.heap.size W w') := fun W hW => by
          have := numbersText_any W _ x (hrow.below hW) (by omega) hnk (HT.out.keep hW)
          rwa [HX2.out] at this
        clear hrow hnk
        have hk0 : (0 : Int) ≤ (k : Int) := by omega
        have hk1 : (k : Int) < (xss.length : Int) := by omega
        go_wp2_with (first | (go_at_call 28; refine (HLI.out _ hb.out).mono ?_; rintro e w2 ⟨rfl, hb2⟩; have HB2 := Lib.hid hb2; have z2 := hb2.size; clear hb2) | (at_builtin; refine appendT _ _ (w.heap.size + 1) (.slice A' ts.length cc) ts X2 w2.heap.size (by rfl) (by rfl) (by rfl) (by rfl) ((HO.out.keep HB2.out (Nat.le_refl _)).alloc _) (heap_own _ _) (by omega) (by simp; omega) ?_; intro v' w3 ho3 hg3; obtain ⟨A3, c3, e3⟩ := ho3.form; subst e3))
        go_roundw
        case rel =>
          refine ⟨k + 1, A3, c3, ts ++ [X2], by omega, by go_num, by simp, by unfold Hid; rw [List.length_append, HTL.out]; rfl, ho3, ?_, ?_, ?_⟩
          · unfold Hid
            rw [HM.out, List.map_append, HTS.out, ← HX2.out]
            simp
          · refine ((HB.out.keep HB2.out).al _).grown hg3 fun e => ?_
            have := (HO.out.block_ge e.symm).1
            omega
          · exact ((HO.out.keep HB2.out (Nat.le_refl _)).alloc _).grown_below ((hb.out.trans (HB2.out.mono hz)).alloc (by omega) _) hg3 (by omega) (by simp; omega)
        case measure => simp [intOf]; omega
      · obtain rfl : k = xss.length := by omega
        have HTS2 : Hid (ts.map (fun t : ByteArray => t.data.toList) = xss.map listT) := by have := HTS.out; rwa [List.take_length] at this
        obtain ⟨g, rfl, hg1, hg2, hn, hcc, hcc'⟩ := HO.out.some_ (by rw [HTL.out]; omega)
        have HJL : Hid ((Lib.join (ts.map (fun t : ByteArray => t.data.toList)) [47]).length ≤ 2200000) := by
          have := HLN.out
          unfold Hid
          rw [HTS2.out]
          simp only [List.length_append, List.length_cons] at this
          omega
        obtain ⟨Y, HY⟩ : ∃ Y : ByteArray, Hid ((⟨(Lib.join (ts.map (fun t : ByteArray => t.data.toList)) [47]).toArray⟩ : ByteArray) = Y) := ⟨_, rfl⟩
        have hys : Y.size ≤ 2200000 := by rw [← HY.out, size_mk]; exact HJL.out
        have HR2 : Hid (X ++ ⟨#[58]⟩ ++ Y = ⟨(plT m xss).toArray⟩) := by
          unfold Hid plT
          rw [← HX.out, ← HY.out, HTS2.out, show (⟨#[58]⟩ : ByteArray) = ⟨([58] : List UInt8).toArray⟩ from rfl, app_mk, app_mk]
          simp
        have HJC : Hid (∀ W, Below wr.heap.size wr W → Calls Tryz.prog 43 #[.slice (some ⟨g, 0, none⟩) ts.length cc, .string ⟨#[47]⟩] W fun e w' => e = .returned (.string Y) ∧ Below W.heap.size W w') := by
          intro W hW
          have HO4 := HO.out.keep hW (Nat.le_refl _)
          have := Tryz.strings_Join g 0 cc ts ⟨#[47]⟩ W (fun j x hj => by
            have hlt2 : j < ts.length := (List.getElem?_eq_some_iff.1 hj).1
            have h5 := (HO4.cell hlt2).1
            rw [List.getD_eq_getElem?_getD, hj] at h5
            rw [Nat.zero_add]; exact h5) (Nat.lt_of_lt_of_le hg2 hW.size) (by omega) hcc (by rw [show (⟨#[47]⟩ : ByteArray).data.toList = [47] from rfl]; have := HJL.out; omega)
          rwa [show (⟨#[47]⟩ : ByteArray).data.toList = [47] from rfl, HY.out] at this
        go_wp2_with (first | (go_at_call 27; refine (HDC.out _ hb.out).mono ?_; rintro e w2 ⟨rfl, hb2⟩; have HB2 := Lib.hid hb2; have z2 := hb2.size; clear hb2) | (go_at_call 43; refine (HJC.out _ HB2.out).mono ?_; rintro e w3 ⟨rfl, hb3⟩))
        refine bodyPost_ret (v := .tuple #[.string (X ++ ⟨#[58]⟩ ++ Y), .int .i64 0]) (by simp [results, Tryz.results13, go_sem]) rfl (by rw [HR.out]; exact ⟨by rw [HR2.out], (hb.out.trans (HB2.out.mono hz)).trans (hb3.mono (by omega))⟩)


/-! ### Comparisons of series and planes (laws) -/
set_option maxHeartbeats 1000000 in
theorem series5_any (w : World) (m m2 : Int) (v u : Value) (xs ys : List Int) (hv : RdI w v xs) (hu : RdI w u ys) : Calls Tryz.prog 9 #[.agg #[.int .i64 m, v], .agg #[.int .i64 m2, u]] w fun e w' => e = .returned (.bool (m == m2 && xs == ys)) ∧ Below w.heap.size w w' := by
  obtain ⟨A, c, e0⟩ := hv.form
  obtain ⟨A2, c2, e2⟩ := hu.form
  subst e0 e2
  have HV := Lib.hid hv
  have HU := Lib.hid hu
  obtain ⟨r, hr⟩ : ∃ r, (xs == ys) = r := ⟨_, rfl⟩
  have HR := Lib.hid hr
  clear hv hu hr
  cases hm : (m == m2)
  · go_enter Tryz.func9, Tryz.ntmps9
    go_wp2
    go_ret
    exact ⟨rfl, by (repeat (first | assumption | exact Below.refl _ _ | refine Below.alloc ?_ (by first | omega | (simp; done) | (simp; omega)) _ | refine Below.setCell ?_ (by first | omega | (simp; done) | (simp; omega)) _ | refine below_drewN ?_ _))⟩
  · have hk : ∀ W, Below w.heap.size w W → Calls Tryz.prog 34 #[.slice A xs.length c, .slice A2 ys.length c2] W fun e w' => e = .returned (.bool r) ∧ Below W.heap.size W w' := fun W hW => by
      have := likeL_any W _ _ xs ys (HV.out.below hW) (HU.out.below hW)
      rwa [HR.out] at this
    have HK := Lib.hid hk
    clear hk
    go_enter Tryz.func9, Tryz.ntmps9
    go_wp2_with (go_at_call 34; refine (HK.out _ (by (repeat (first | assumption | exact Below.refl _ _ | refine Below.alloc ?_ (by first | omega | (simp; done) | (simp; omega)) _ | refine Below.setCell ?_ (by first | omega | (simp; done) | (simp; omega)) _ | refine below_drewN ?_ _)))).mono ?_; rintro e w1 ⟨rfl, hb1⟩)
    go_ret
    exact ⟨by rw [HR.out]; rfl, Below.trans (by (repeat (first | assumption | exact Below.refl _ _ | refine Below.alloc ?_ (by first | omega | (simp; done) | (simp; omega)) _ | refine Below.setCell ?_ (by first | omega | (simp; done) | (simp; omega)) _ | refine below_drewN ?_ _))) (hb1.mono (by first | exact Nat.le_refl _ | (simp; done) | (simp; omega)))⟩
set_option maxHeartbeats 1000000 in
theorem plane5_any (w : World) (m m2 : Int) (v u : Value) (xs ys : List (List Int)) (hv : RdP w v xs) (hu : RdP w u ys) : Calls Tryz.prog 18 #[.agg #[.int .i64 m, v], .agg #[.int .i64 m2, u]] w fun e w' => e = .returned (.bool (m == m2 && xs == ys)) ∧ Below w.heap.size w w' := by
  obtain ⟨A, c, e0⟩ := hv.form
  obtain ⟨A2, c2, e2⟩ := hu.form
  subst e0 e2
  have HV := Lib.hid hv
  have HU := Lib.hid hu
  obtain ⟨r, hr⟩ : ∃ r, (xs == ys) = r := ⟨_, rfl⟩
  have HR := Lib.hid hr
  clear hv hu hr
  cases hm : (m == m2)
  · go_enter Tryz.func18, Tryz.ntmps18
    go_wp2
    go_ret
    exact ⟨rfl, by (repeat (first | assumption | exact Below.refl _ _ | refine Below.alloc ?_ (by first | omega | (simp; done) | (simp; omega)) _ | refine Below.setCell ?_ (by first | omega | (simp; done) | (simp; omega)) _ | refine below_drewN ?_ _))⟩
  · have hk : ∀ W, Below w.heap.size w W → Calls Tryz.prog 53 #[.slice A xs.length c, .slice A2 ys.length c2] W fun e w' => e = .returned (.bool r) ∧ Below W.heap.size W w' := fun W hW => by
      have := rows5_any W _ _ xs ys (HV.out.below hW) (HU.out.below hW)
      rwa [HR.out] at this
    have HK := Lib.hid hk
    clear hk
    go_enter Tryz.func18, Tryz.ntmps18
    go_wp2_with (go_at_call 53; refine (HK.out _ (by (repeat (first | assumption | exact Below.refl _ _ | refine Below.alloc ?_ (by first | omega | (simp; done) | (simp; omega)) _ | refine Below.setCell ?_ (by first | omega | (simp; done) | (simp; omega)) _ | refine below_drewN ?_ _)))).mono ?_; rintro e w1 ⟨rfl, hb1⟩)
    go_ret
    exact ⟨by rw [HR.out]; rfl, Below.trans (by (repeat (first | assumption | exact Below.refl _ _ | refine Below.alloc ?_ (by first | omega | (simp; done) | (simp; omega)) _ | refine Below.setCell ?_ (by first | omega | (simp; done) | (simp; omega)) _ | refine below_drewN ?_ _))) (hb1.mono (by first | exact Nat.le_refl _ | (simp; done) | (simp; omega)))⟩
theorem big_any (w : World) (A : Option Addr) (n c : Nat) (_hn : (n : Int) ≤ 9223372036854775807) : Calls Tryz.prog 4 #[.slice A n c] w fun e w' => e = .returned (.bool (decide (4096 < n))) ∧ ∃ k, w' = w.drewN k := by
  go_enter Tryz.func4, Tryz.ntmps4
  go_wp2
  go_ret
  exact ⟨by simp; omega, 0, rfl⟩

end Go.Proofs.YtglbccikdglcgaaGreatDoor
