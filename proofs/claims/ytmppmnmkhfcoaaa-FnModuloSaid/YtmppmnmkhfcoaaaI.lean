/- Contracts over this seat's translation. Condition: each contract's own. -/
import Derived.Test.YtmppmnmkhfcoaaaO
import Derived.ProofKit
import Derived.Laws.Bits64b
import Derived.Lib.Mul64
import Derived.OpenShut
import Derived.Below
import Derived.ChangeSame
import Derived.Deep.Modes
import Derived.Lib.SmallJoins
import Derived.ChangeSlices
import Derived.WalkKit
import Derived.WalkSpells
import Derived.WalkLawsBesides
import Derived.Deep.QuietTactic
import Derived.BigQuiet
import Derived.Deep.RegionHeld3
import Derived.Deep.RegionWith
import Derived.Deep.RegionLaw
import Derived.Deep.AppendLies
import Derived.Laws.CopyOwn
import Derived.Deep.DeepCutAuto
import Derived.Deep.OwnRows
import Derived.Deep.LoopGhost
import Derived.Deep.DeepFit
import Derived.Deep.DeepMust
import Derived.Deep.Draws
import Derived.Deep.CutRange
import Derived.Maps.AppendAt
import Derived.Lib.Hide
import Derived.StillTailTactics
import Derived.Laws.MakeOwn
import Derived.Deep.Matrix
set_option linter.unusedVariables false
open Go Go.RowKit
namespace Go.Proofs.Ytmppmnmkhfcoaaa
/-! ### The law of the integers: its walk -/
theorem OwnP.pair {w : World} {lo hi : Nat} {A : Option Addr} {c : Nat} {L : List (List Int)} (h : OwnP w lo hi (.slice A L.length c) L) {k : Nat} (hk : k < L.length) {q e : Int} (hr : L.getD k [] = [q, e]) :
    ∃ g gr cr, A = some ⟨g, 0, none⟩ ∧ g < w.heap.size ∧ gr < w.heap.size ∧ w.cell? ⟨g, k, none⟩ = some (.slice (some ⟨gr, 0, none⟩) 2 cr) ∧ w.cell? ⟨gr, 0, none⟩ = some (.int .i64 q) ∧ w.cell? ⟨gr, 1, none⟩ = some (.int .i64 e) ∧ L.length ≤ c := by
  obtain ⟨A1, c1, e1, h1, h2⟩ := h.form
  obtain ⟨g, c2, A', c', e2, -, -, h5, h6, -, h7, -⟩ := h.row hk
  rw [hr] at h6 h7
  obtain ⟨A3, c3, e3, -, -, hA⟩ := h7.open_
  obtain ⟨b0, f0, -, hb0, hc0, -⟩ := hA 0 (by simp)
  obtain ⟨b1, f1, -, hb1, hc1, -⟩ := hA 1 (by simp)
  simp only [Value.slice.injEq] at e1 e2 e3
  obtain ⟨rfl, -, rfl⟩ := e2
  obtain ⟨rfl, -, rfl⟩ := e3
  rw [f0] at f1 h6
  simp only [Option.some.injEq, Addr.mk.injEq, and_true] at f1
  subst f1
  exact ⟨g, b0, c', rfl, h5, hb0, h6, hc0, hc1, by omega⟩
theorem big_any (w : World) (A : Option Addr) (n c : Nat) : Calls Try.prog 22 #[.slice A n c] w fun e w' => e = .returned (.bool (decide (4096 < (n : Int)))) ∧ Below w.heap.size w w' := by
  go_enter Try.func22, Try.ntmps22
  go_wp2
  go_ret
  exact ⟨rfl, by (repeat (first | assumption | exact Below.refl _ _ | refine Below.alloc ?_ (by first | omega | (simp; done) | (simp; omega)) _ | refine Below.setCell ?_ (by first | omega | (simp; done) | (simp; omega)) _ | refine below_drewN ?_ _))⟩
theorem prodF_take_succ (L : List (List Int)) (k : Nat) (hk : k < L.length) {q : Int} {e : Nat} (hr : L.getD k [] = [q, (e : Int)]) : prodF (L.take (k + 1)) = prodF (L.take k) * q ^ e := by
  rw [List.take_succ_eq_append_getElem hk, prodF_append]
  have : L[k] = [q, (e : Int)] := by
    rw [List.getD_eq_getElem?_getD, List.getElem?_eq_getElem hk] at hr
    exact hr
  rw [this]
  simp [prodF]
theorem prodF_pos {n : Int} {L : List (List Int)} (h : ∀ r ∈ L, RowOk n 2 r) : 1 ≤ prodF L := by
  induction L with
  | nil => simp [prodF]
  | cons r rs ih =>
    obtain ⟨q, e, rfl, h1, h2, -⟩ := h r (by simp)
    have h3 := ih fun r hr => h r (by simp [hr])
    simp only [prodF, List.getD_cons_zero, List.getD_cons_succ, Int.toNat_natCast]
    have h4 : 1 ≤ q ^ e := Int.pow_pos (by omega)
    have := Int.mul_le_mul h4 h3 (by omega) (by omega)
    omega
theorem prodF_part {n : Int} {L : List (List Int)} (h : ∀ r ∈ L, RowOk n 2 r) (hp : prodF L = n) {k : Nat} (hk : k < L.length) {q : Int} {e : Nat} (hr : L.getD k [] = [q, (e : Int)]) (hq : 2 ≤ q) {j : Nat} (hj : j ≤ e) : 1 ≤ prodF (L.take k) * q ^ j ∧ prodF (L.take k) * q ^ j ≤ n := by
  have h1 : 1 ≤ prodF (L.take k) := prodF_pos fun r hr => h r (List.mem_of_mem_take hr)
  have h2 : 1 ≤ prodF (L.drop (k + 1)) := prodF_pos fun r hr => h r (List.mem_of_mem_drop hr)
  have h3 : prodF L = prodF (L.take (k + 1)) * prodF (L.drop (k + 1)) := by rw [← prodF_append, List.take_append_drop]
  rw [hp, prodF_take_succ L k hk hr] at h3
  have hj1 : 1 ≤ q ^ j := Int.pow_pos (by omega)
  have hje : q ^ e = q ^ j * q ^ (e - j) := by rw [← Int.pow_add]; congr 1; omega
  have hj2 : 1 ≤ q ^ (e - j) := Int.pow_pos (by omega)
  have a1 : 1 ≤ prodF (L.take k) * q ^ j := by have := Int.mul_le_mul h1 hj1 (by omega) (by omega); omega
  refine ⟨a1, ?_⟩
  rw [h3, hje, ← Int.mul_assoc]
  have b1 : prodF (L.take k) * q ^ j * 1 ≤ prodF (L.take k) * q ^ j * q ^ (e - j) := Int.mul_le_mul_of_nonneg_left hj2 (by omega)
  have b2 : prodF (L.take k) * q ^ j * q ^ (e - j) * 1 ≤ prodF (L.take k) * q ^ j * q ^ (e - j) * prodF (L.drop (k + 1)) := Int.mul_le_mul_of_nonneg_left h2 (by omega)
  omega

theorem RdY.next {w w' : World} {v : Value} {n : Nat} (h : RdY w w.heap.size v n) (R : Below w.heap.size w w') : RdY w' w'.heap.size v n := by
  obtain ⟨A, c, h1, h2, h3, h4⟩ := h
  refine ⟨A, c, h1, h2, h3, fun k hk => ?_⟩
  obtain ⟨g, off, x, e, hg, _, hc, hx⟩ := h4 k hk
  have := R.size
  exact ⟨g, off, x, e, by omega, by omega, (R.cell (p := ⟨g, off + k, none⟩) hg).trans hc, hx⟩
theorem le_pow_self {q : Int} (hq : 2 ≤ q) : ∀ e : Nat, (e : Int) ≤ q ^ e
  | 0 => by simp
  | e + 1 => by
    have ih := le_pow_self hq e
    have h1 : 1 ≤ q ^ e := Int.pow_pos (by omega)
    have h2 : q ^ e * 2 ≤ q ^ e * q := Int.mul_le_mul_of_nonneg_left hq (by omega)
    rw [Int.pow_succ]
    omega
set_option maxRecDepth 16000 in
set_option maxHeartbeats 8000000 in
theorem FnIntegers_walk (w : World) (v : Value) (n : Nat) (hv : RdY w w.heap.size v n) : Calls Try.prog 7 #[v] w fun e w' => e = .returned (.bool true) ∧ Below w.heap.size w w' := by
  obtain ⟨A, c, e0, hc1, hc2, _⟩ := id hv
  subst e0
  unfold maxLen at hc2
  by_cases hbig : 4096 < (n : Int)
  · have hb1 : decide (4096 < (n : Int)) = true := by simpa using hbig
    clear hbig
    go_enter Try.func7, Try.ntmps7
    go_wp2_with (go_at_call 22; refine (big_any _ A n c).mono ?_; rintro e w1 ⟨rfl, B1⟩; rw [hb1])
    go_ret
    exact ⟨rfl, B1⟩
  · have hb1 : decide (4096 < (n : Int)) = false := by simpa using hbig
    have hn : n ≤ 1000000000 := by omega
    clear hbig
    go_enter Try.func7, Try.ntmps7
    go_upto_region 3 with (go_at_call 22; refine (big_any _ A n c).mono ?_; rintro e w1 ⟨rfl, B1⟩; rw [hb1])
    go_upto_if 62 with (first | (go_at_call 23; refine (DrawPrimeFactors_any _ _ n (hv.next B1) hn).mono ?_; rintro e w2 ⟨x, rfl, B2⟩; have KK := B1.trans (B2.mono B1.size); obtain ⟨⟨L, z⟩, hpf⟩ : ∃ r, PrimeFactorsR x = r := ⟨_, rfl⟩; have HPF := Lib.hid hpf; clear hpf) | (go_at_call 24; refine (iPrimeFactorsR_any _ x).mono ?_; rw [HPF.out]; rintro e w3 ⟨A3, c3, rfl, o3, B3⟩; have KK := KK.trans (B3.mono KK.size)) | (go_at_call 25; refine (sPrimeFactorsR_any _ x).mono ?_; rw [HPF.out]; rintro e w4 ⟨A4, c4, rfl, o4, B4⟩; have KK := KK.trans (B4.mono KK.size); have R3 := B4) | (go_at_call 26; refine (rows5_any _ _ _ L L (o3.rd.below B4) o4.rd).mono ?_; rintro e w5 ⟨rfl, B5⟩; rw [beq_self_eq_true]; have KK := KK.trans (B5.mono KK.size); have R3 := R3.trans (B5.mono R3.size)))
    clear o4 B4 B5 B2 B3
    go_cut [8, 9, 10, 11, 12, 13, 14] from 62 to 141 (fun _ _ _ _ _ _ _ wx => Hid (Below w.heap.size w wx))
    case first =>
      by_cases hx : inB x 1 1000000000000 = true
      · obtain ⟨hx1, hx2⟩ := inB_true.1 hx
        obtain ⟨hrow, hprod⟩ := facL_law hx1
        have hbd := facL_bd hx1 hx2
        have hpf : PrimeFactorsR x = (facL x, 0) := by simp [PrimeFactorsR, hx]
        have hpe := HPF.out
        rw [hpf] at hpe
        simp only [Prod.mk.injEq] at hpe
        obtain ⟨hL, rfl⟩ := hpe
        rw [hL] at hrow hprod hbd
        have HROW := Lib.hid hrow
        have HPROD := Lib.hid hprod
        have HINT : Hid (isIntB x = true) := by unfold Hid isIntB; rw [inB_true]; omega
        clear hpf hL hrow hprod hx
        rw [show ((0 : Int) == 0) = true from rfl]
        go_wp2
        go_loopw [8, 9] (fun s8 s9 wr => ∃ k : Nat, k ≤ L.length ∧ s8 = .int .i64 (prodF (L.take k)) ∧ s9 = .int .i64 (k : Int) ∧ Hid (Below w3.heap.size w3 wr) ∧ Hid (Below w.heap.size w wr)) (fun _ s9 _ => L.length - (intOf s9).toNat)
        case atStart => exact ⟨0, Nat.zero_le _, by simp [prodF], rfl, Lib.hid R3, Lib.hid KK⟩
        case round =>
          clear KK R3
          obtain ⟨k, hk, rfl, rfl, HR3, HKZ⟩ := hrel
          by_cases hlt : k < L.length
          · have hlt1 : (k : Int) < (L.length : Int) := by omega
            have hlt0 : (0 : Int) ≤ (k : Int) := by omega
            obtain ⟨q, e, hr, hpr, hq2, hqn, he1, hval⟩ := HROW.out (L.getD k []) (by rw [List.getD_eq_getElem?_getD, List.getElem?_eq_getElem hlt]; exact List.getElem_mem _)
            obtain ⟨g, gr, cr, rfl, hg, hgr, c1, c2, c3', hcap⟩ := o3.pair hlt hr
            have HC1 := Lib.hid c1
            have HC2 := Lib.hid c2
            have HC3 := Lib.hid c3'
            have R3 := HR3.out
            have KZ := HKZ.out
            have d1 := (R3.cell (p := ⟨g, k, none⟩) hg).trans c1
            have d2 := (R3.cell (p := ⟨gr, 0, none⟩) hgr).trans c2
            have d3 := (R3.cell (p := ⟨gr, 1, none⟩) hgr).trans c3'
            have hqi : isIntB q = true := by unfold isIntB; rw [inB_true]; omega
            have hpb := primeB_true.2 hpr
            have HPQ : Hid (primeR q = (true, 0)) := by unfold Hid primeR; rw [hqi, hpb]; rfl
            have heb : (e : Int) ≤ 1000000000000 := by
              have h2 := (prodF_part HROW.out HPROD.out hlt hr (by omega) (Nat.le_refl e)).2
              have h3 := prodF_pos (n := x) (L := L.take k) fun r hr => HROW.out r (List.mem_of_mem_take hr)
              have h4 : (e : Int) ≤ q ^ e := le_pow_self (by omega) e
              have h5 : 1 * q ^ e ≤ prodF (L.take k) * q ^ e := Int.mul_le_mul_of_nonneg_right h3 (by omega)
              omega
            clear c1 c2 c3' hpr
            by_cases hq : q ≤ 1000
            · have HVQ : Hid (valR q x = ((e : Int), 0)) := by
                unfold Hid valR
                rw [if_neg (by rw [hpb, HINT.out]; simp; omega), if_neg (by omega), hval]
              clear hval hpb hqi
              go_wp2_with (first | (go_at_call 27; refine (iIsPrimeNumber_any q _).mono ?_; rw [HPQ.out]; rintro e6 w6 ⟨rfl, B6⟩; have R3 := R3.trans (B6.mono R3.size); have KZ := KZ.trans (B6.mono KZ.size); have d1 := (R3.cell (p := ⟨g, k, none⟩) hg).trans HC1.out; have d2 := (R3.cell (p := ⟨gr, 0, none⟩) hgr).trans HC2.out; have d3 := (R3.cell (p := ⟨gr, 1, none⟩) hgr).trans HC3.out) | (go_at_call 28; refine (iValuationOf_any q x _).mono ?_; rw [HVQ.out]; rintro e7 w7 ⟨rfl, B7⟩; have R3 := R3.trans (B7.mono R3.size); have KZ := KZ.trans (B7.mono KZ.size); have d1 := (R3.cell (p := ⟨g, k, none⟩) hg).trans HC1.out; have d2 := (R3.cell (p := ⟨gr, 0, none⟩) hgr).trans HC2.out; have d3 := (R3.cell (p := ⟨gr, 1, none⟩) hgr).trans HC3.out))
              go_loopw [8, 14] (fun s8 s14 wz => ∃ j : Nat, j ≤ e ∧ s8 = .int .i64 (prodF (L.take k) * q ^ (e - j)) ∧ s14 = .int .i64 (j : Int) ∧ Hid (Below w3.heap.size w3 wz) ∧ Hid (Below w.heap.size w wz)) (fun _ s14 _ => (intOf s14).toNat)
              case atStart => exact ⟨e, Nat.le_refl _, by rw [Nat.sub_self, Int.pow_zero, Int.mul_one], rfl, Lib.hid R3, Lib.hid KZ⟩
              case round =>
                clear R3 KZ d1 d2 d3
                obtain ⟨j, hj, rfl, rfl, R4, K4⟩ := hrel
                have d1 := (R4.out.cell (p := ⟨g, k, none⟩) hg).trans HC1.out
                have d2 := (R4.out.cell (p := ⟨gr, 0, none⟩) hgr).trans HC2.out
                by_cases hj0 : j = 0
                · subst hj0
                  have hx : prodF (L.take k) * q ^ (e - 0) = prodF (L.take (k + 1)) := by rw [Nat.sub_zero]; exact (prodF_take_succ L k hlt hr).symm
                  have hv1 : IntKind.i64.wrap ((k : Int) + 1) = (k : Int) + 1 := IntWalk.i64_in _ (by omega)
                  have HXX := Lib.hid hx
                  clear hx
                  go_wp2
                  go_roundw
                  case rel => exact ⟨k + 1, by omega, by rw [HXX.out], by go_num, R4, K4⟩
                  case measure => simp [intOf]; omega
                · obtain ⟨i, rfl⟩ : ∃ i, j = i + 1 := ⟨j - 1, by omega⟩
                  have hb1 := prodF_part HROW.out HPROD.out hlt hr (by omega) (show e - (i + 1) ≤ e by omega)
                  have hb2 := prodF_part HROW.out HPROD.out hlt hr (by omega) (show e - i ≤ e by omega)
                  have hx : prodF (L.take k) * q ^ (e - (i + 1)) * q = prodF (L.take k) * q ^ (e - i) := by
                    rw [Int.mul_assoc, ← Int.pow_succ]; congr 2; omega
                  have hv1 : IntKind.i64.wrap (prodF (L.take k) * q ^ (e - (i + 1)) * q) = prodF (L.take k) * q ^ (e - i) := by rw [hx]; exact IntWalk.i64_in _ (by omega)
                  have HV1 := Lib.hid hv1
                  clear hv1 hx
                  generalize prodF (L.take k) * q ^ (e - (i + 1)) = X at *
                  have hv1 := HV1.out
                  obtain ⟨Y, hY⟩ : ∃ Y, prodF (L.take k) * q ^ (e - i) = Y := ⟨_, rfl⟩
                  rw [hY] at hv1 hb2
                  have HYY := Lib.hid hY
                  clear hY
                  have hj1 : (0 : Int) < ((i + 1 : Nat) : Int) := by omega
                  have hv2 : IntKind.i64.wrap (((i + 1 : Nat) : Int) - 1) = (i : Int) := by rw [show ((i + 1 : Nat) : Int) - 1 = (i : Int) by omega]; exact IntWalk.i64_in _ (by omega)
                  have hv3 : IntKind.i64.wrap (i : Int) = (i : Int) := IntWalk.i64_in _ (by omega)
                  go_wp2
                  go_roundw
                  case rel => exact ⟨i, by omega, by rw [HYY.out], by first | rfl | (congr 1; omega), R4, K4⟩
                  case measure => simp [intOf]
            · have hqd : decide (q ≤ 1000) = false := by simp; omega
              clear hval hpb hqi
              go_wp2_with (go_at_call 27; refine (iIsPrimeNumber_any q _).mono ?_; rw [HPQ.out]; rintro e6 w6 ⟨rfl, B6⟩; have R3 := R3.trans (B6.mono R3.size); have KZ := KZ.trans (B6.mono KZ.size); have d1 := (R3.cell (p := ⟨g, k, none⟩) hg).trans HC1.out; have d2 := (R3.cell (p := ⟨gr, 0, none⟩) hgr).trans HC2.out; have d3 := (R3.cell (p := ⟨gr, 1, none⟩) hgr).trans HC3.out)
              go_loopw [8, 14] (fun s8 s14 wz => ∃ j : Nat, j ≤ e ∧ s8 = .int .i64 (prodF (L.take k) * q ^ (e - j)) ∧ s14 = .int .i64 (j : Int) ∧ Hid (Below w3.heap.size w3 wz) ∧ Hid (Below w.heap.size w wz)) (fun _ s14 _ => (intOf s14).toNat)
              case atStart => exact ⟨e, Nat.le_refl _, by rw [Nat.sub_self, Int.pow_zero, Int.mul_one], rfl, Lib.hid R3, Lib.hid KZ⟩
              case round =>
                clear R3 KZ d1 d2 d3
                obtain ⟨j, hj, rfl, rfl, R4, K4⟩ := hrel
                have d1 := (R4.out.cell (p := ⟨g, k, none⟩) hg).trans HC1.out
                have d2 := (R4.out.cell (p := ⟨gr, 0, none⟩) hgr).trans HC2.out
                by_cases hj0 : j = 0
                · subst hj0
                  have hx : prodF (L.take k) * q ^ (e - 0) = prodF (L.take (k + 1)) := by rw [Nat.sub_zero]; exact (prodF_take_succ L k hlt hr).symm
                  have hv1 : IntKind.i64.wrap ((k : Int) + 1) = (k : Int) + 1 := IntWalk.i64_in _ (by omega)
                  have HXX := Lib.hid hx
                  clear hx
                  go_wp2
                  go_roundw
                  case rel => exact ⟨k + 1, by omega, by rw [HXX.out], by go_num, R4, K4⟩
                  case measure => simp [intOf]; omega
                · obtain ⟨i, rfl⟩ : ∃ i, j = i + 1 := ⟨j - 1, by omega⟩
                  have hb1 := prodF_part HROW.out HPROD.out hlt hr (by omega) (show e - (i + 1) ≤ e by omega)
                  have hb2 := prodF_part HROW.out HPROD.out hlt hr (by omega) (show e - i ≤ e by omega)
                  have hx : prodF (L.take k) * q ^ (e - (i + 1)) * q = prodF (L.take k) * q ^ (e - i) := by
                    rw [Int.mul_assoc, ← Int.pow_succ]; congr 2; omega
                  have hv1 : IntKind.i64.wrap (prodF (L.take k) * q ^ (e - (i + 1)) * q) = prodF (L.take k) * q ^ (e - i) := by rw [hx]; exact IntWalk.i64_in _ (by omega)
                  have HV1 := Lib.hid hv1
                  clear hv1 hx
                  generalize prodF (L.take k) * q ^ (e - (i + 1)) = X at *
                  have hv1 := HV1.out
                  obtain ⟨Y, hY⟩ : ∃ Y, prodF (L.take k) * q ^ (e - i) = Y := ⟨_, rfl⟩
                  rw [hY] at hv1 hb2
                  have HYY := Lib.hid hY
                  clear hY
                  have hj1 : (0 : Int) < ((i + 1 : Nat) : Int) := by omega
                  have hv2 : IntKind.i64.wrap (((i + 1 : Nat) : Int) - 1) = (i : Int) := by rw [show ((i + 1 : Nat) : Int) - 1 = (i : Int) by omega]; exact IntWalk.i64_in _ (by omega)
                  have hv3 : IntKind.i64.wrap (i : Int) = (i : Int) := IntWalk.i64_in _ (by omega)
                  go_wp2
                  go_roundw
                  case rel => exact ⟨i, by omega, by rw [HYY.out], by first | rfl | (congr 1; omega), R4, K4⟩
                  case measure => simp [intOf]
          · have hd1 : decide ((k : Int) < (L.length : Int)) = false := by simp; omega
            have hpx : prodF (L.take k) = x := by rw [List.take_of_length_le (by omega)]; exact HPROD.out
            have hne : (prodF (L.take k) != x) = false := by simpa using hpx
            clear hpx
            go_wp2
            go_meet
            exact HKZ
      · have hpf : PrimeFactorsR x = ([], 2) := by simp [PrimeFactorsR, hx]
        have hpe := HPF.out
        rw [hpf] at hpe
        simp only [Prod.mk.injEq] at hpe
        obtain ⟨rfl, rfl⟩ := hpe
        clear hpf hx
        go_wp2
        go_meet
        exact Lib.hid KK
    case rest =>
      have BX := hcut.out
      clear hcut B1 R3 o3 KK HPF
      go_upto_region 33 with (first | (go_at_call 29; refine (DrawBinomialNumber_any _ _ n (hv.next BX) hn).mono ?_; rintro e w2 ⟨a, b, rfl, B2⟩; have KK := BX.trans (B2.mono BX.size); obtain ⟨⟨y, z⟩, hbn⟩ : ∃ r, binR a b = r := ⟨_, rfl⟩; have HBN := Lib.hid hbn; clear hbn) | (go_at_call 30; refine (iBinomialNumber_any a b _).mono ?_; rw [HBN.out]; rintro e w3 ⟨rfl, B3⟩; have KK := KK.trans (B3.mono KK.size)) | (go_at_call 31; refine (sBinomialNumber_any a b _).mono ?_; rw [HBN.out]; rintro e w4 ⟨rfl, B4⟩; have KK := KK.trans (B4.mono KK.size)))
      have K2 := Lib.hid KK
      clear BX B2 B3 B4 KK
      go_cut [176] from 167 to 176 (fun s wx => s = .bool ((z == 0) && decide (0 < a) && decide (0 < b)) ∧ Hid (Below w.heap.size w wx))
      case first =>
        cases hz : (z == 0) with
        | false =>
          go_wp2
          go_meet
          exact ⟨by rw [hz]; rfl, K2⟩
        | true =>
          cases ha : decide (0 < a) with
          | false =>
            go_wp2
            go_meet
            exact ⟨by rw [hz, ha]; rfl, K2⟩
          | true =>
            cases hb : decide (0 < b) with
            | false =>
              go_wp2
              go_meet
              exact ⟨by rw [hz, ha, hb]; rfl, K2⟩
            | true =>
              go_wp2
              go_meet
              exact ⟨by rw [hz, ha, hb]; rfl, K2⟩
      case rest =>
        obtain ⟨rfl, K2⟩ := hcut
        go_upto_if 176 with fail
        obtain ⟨T, hT⟩ : ∃ T, ((z == 0) && decide (0 < a) && decide (0 < b)) = T := ⟨_, rfl⟩
        rw [hT]
        have HT := Lib.hid hT
        clear hT
        go_cut [21, 22, 23, 24] from 176 to 204 (fun _ _ _ _ wx => Hid (Below w.heap.size w wx))
        case first =>
          cases T with
          | false =>
            go_wp2
            go_meet
            exact K2
          | true =>
            have ht := HT.out
            simp only [Bool.and_eq_true, beq_iff_eq, decide_eq_true_eq] at ht
            obtain ⟨⟨rfl, ha0⟩, hb0⟩ := ht
            have hx : inB a 0 60 = true ∧ inB b 0 60 = true := by
              have h := HBN.out
              unfold binR at h
              split at h
              · simp at h
              · rename_i h2
                simp only [not_or, Bool.not_eq_false] at h2
                exact h2
            obtain ⟨ha, hb⟩ := hx
            have ha' := inB_true.1 ha
            have hb' := inB_true.1 hb
            have hyx : y = binN a b := by
              have h := HBN.out
              unfold binR at h
              rw [ha, hb] at h
              simp at h
              exact h.symm
            have ha2 : inB (a - 1) 0 60 = true := by rw [inB_true]; omega
            have hb2 : inB (b - 1) 0 60 = true := by rw [inB_true]; omega
            have HB2 : Hid (binR (a - 1) b = (binN (a - 1) b, 0)) := by unfold Hid binR; rw [ha2, hb]; simp
            have HB3 : Hid (binR (a - 1) (b - 1) = (binN (a - 1) (b - 1), 0)) := by unfold Hid binR; rw [ha2, hb2]; simp
            have hpas := pascal ha0 hb0
            rw [← hyx] at hpas
            have hzb2 := binN_bd (n := a - 1) (k := b) (by omega)
            have hzb3 := binN_bd (n := a - 1) (k := b - 1) (by omega)
            have v1 : IntKind.i64.wrap (a - 1) = a - 1 := IntWalk.i64_in _ (by omega)
            have v2 : IntKind.i64.wrap (b - 1) = b - 1 := IntWalk.i64_in _ (by omega)
            generalize binN (a - 1) b = Y at *
            generalize binN (a - 1) (b - 1) = Z at *
            have v3 : IntKind.i64.wrap (Y + Z) = Y + Z := IntWalk.i64_in _ (by omega)
            have v4 : (y != Y + Z) = false := by simpa using hpas
            have KK := K2.out
            clear ha hb ha2 hb2 hpas hyx K2 HBN HT
            go_wp2_with (first | (go_at_call_of 30 (Value.int IntKind.i64 b); refine (iBinomialNumber_any (a - 1) b _).mono ?_; rw [HB2.out]; rintro e w5 ⟨rfl, B5⟩; have KK := KK.trans (B5.mono KK.size)) | (go_at_call 30; refine (iBinomialNumber_any (a - 1) (b - 1) _).mono ?_; rw [HB3.out]; rintro e w6 ⟨rfl, B6⟩; have KK := KK.trans (B6.mono KK.size)))
            go_meet
            exact Lib.hid KK
        case rest =>
          have BY := hcut.out
          clear hcut K2 HT HBN
          go_upto_if 226 with (first | (go_at_call 32; refine (DrawBinomialDivisor_any _ _ n (hv.next BY) hn).mono ?_; rintro e w2 ⟨d, rfl, B2⟩; have KK := BY.trans (B2.mono BY.size); obtain ⟨⟨y2, z2⟩, hbn⟩ : ∃ r, lazR d = r := ⟨_, rfl⟩; have HLZ := Lib.hid hbn; clear hbn) | (go_at_call 33; refine (iBinomialDivisor_any d _).mono ?_; rw [HLZ.out]; rintro e w3 ⟨rfl, B3⟩; have KK := KK.trans (B3.mono KK.size)) | (go_at_call 34; refine (sBinomialDivisor_any d _).mono ?_; rw [HLZ.out]; rintro e w4 ⟨rfl, B4⟩; have KK := KK.trans (B4.mono KK.size)))
          have K2 := Lib.hid KK
          clear BY B2 B3 B4 KK
          go_cut [30, 31] from 226 to 268 (fun _ _ wx => Hid (Below w.heap.size w wx))
          case first =>
            by_cases hx : inB d 2 60 = true
            · obtain ⟨hd1, hd2⟩ := inB_true.1 hx
              have hlz : lazR d = (lazN d d.toNat, 0) := by unfold lazR; rw [hx]; simp
              have hpe := HLZ.out
              rw [hlz] at hpe
              simp only [Prod.mk.injEq] at hpe
              obtain ⟨hZ, rfl⟩ := hpe
              obtain ⟨hl1, hl2, hl3⟩ := laz_law hd1 hd2
              have hd12 : inB d 1 1000000000000 = true := by rw [inB_true]; omega
              have hpf : PrimeFactorsR d = (facL d, 0) := by simp [PrimeFactorsR, hd12]
              obtain ⟨hrow, hprod⟩ := facL_law (n := d) (by omega)
              have hbd := facL_bd (n := d) (by omega) (by omega)
              obtain ⟨L, hL⟩ : ∃ L, facL d = L := ⟨_, rfl⟩
              rw [hL] at hl1 hl2 hl3 hpf hrow hbd
              have HPF := Lib.hid hpf
              have hlen : 0 < L.length := List.length_pos_iff.2 hl1
              obtain ⟨q, e', hr, -⟩ := hrow (L.getD 0 []) (by rw [List.getD_eq_getElem?_getD, List.getElem?_eq_getElem hlen]; exact List.getElem_mem _)
              rw [hZ] at hl2 hl3
              have hone : L.length = 1 → y2 = q := by
                intro h
                refine hl2 q e' ?_
                match L, h with
                | [r], _ => simp at hr; rw [hr]
              have hmany : 1 < L.length → y2 = 1 := hl3
              have HR := Lib.hid hr
              have KK := K2.out
              clear hx hl1 hl2 hl3 hd12 hpf hrow hprod hL hZ hr hlz HLZ K2
              have hl0 : ((L.length : Int) == 0) = false := beq_eq_false_iff_ne.2 (by omega)
              by_cases h1 : L.length = 1
              · have hz := hone h1
                have t1 : ((L.length : Int) == 1) = true := beq_iff_eq.2 (by omega)
                have t2 : (y2 != q) = false := by simpa using hz
                have t3 : decide (1 < (L.length : Int)) = false := decide_eq_false (by omega)
                have HLEN := Lib.hid h1
                have t4 : (0 : Int) < (L.length : Int) := by omega
                clear hone hmany hz h1
                go_wp2_with (go_at_call 24; refine (iPrimeFactorsR_any _ d).mono ?_; rw [HPF.out]; rintro e w5 ⟨A5, c5, rfl, o5, B5⟩; have KK := KK.trans (B5.mono KK.size); obtain ⟨g, gr, cr, rfl, hg, hgr, d1, d2, d3, hcap⟩ := o5.pair hlen HR.out)
                go_meet
                exact Lib.hid KK
              · have t1 : ((L.length : Int) == 1) = false := beq_eq_false_iff_ne.2 (by omega)
                have hz := hmany (by omega)
                have t3 : (1 : Int) < (L.length : Int) := by omega
                have t2 : (y2 != 1) = false := by simpa using hz
                have t4 : (0 : Int) < (L.length : Int) := by omega
                clear hone hmany hz h1
                go_wp2_with (go_at_call 24; refine (iPrimeFactorsR_any _ d).mono ?_; rw [HPF.out]; rintro e w5 ⟨A5, c5, rfl, o5, B5⟩; have KK := KK.trans (B5.mono KK.size); obtain ⟨g, gr, cr, rfl, hg, hgr, d1, d2, d3, hcap⟩ := o5.pair hlen HR.out)
                go_meet
                exact Lib.hid KK
            · have hlz : lazR d = (0, 2) := by unfold lazR; rw [if_pos (by simpa using hx)]
              have hpe := HLZ.out
              rw [hlz] at hpe
              simp only [Prod.mk.injEq] at hpe
              obtain ⟨rfl, rfl⟩ := hpe
              clear hx hlz HLZ
              go_wp2
              go_meet
              exact K2
          case rest =>
            have BZ := hcut.out
            clear hcut K2 HLZ
            go_wp2_with (first | (go_at_call 35; refine (DrawValuationOf_any _ _ n (hv.next BZ) hn).mono ?_; rintro e w2 ⟨p, m, rfl, B2⟩; have KK := BZ.trans (B2.mono BZ.size); obtain ⟨⟨r1, r2⟩, hR⟩ : ∃ R, valR p m = R := ⟨_, rfl⟩; have HVR := Lib.hid hR; clear hR) | (go_at_call 28; refine (iValuationOf_any p m _).mono ?_; rw [HVR.out]; rintro e w3 ⟨rfl, B3⟩; have KK := KK.trans (B3.mono KK.size)) | (go_at_call 36; refine (sValuationOf_any p m _).mono ?_; rw [HVR.out]; rintro e w4 ⟨rfl, B4⟩; have KK := KK.trans (B4.mono KK.size)))
            go_ret
            exact ⟨by simp, KK⟩

/-! ### A slice of bytes as an argument -/
section
open Go.ChangeShapes Go.WideShapes
variable {H : Type} {enc : TypeId × Value → H} {w : World}
theorem rdB_of_trod {fuel : Nat} {v : Value} {x : DataW H × List MemPlace} (h : DataW.trod enc Try.prog w 0 (fun _ => true) true fuel 39 [v] = some x) : ∃ n, RdY w w.heap.size v n := by
  have hlt := DataW.trod_lt _ _ _ _ h
  rcases open_ints Try.underlying39 Try.underlying5 (by kernel_rfl) h with ⟨h1, _⟩ | ⟨a, len, cap, zs, h1, _, h2, h3, h4, rfl, h5, h6⟩
  · obtain rfl : v = .slice none 0 0 := by simpa using h1
    exact ⟨0, none, 0, rfl, Nat.le_refl _, by unfold maxLen; omega, fun k hk => by simp at hk⟩
  · obtain rfl : v = .slice (some a) len cap := by simpa using h1
    simp only [if_true] at h4
    refine ⟨len, some a, cap, rfl, by omega, h3, fun k hk => ?_⟩
    have hc := h5 k (by omega)
    have hsp : a.spot = none := by
      have hc0 := h5 0 (by omega)
      have e0 : a.add 0 = a := by simp [Addr.add]
      rw [e0] at hc0
      unfold World.cell? at hc0
      cases hs : a.spot with
      | none => rfl
      | some _ =>
        split at hc0
        · simp [hs] at hc0
        · cases hc0
    obtain ⟨b, off, sp⟩ := a
    simp only at hsp
    subst hsp
    have hb : b < w.heap.size := hlt (.cell b (off + k)) (MemPlace.mem_row.2 ⟨k, by omega, rfl⟩)
    rw [add_plain] at hc
    have hw := h6 (zs.getD k 0) (by rw [List.getD_eq_getElem?_getD, List.getElem?_eq_getElem (show k < zs.length by omega)]; exact List.getElem_mem _)
    have hz : 0 ≤ zs.getD k 0 ∧ zs.getD k 0 < 256 := by
      simp only [Lit.wf, Bool.and_eq_true, decide_eq_true_eq] at hw
      have m1 : IntKind.u8.min = 0 := by decide
      have m2 : IntKind.u8.max = 255 := by decide
      omega
    exact ⟨b, off, zs.getD k 0, rfl, hb, by omega, hc, hz⟩
end

end Go.Proofs.Ytmppmnmkhfcoaaa
