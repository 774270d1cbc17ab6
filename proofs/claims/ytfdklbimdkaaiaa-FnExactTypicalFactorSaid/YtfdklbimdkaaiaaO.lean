/- Contracts over this seat's translation. Condition: each contract's own. -/
import Derived.Test.YtfdklbimdkaaiaaN
import Derived.ProofKit
import Derived.Laws.Bits64b
import Derived.Lib.Mul64
import Derived.OpenShut
import Derived.Below
import Derived.ChangeSame
import Derived.Deep.Modes
import Derived.Lib.SmallJoins
import Derived.ChangeSlices
import Derived.WalkKit
import Derived.WalkSpells
import Derived.WalkLawsBesides
import Derived.Deep.QuietTactic
import Derived.BigQuiet
import Derived.Deep.RegionHeld3
import Derived.Deep.RegionWith
import Derived.Deep.RegionLaw
import Derived.Deep.AppendLies
import Derived.Laws.CopyOwn
import Derived.Deep.DeepCutAuto
import Derived.Deep.OwnRows
import Derived.Deep.LoopGhost
import Derived.Deep.DeepFit
import Derived.Deep.DeepMust
import Derived.Deep.Draws
import Derived.Deep.CutRange
import Derived.Maps.AppendAt
import Derived.Lib.Hide
import Derived.StillTailTactics
import Derived.Laws.MakeOwn
import Derived.Deep.Matrix
set_option linter.unusedVariables false
open Go Go.RowKit
namespace Go.Proofs.Ytfdklbimdkaaiaa
/-! ### TypicalFactor: the law and the factor (reference) -/
/-- The table while degree t + 2 is being filled, rows below i done. -/
def lwI (W : Int) (p k : Nat) (top : Int) (ns : List Int) (t r i j : Nat) : Int := if i < r then lwF W p k top ns (t + 1) i j else lwF W p k top ns t i j
theorem lwF_at (W : Int) (p k : Nat) (top : Int) (ns : List Int) (t i j : Nat) (hi : 1 ≤ i) (hj : 1 ≤ j) (hij : i + j = t + 2) : lwF W p k top ns (t + 1) i j = (-(rsF W p k ns (t + 3) (co2 (tab (t + 3) (lwF W p k top ns t))) (k + 1) i j / top)) % W := by
  show (if 1 ≤ i ∧ 1 ≤ j ∧ i + j = t + 2 then _ else _) = _
  rw [if_pos ⟨hi, hj, hij⟩]
theorem lwF_off (W : Int) (p k : Nat) (top : Int) (ns : List Int) (t i j : Nat) (h : ¬ (1 ≤ i ∧ 1 ≤ j ∧ i + j = t + 2)) : lwF W p k top ns (t + 1) i j = lwF W p k top ns t i j := by
  show (if 1 ≤ i ∧ 1 ≤ j ∧ i + j = t + 2 then _ else _) = _
  rw [if_neg h]
theorem lwI_start (W : Int) (p k : Nat) (top : Int) (ns : List Int) (t n : Nat) : tab n (lwF W p k top ns t) = tab n (lwI W p k top ns t 1) := tab_congr fun i j _ => by
  unfold lwI
  by_cases h : i < 1
  · rw [if_pos h, lwF_off _ _ _ _ _ _ _ _ (by omega)]
  · rw [if_neg h]
theorem lwI_step (W : Int) (p k : Nat) (top : Int) (ns : List Int) (t r q n : Nat) (hr : 1 ≤ r) (hq : 1 ≤ q) (hrq : r + q = t + 2) : tab n (upd2 (lwI W p k top ns t r) r q ((-(rsF W p k ns (t + 3) (co2 (tab (t + 3) (lwF W p k top ns t))) (k + 1) r q / top)) % W)) = tab n (lwI W p k top ns t (r + 1)) := tab_congr fun i j _ => by
  unfold upd2 lwI
  by_cases h : i = r ∧ j = q
  · obtain ⟨rfl, rfl⟩ := h
    rw [if_pos ⟨rfl, rfl⟩, if_pos (by omega), lwF_at _ _ _ _ _ _ _ _ hr hq hrq]
  · rw [if_neg h]
    by_cases h2 : i < r
    · rw [if_pos h2, if_pos (by omega)]
    · rw [if_neg h2]
      split
      · rw [lwF_off _ _ _ _ _ _ _ _ (by omega)]
      · rfl
theorem lwI_end (W : Int) (p k : Nat) (top : Int) (ns : List Int) (t n : Nat) : tab n (lwI W p k top ns t (t + 2)) = tab n (lwF W p k top ns (t + 1)) := tab_congr fun i j _ => by
  unfold lwI
  split
  · rfl
  · rw [lwF_off _ _ _ _ _ _ _ _ (by omega)]
theorem lw_start (W : Int) (p k : Nat) (top : Int) (ns : List Int) (n : Nat) : tab n (upd2 (upd2 (fun _ _ => 0) 0 1 1) 1 0 1) = tab n (lwF W p k top ns 0) := tab_congr fun i j _ => by
  unfold upd2 lwF
  by_cases h : i = 1 ∧ j = 0
  · rw [if_pos h, if_pos (.inl h)]
  · rw [if_neg h]
    by_cases h2 : i = 0 ∧ j = 1
    · rw [if_pos h2, if_pos (.inr h2)]
    · rw [if_neg h2, if_neg (by omega)]
/-- The table while its rows are reduced. -/
def rdT (m : Int) (F : Nat → Nat → Int) (r i j : Nat) : Int := if i < r then F i j % m else F i j
theorem rdT_zero (m : Int) (F : Nat → Nat → Int) (n : Nat) : tab n F = tab n (rdT m F 0) := tab_congr fun i j _ => by
  unfold rdT
  rw [if_neg (by omega)]
theorem rdT_step (m : Int) (F : Nat → Nat → Int) (n r : Nat) (hr : r < n) : (tab n (rdT m F r)).set r (rests m ((tab n (rdT m F r)).getD r [])) = tab n (rdT m F (r + 1)) := by
  apply List.ext_getElem
  · simp [tab]
  · intro i h1 h2
    have hi : i < n := by simpa [tab] using h2
    have e2 : (tab n (rdT m F (r + 1)))[i] = lst (n - i) (rdT m F (r + 1) i) := by simp [tab]
    rw [List.getElem_set, e2]
    by_cases h : r = i
    · subst h
      rw [if_pos rfl, getD_tab _ hr]
      unfold rests lst
      rw [List.map_map]
      apply List.map_congr_left
      intro j _
      simp [rdT]
    · have e3 : (tab n (rdT m F r))[i]'(by simpa [tab] using hi) = lst (n - i) (rdT m F r i) := by simp [tab]
      rw [if_neg h, e3]
      apply lst_congr
      intro j _
      unfold rdT
      by_cases h3 : i < r
      · rw [if_pos h3, if_pos (by omega)]
      · rw [if_neg h3, if_neg (by omega)]
theorem rdT_end (m : Int) (F : Nat → Nat → Int) (n : Nat) : tab n (rdT m F n) = tab n fun i j => F i j % m := tab_congr fun i j hij => by
  unfold rdT
  rw [if_pos (by omega)]
theorem rdT_bd {m W : Int} (hm : 2 ≤ m) (hmW : m ≤ W) {F : Nat → Nat → Int} (h : ∀ i j, 0 ≤ F i j ∧ F i j < W) (r i j : Nat) : 0 ≤ rdT m F r i j ∧ rdT m F r i j < W := by
  unfold rdT
  split
  · have h1 := Int.emod_nonneg (F i j) (show m ≠ 0 by omega)
    have h2 := Int.emod_lt_of_pos (F i j) (show 0 < m by omega)
    omega
  · exact h i j
set_option maxRecDepth 8000 in
set_option maxHeartbeats 4000000 in
theorem l09Law_any (w : World) (p k d B : Nat) (m : Int) (v : Value) (xs : List Int) (zss : List (List Int)) (hv : OwnI w B v xs) (hl : xs.length ≤ 3) (hn : NumL m xs) (hpk : pkB p k = true) (hd : p ^ k = d) (hm : 2 ≤ m) (hm' : m ≤ 10000) (hz : tab (d + 1) (lawG p m k xs) = zss) :
    Calls Try.prog 88 #[.int .i64 p, .int .i64 m, .int .i64 d, v] w (NewP w zss) := by
  have hp2 := pk_two hpk
  have hbw := bigW_ge hpk hm hm'
  have HV := Lib.hid hv
  obtain ⟨A0, c0, e0⟩ := hv.form
  subst e0
  have hdI : (p : Int) ^ k = (d : Int) := by rw [← hd]; simp
  obtain ⟨W, hW⟩ : ∃ W, W = bigW p m k := ⟨_, rfl⟩
  have hW2 : m * (d : Int) * (p : Int) = W := by rw [hW]; unfold bigW; rw [hdI]
  have HZ : Hid ((tab (d + 1) fun i j => lwF W p k (d : Int) (nmL W p (pad3 xs)) (d - 1) i j % m) = zss) := by
    unfold Hid
    rw [← hz]
    refine tab_congr fun i j _ => ?_
    unfold lawG
    rw [← hW, hdI, hd]
  rw [← hW] at hbw
  rw [hd] at hp2
  have hmd := mul_bd' (show 0 ≤ m by omega) hm' (show (0 : Int) ≤ (d : Int) by omega) (show (d : Int) ≤ 9 by omega)
  have u1 : IntKind.i64.wrap (m * (d : Int)) = m * (d : Int) := IntWalk.i64_in _ (by omega)
  have hmW : m ≤ W := by
    rw [hW]
    have := pk_cases hpk
    unfold bigW
    rcases this with ⟨rfl, rfl⟩ | ⟨rfl, rfl⟩ | ⟨rfl, rfl⟩ | ⟨rfl, rfl⟩ | ⟨rfl, rfl⟩ | ⟨rfl, rfl⟩ | ⟨rfl, rfl⟩ <;> simp <;> omega
  have u2 : IntKind.i64.wrap (m * (d : Int) * (p : Int)) = W := by rw [hW2]; exact IntWalk.i64_in _ (by omega)
  have hpd1 := Lib.hid (show p ^ k ≤ d by omega)
  have hpd2 : Hid (d < p ^ (k + 1)) := by
    unfold Hid
    rw [Nat.pow_succ, hd]
    have := Nat.mul_le_mul (show d ≤ d from Nat.le_refl _) (show 2 ≤ p by omega)
    omega
  have HN := Lib.hid hn
  have HD := Lib.hid hd
  obtain ⟨ns, hns⟩ : ∃ ns, nmL W p (pad3 xs) = ns := ⟨_, rfl⟩
  have HNS := Lib.hid hns
  have hnsl : ns.length = 4 := by rw [← hns, length_nmL, length_pad3 hl]
  have HNL := Lib.hid hnsl
  have HNN : Hid (NumL W ns) := by unfold Hid; rw [← hns]; exact nmTo_num (by omega) _ _ _
  have HZ2 : Hid ((tab (d + 1) fun i j => lwF W p k (d : Int) ns (d - 1) i j % m) = zss) := by unfold Hid; rw [← hns]; exact HZ.out
  have HPN : Hid (NumL W (pad3 xs)) := by
    unfold Hid
    refine pad3_num (by omega) fun j => ?_
    have := hn j
    omega
  have HPL : Hid ((pad3 xs).length = 3) := length_pad3 hl
  clear hv hz hmd HZ hns hnsl hn hd hdI hW hpk
  go_enter Try.func88, Try.ntmps88
  go_wp2_with (first | (go_at_call 84; refine (l09Most_any _ p d k (by omega) (by omega) (by omega) hpd1.out hpd2.out).mono ?_; rintro e w1 ⟨rfl, hb1⟩; rw [HD.out]; have HB1 := Lib.hid hb1) | (go_at_call 94; refine (l09Three_any _ _ xs _ ((HV.out.keep HB1.out (Nat.le_refl _)).rd) hl rfl).mono ?_; rintro e w2 ⟨A2, c2, rfl, o2, hb2⟩; have O2 := Lib.hid o2; have HB2 := Lib.hid (HB1.out.trans (hb2.mono hb1.size)); have s2 := hb2.size; clear o2 hb2) | (go_at_call 71; refine (l09Numerators_any p W _ _ _ ns _ O2.out (by omega) (by omega) (by omega) (by omega) HPN.out (by rw [HPL.out]; omega) (by rw [HPL.out]; omega) HNS.out).mono ?_; rintro e w3 ⟨A3, c3, rfl, o3, hb3⟩; have O3 := Lib.hid o3; have HB3 := Lib.hid (HB2.out.trans (hb3.mono HB2.out.size)); have s3 := hb3.size; clear o3 hb3) | (go_at_call 121; refine (l03Zero_any _ _ (d + 1) (by omega) (by omega)).mono ?_; rintro e w4 ⟨A4, c4, rfl, o4, hb4⟩; rw [length_tab] at *; have O4 := Lib.hid o4; have HB4 := Lib.hid hb4; have s4 := hb4.size; clear o4 hb4))
  obtain ⟨g, c5, e5, -, -, hg, -⟩ := O4.out.source (d + 1) (length_tab _ _) (by omega)
  simp only [Value.slice.injEq, true_and] at e5
  obtain ⟨rfl, rfl⟩ := e5
  obtain ⟨g0, r0, hr0, hne0, hgl0, hgh0, hgz0, hx0, hf0, hset⟩ := O4.out.put (i := 0) (j := 1) (by omega)
  obtain ⟨g1, r1, hr1, hne1, hgl1, hgh1, hgz1, hx1, hf1, -⟩ := O4.out.put (i := 1) (j := 0) (by omega)
  have hS1 := hset 1
  obtain ⟨g2, r2, hr2, hne2, hgl2, hgh2, hgz2, hd2, hf2, hset2⟩ := hS1.put (i := 1) (j := 0) (by omega)
  have hE1 : (w4.setCell ⟨g0, 1, none⟩ (.int .i64 1)).cell? ⟨g, 1, none⟩ = w4.cell? ⟨g, 1, none⟩ := World.cell?_setCell_other _ _ _ _ (by first | (simp; done) | (simp; omega))
  rw [hE1, hr1] at hr2
  simp only [Option.some.injEq, Value.slice.injEq, Addr.mk.injEq] at hr2
  obtain ⟨⟨rfl, -⟩, -, -⟩ := hr2
  have hS2 := hset2 1
  rw [lw_start W p k (d : Int) ns (d + 1)] at hS2
  have HS2 := Lib.hid hS2
  simp only [Nat.sub_zero, Nat.add_sub_cancel] at hr0 hr1
  clear hS2 hset2 hS1 hset hE1 hd2
  have hd0 : (0 : Int) < (d : Int) + 1 := by omega
  have hd1 : (1 : Int) < (d : Int) + 1 := by omega
  have hd2 : (0 : Int) < (d : Int) := by omega
  have hd3 : 0 < d := by omega
  go_quiet (fail)
  go_wp2
  have HOQ0 : ∀ a, OwnP (((w4.drewN a).setCell ⟨g0, 1, none⟩ (.int .i64 1)).setCell ⟨g1, 0, none⟩ (.int .i64 1)) w3.heap.size w4.heap.size (.slice (some ⟨g, 0, none⟩) (d + 1) c4) (tab (d + 1) (lwF W p k (d : Int) ns 0)) := fun a => HS2.out
  have HBQ0 : ∀ a, Below w3.heap.size w3 (((w4.drewN a).setCell ⟨g0, 1, none⟩ (.int .i64 1)).setCell ⟨g1, 0, none⟩ (.int .i64 1)) := fun a => ((below_drewN HB4.out a).setCell (p := ⟨g0, 1, none⟩) (by simp; omega) _).setCell (p := ⟨g1, 0, none⟩) (by simp; omega) _
  have HSZ0 : ∀ a, w4.heap.size ≤ (((w4.drewN a).setCell ⟨g0, 1, none⟩ (.int .i64 1)).setCell ⟨g1, 0, none⟩ (.int .i64 1)).heap.size := fun a => by simp [World.setCell]
  generalize hwq : World.setCell _ ⟨g1, 0, none⟩ _ = wq
  obtain ⟨lo, hlo⟩ : ∃ lo, lo = w3.heap.size := ⟨_, rfl⟩
  obtain ⟨hi, hhi⟩ : ∃ hi, hi = w4.heap.size := ⟨_, rfl⟩
  have HOQ : Hid (OwnP wq lo hi (.slice (some ⟨g, 0, none⟩) (d + 1) c4) (tab (d + 1) (lwF W p k (d : Int) ns 0))) := by unfold Hid; rw [← hwq, hlo, hhi]; exact HOQ0 _
  have HBQ : Hid (Below lo w3 wq) := by unfold Hid; rw [← hwq, hlo]; exact HBQ0 _
  have HSZ : hi ≤ wq.heap.size := by rw [← hwq, hhi]; exact HSZ0 _
  have hlo3 : lo = w3.heap.size := hlo
  have hlohi : lo ≤ hi := by omega
  have hgl : lo ≤ g ∧ g < hi := ⟨(HOQ.out.outer).1, (HOQ.out.outer).2.1⟩
  clear HOQ0 HBQ0 HSZ0 hwq HS2 hhi hx0 hx1 hr0 hr1 hf0 hf1 hne0 hne1 hne2 hgl0 hgl1 hgl2 hgh0 hgh1 hgh2 hgz0 hgz1 hgz2 hg O4 HB4 hlo
  go_loopw [16] (fun s wr => ∃ t : Nat, t + 1 ≤ d ∧ s = .int .i64 ((t : Int) + 2) ∧ Hid (OwnP wr lo hi (.slice (some ⟨g, 0, none⟩) (d + 1) c4) (tab (d + 1) (lwF W p k (d : Int) ns t))) ∧ hi ≤ wr.heap.size ∧ Hid (Below lo w3 wr)) (fun s _ => d + 4 - (intOf s).toNat)
  case atStart => exact ⟨0, by omega, rfl, HOQ, HSZ, HBQ⟩
  case round =>
    clear HOQ HBQ HSZ
    obtain ⟨t, ht, rfl, HO, hsz, HB⟩ := hrel
    by_cases hlt : t + 2 ≤ d
    · have hlt1 : (t : Int) + 2 ≤ (d : Int) := by omega
      have HFB := Lib.hid (lwF_bd (show 2 ≤ W by omega) p k (d : Int) ns t)
      have HCUT : Hid (tab (t + 3) (co2 (tab (d + 1) (lwF W p k (d : Int) ns t))) = tab (t + 3) (lwF W p k (d : Int) ns t)) := tab_congr fun i j hij => co2_tab _ (by omega)
      have HCU2 : Hid (tab (t + 3) (co2 (tab (t + 3) (lwF W p k (d : Int) ns t))) = tab (t + 3) (lwF W p k (d : Int) ns t)) := tab_congr fun i j hij => co2_tab _ hij
      go_wp2_with (first | (go_at_call 123; refine (l03Cut_any _ _ _ _ _ (d + 1) (t + 3) lo hi HO.out (Tri.tab _ _) (by simp; omega) (by omega) (by omega) (by omega) HCUT.out).mono ?_; rintro e w5 ⟨A5, c5', rfl, o5, hb5⟩; rw [length_tab] at *; have O5 := Lib.hid o5; have HB5 := Lib.hid hb5; have s5 := hb5.size; clear o5 hb5) | (go_at_call 122; refine (l09Rest_any _ p k (t + 3) W _ _ ns _ _ w2.heap.size _ _ (O3.out.keep (HB.out.trans (HB5.out.mono (by omega))) (by omega)) HNN.out (by rw [HNL.out]; omega) (by rw [HNL.out]; omega) O5.out (Tri.tab _ _) (co2_tab_num3 (by omega) _ _ HFB.out) HCU2.out (by omega) (by omega) (by omega) (by omega) (by omega) (by omega) (by omega) rfl).mono ?_; rintro e w6 ⟨A6, c6, rfl, o6, hb6⟩; rw [length_tab] at *; have O6 := Lib.hid o6; have HB6 := Lib.hid (HB5.out.trans (hb6.mono HB5.out.size)); have s6 := hb6.size; clear o6 hb6))
      obtain ⟨g6, c7, e7, -, -, hg6, -⟩ := O6.out.source (t + 3) (length_tab _ _) (by omega)
      simp only [Value.slice.injEq, true_and] at e7
      obtain ⟨rfl, rfl⟩ := e7
      have HRB := Lib.hid (rsF_bd (show 0 < W by omega) p k ns (t + 3) (co2 (tab (t + 3) (lwF W p k (d : Int) ns t))) (k + 1))
      have HSTEP : Hid (∀ r q, 1 ≤ r → 1 ≤ q → r + q = t + 2 → tab (d + 1) (upd2 (lwI W p k (d : Int) ns t r) r q ((-(rsF W p k ns (t + 3) (co2 (tab (t + 3) (lwF W p k (d : Int) ns t))) (k + 1) r q / (d : Int))) % W)) = tab (d + 1) (lwI W p k (d : Int) ns t (r + 1))) := fun r q h1 h2 h3 => lwI_step W p k (d : Int) ns t r q (d + 1) h1 h2 h3
      obtain ⟨R, hR⟩ : ∃ R, rsF W p k ns (t + 3) (co2 (tab (t + 3) (lwF W p k (d : Int) ns t))) (k + 1) = R := ⟨_, rfl⟩
      rw [hR] at O6 HRB HSTEP
      have HO1 : Hid (OwnP w6 lo hi (.slice (some ⟨g, 0, none⟩) (d + 1) c4) (tab (d + 1) (lwI W p k (d : Int) ns t 1))) := by
        unfold Hid
        rw [← lwI_start]
        exact (HO.out.keep HB5.out).of_block fun b h1 h2 h3 => (HB6.out.block b (by omega)).trans ((HB5.out.block b (by omega)).symm)
      obtain ⟨lo6, hlo6⟩ : ∃ lo6, lo6 = w5.heap.size := ⟨_, rfl⟩
      obtain ⟨hi6, hhi6⟩ : ∃ hi6, hi6 = w6.heap.size := ⟨_, rfl⟩
      rw [← hlo6, ← hhi6] at O6
      have hlh : hi ≤ lo6 := by omega
      have hsz6 : hi6 ≤ w6.heap.size := by omega
      have hl6 : lo6 ≤ hi6 := by omega
      have HB7 : Hid (Below lo w3 w6) := HB.out.trans (HB6.out.mono (by omega))
      have HEND := Lib.hid (lwI_end W p k (d : Int) ns t (d + 1))
      clear hR HO HB HB5 HB6 O5 hlo6 hhi6 hg6 HFB HCUT HCU2
      go_loopw [18] (fun s wr => ∃ i : Nat, 1 ≤ i ∧ i ≤ t + 2 ∧ s = .int .i64 (i : Int) ∧ Hid (OwnP wr lo hi (.slice (some ⟨g, 0, none⟩) (d + 1) c4) (tab (d + 1) (lwI W p k (d : Int) ns t i))) ∧ Hid (OwnP wr lo6 hi6 (.slice (some ⟨g6, 0, none⟩) (t + 3) c6) (tab (t + 3) R)) ∧ hi6 ≤ wr.heap.size ∧ Hid (Below lo w3 wr)) (fun s _ => t + 4 - (intOf s).toNat)
      case atStart => exact ⟨1, by omega, by omega, rfl, HO1, O6, hsz6, HB7⟩
      case round =>
        clear HO1 O6 hsz6 HB7
        obtain ⟨i, hi1, hi2, rfl, HO, HR, hsz7, HB⟩ := hrel
        by_cases hlti : i < t + 2
        · obtain ⟨q, hq⟩ : ∃ q, q = t + 2 - i := ⟨_, rfl⟩
          obtain ⟨gr, cr, hcr, hne, hgl2, hgh2, hgz2, hx2, hf2, hset⟩ := HO.out.put (i := i) (j := q) (by omega)
          obtain ⟨gs, cs, hcs, -, -, -, -, hx3, -, -⟩ := HR.out.put (i := i) (j := q) (by omega)
          obtain ⟨ra, hra⟩ : ∃ ra, ra = d + 1 - i := ⟨_, rfl⟩
          obtain ⟨rb, hrb⟩ : ∃ rb, rb = t + 3 - i := ⟨_, rfl⟩
          rw [← hra] at hcr
          rw [← hrb] at hcs
          have hxb := HRB.out i q
          have hS := hset ((-(R i q / (d : Int))) % W)
          rw [HSTEP.out i q (by omega) (by omega) (by omega)] at hS
          have HS := Lib.hid hS
          obtain ⟨x, hx⟩ : ∃ x, R i q = x := ⟨_, rfl⟩
          rw [hx] at hx3 hxb HS
          have hq1 : (q : Int) < (ra : Int) := by omega
          have hq2 : (q : Int) < (rb : Int) := by omega
          have hq3 : (0 : Int) ≤ (q : Int) := by omega
          have hq4 : q < ra := by omega
          have hq5 : q < rb := by omega
          have hlt2 : (i : Int) < (t : Int) + 2 := by omega
          have hlt3 : (i : Int) < (d : Int) + 1 := by omega
          have hlt4 : (i : Int) < (t : Int) + 3 := by omega
          have hlt5 : (0 : Int) ≤ (i : Int) := by omega
          have v1 : IntKind.i64.wrap ((t : Int) + 2 - (i : Int)) = (q : Int) := by rw [show (t : Int) + 2 - (i : Int) = (q : Int) by omega]; exact IntWalk.i64_in _ (by omega)
          have hxd := Int.ediv_nonneg hxb.1 (show (0 : Int) ≤ (d : Int) by omega)
          have hxd2 : x / (d : Int) ≤ x := Int.ediv_le_self _ hxb.1
          have v2 : x.tdiv (d : Int) = x / (d : Int) := Int.tdiv_eq_ediv_of_nonneg hxb.1
          have v3 : IntKind.i64.wrap (x / (d : Int)) = x / (d : Int) := IntWalk.i64_in _ (by omega)
          have v4 : IntKind.i64.wrap (-(x / (d : Int))) = -(x / (d : Int)) := IntWalk.i64_in _ (by omega)
          have v5 : ((d : Int) == 0) = false := by simp; omega
          have v6 : ¬ (d : Int) = 0 := by omega
          clear hq hra hrb hx hset hS
          go_wp2_with (go_at_call 124; refine (l01Mod_any _ W _ (by omega) (by omega)).mono ?_; rintro en w8 ⟨rfl, n8, rfl⟩)
          go_roundw
          case rel =>
            refine ⟨i + 1, by omega, by omega, by go_num, HS.out, (HR.out.drewN n8).far (p := ⟨gr, q, none⟩) (.inl (by simp; omega)) _, by simpa [World.setCell] using hsz7, ?_⟩
            unfold Hid
            exact (below_drewN HB.out n8).setCell (p := ⟨gr, q, none⟩) (by simp; omega) _
          case measure => simp [intOf]; omega
        · have hit : i = t + 2 := by omega
          have hO := HO.out
          rw [hit, HEND.out] at hO
          have HO2 := Lib.hid hO
          have hd6 : decide ((i : Int) < (t : Int) + 2) = false := by simp; omega
          clear hO hit
          go_wp2
          go_roundw
          case rel => exact ⟨t + 1, by omega, by go_num, HO2, by omega, HB⟩
          case measure => simp [intOf]; omega
    · have htd : t = d - 1 := by omega
      have hO := HO.out
      rw [htd, rdT_zero m] at hO
      have HO1 := Lib.hid hO
      have hd6 : decide ((t : Int) + 2 ≤ (d : Int)) = false := by simp; omega
      have HFB := Lib.hid (lwF_bd (show 2 ≤ W by omega) p k (d : Int) ns (d - 1))
      have HEND : Hid (tab (d + 1) (rdT m (lwF W p k (d : Int) ns (d - 1)) (d + 1)) = zss) := by unfold Hid; rw [rdT_end]; exact HZ2.out
      have HSTEP : Hid (∀ r, r < d + 1 → (tab (d + 1) (rdT m (lwF W p k (d : Int) ns (d - 1)) r)).set r (rests m ((tab (d + 1) (rdT m (lwF W p k (d : Int) ns (d - 1)) r)).getD r [])) = tab (d + 1) (rdT m (lwF W p k (d : Int) ns (d - 1)) (r + 1))) := fun r hr => rdT_step m _ _ r hr
      have HNB : Hid (∀ r i j, 0 ≤ rdT m (lwF W p k (d : Int) ns (d - 1)) r i j ∧ rdT m (lwF W p k (d : Int) ns (d - 1)) r i j < W) := fun r i j => rdT_bd hm hmW HFB.out r i j
      generalize lwF W p k (d : Int) ns (d - 1) = F at *
      clear hO htd HO HFB
      go_wp2
      go_loopw [20] (fun s wr => ∃ (i hi2 : Nat), i ≤ d + 1 ∧ s = .int .i64 (i : Int) ∧ hi2 ≤ wr.heap.size ∧ g < hi2 ∧ Hid (OwnP wr lo hi2 (.slice (some ⟨g, 0, none⟩) (d + 1) c4) (tab (d + 1) (rdT m F i))) ∧ Hid (Below lo w3 wr)) (fun s _ => d + 4 - (intOf s).toNat)
      case atStart => exact ⟨0, hi, by omega, rfl, hsz, by omega, HO1, HB⟩
      case round =>
        clear HO1 HB
        obtain ⟨i, hi2, hile, rfl, hsz2, hgh, HO, HB⟩ := hrel
        by_cases hlti : i < d + 1
        · obtain ⟨g', cg, Ar, cr, eg, -, -, -, hcell, hfr, hown, -, -⟩ := HO.out.row (k := i) (by rw [length_tab]; omega)
          simp only [Value.slice.injEq, Option.some.injEq, Addr.mk.injEq, and_true] at eg
          obtain ⟨rfl, -, -⟩ := eg
          have hST := HSTEP.out i hlti
          have hYN : ∀ j, 0 ≤ ((tab (d + 1) (rdT m F i)).getD i []).getD j 0 ∧ ((tab (d + 1) (rdT m F i)).getD i []).getD j 0 < 1000000 := fun j => by
            have := Num2.tab (show 0 < W by omega) (d + 1) _ (HNB.out i) i j
            unfold co2 co at this
            omega
          have hYL : ((tab (d + 1) (rdT m F i)).getD i []).length = d + 1 - i := by rw [getD_tab _ hlti, length_lst]
          obtain ⟨y, hy⟩ : ∃ y, (tab (d + 1) (rdT m F i)).getD i [] = y := ⟨_, rfl⟩
          rw [hy] at hcell hown hST hYN hYL
          have HST := Lib.hid hST
          have HYN := Lib.hid hYN
          have HYL := Lib.hid hYL
          have HOY := Lib.hid hown
          have hyl : y.length ≤ 1000 := by omega
          have hlt2 : (i : Int) < (d : Int) + 1 := by omega
          have hlt5 : (0 : Int) ≤ (i : Int) := by omega
          have hgw : g < wr.heap.size := by omega
          clear hown hST hYN hYL hy
          go_wp2_with (go_at_call 125; refine (l02Rest_any m _ _ y (rests m y) lo HOY.out rfl (by omega) hm' HYN.out (by omega)).mono ?_; rintro en w9 ⟨A9, c9, rfl, o9, hb9⟩; have O9 := Lib.hid o9; have HB9 := Lib.hid hb9; have s9 : wr.heap.size ≤ w9.heap.size := hb9.size; have hc9 : w9.cell? ⟨g, i, none⟩ = _ := (hb9.cell (p := ⟨g, i, none⟩) hgw).trans hcell; have hf9 : w9.frozen? ⟨g, i, none⟩ = false := (World.frozen?_of_block (a := ⟨g, i, none⟩) (hb9.block g hgw)).trans hfr; clear o9 hb9)
          go_roundw
          case rel =>
            have hst := (HO.out.keep HB9.out).store (k := i) (by rw [length_tab]; exact hlti) (O9.out.mono (by omega)) (fun b hb => by have := (O9.out.block_ge hb).1; omega)
            rw [HST.out] at hst
            refine ⟨i + 1, w9.heap.size, by omega, by go_num, by simp [World.setCell], by omega, hst, ?_⟩
            unfold Hid
            exact (HB.out.trans (HB9.out.mono (by omega))).setCell (p := ⟨g, i, none⟩) hgl.1 _
          case measure => simp [intOf]; omega
        · have hid : i = d + 1 := by omega
          have hO := HO.out
          rw [hid, HEND.out] at hO
          have HO2 := Lib.hid hO
          have HL : Hid (zss.length = d + 1) := by unfold Hid; rw [← HEND.out, length_tab]
          have hd6 : decide ((i : Int) < (d : Int) + 1) = false := by simp; omega
          clear hO hid
          go_wp2
          go_ret
          exact ⟨some ⟨g, 0, none⟩, c4, by rw [HL.out]; rfl, by rw [HL.out]; exact HO2.out.mono (by have := HB3.out.size; omega) hsz2, HB3.out.trans (HB.out.mono (by have := HB3.out.size; omega))⟩

/-! ### TypicalFactor: the gap, the cocycle, the factor (reference) -/
set_option maxRecDepth 4000 in
set_option maxHeartbeats 2000000 in
theorem l07Gap_any (w : World) (m : Int) (v v2 : Value) (xss yss zss : List (List Int)) (n : Nat) (lo hi lo2 hi2 : Nat) (hv : OwnP w lo hi v xss) (ht : Tri n xss) (hq : Num2 m xss) (hv2 : OwnP w lo2 hi2 v2 yss) (ht2 : Tri n yss) (hq2 : Num2 m yss) (hm : 2 ≤ m) (hm' : m ≤ 10000) (hn1 : 1 ≤ n) (hn : n ≤ 1000) (hz : (tab n fun i j => (co2 yss i j + (m - 1) * co2 xss i j % m) % m) = zss) :
    Calls Try.prog 87 #[.int .i64 m, v, v2] w (NewP w zss) := by
  obtain ⟨A, cp, e0, -, -⟩ := hv.form
  rw [ht.1] at e0
  subst e0
  obtain ⟨A2, cp2, e2, -, -⟩ := hv2.form
  rw [ht2.1] at e2
  subst e2
  have HV := Lib.hid hv
  have HV2 := Lib.hid hv2
  have HT := Lib.hid ht
  have HT2 := Lib.hid ht2
  have HQ := Lib.hid hq
  have HQ2 := Lib.hid hq2
  have HZ : Hid ((tab n fun i j => (co2 yss i j + co2 (tab n fun i j => (m - 1) * co2 xss i j % m) i j) % m) = zss) := by
    unfold Hid
    rw [← hz]
    exact tab_congr fun i j hij => by rw [co2_tab _ hij]
  have HL : Hid (zss.length = n) := by unfold Hid; rw [← hz, length_tab]
  clear hv hv2 ht ht2 hq hq2 hz
  have v1 : IntKind.i64.wrap (m - 1) = m - 1 := IntWalk.i64_in _ (by omega)
  go_enter Try.func87, Try.ntmps87
  go_wp2_with (first | (go_at_call 120; refine (l03Scale_any _ m (m - 1) _ _ _ n _ _ HV.out HT.out HQ.out hm (by omega) (by omega) hn1 (by omega) rfl).mono ?_; rintro en w6 ⟨A6, c6, rfl, o6, hb6⟩; rw [length_tab] at *; have O6 := Lib.hid o6; have HB6 := Lib.hid hb6; have s6 := hb6.size; clear o6 hb6) | (go_at_call 119; refine (l03Add_any _ m _ _ _ _ _ n _ _ _ _ (HV2.out.keep HB6.out) HT2.out HQ2.out O6.out (Tri.tab n _) (mod_num2 (by omega) n _) hm (by omega) hn1 (by omega) HZ.out).mono ?_; rintro en w7 ⟨A7, c7, rfl, o7, hb7⟩))
  go_ret
  exact ⟨A7, c7, rfl, o7.mono s6 (Nat.le_refl _), HB6.out.trans (hb7.mono s6)⟩
/-- The table of C(d), rows below r done. -/
def cyF (m : Int) (d r i j : Nat) : Int := if 1 ≤ i ∧ i < r ∧ i < d ∧ i + j = d then cocC d i % m else 0
theorem cy_start (m : Int) (d n : Nat) : tab n (fun _ _ => (0 : Int)) = tab n (cyF m d 1) := tab_congr fun i j _ => by
  unfold cyF
  rw [if_neg (by omega)]
theorem cy_step (m : Int) (d r q n : Nat) (hr : 1 ≤ r) (hq : 1 ≤ q) (hrq : r + q = d) : tab n (upd2 (cyF m d r) r q (cocC d r % m)) = tab n (cyF m d (r + 1)) := tab_congr fun i j _ => by
  unfold upd2 cyF
  by_cases h : i = r ∧ j = q
  · obtain ⟨rfl, rfl⟩ := h
    rw [if_pos ⟨rfl, rfl⟩, if_pos (by omega)]
  · rw [if_neg h]
    by_cases h2 : 1 ≤ i ∧ i < r ∧ i < d ∧ i + j = d
    · rw [if_pos h2, if_pos (by omega)]
    · rw [if_neg h2, if_neg (by omega)]
theorem cy_at (m : Int) (d i : Nat) (hi : i ≤ d) : cyF m d d i (d - i) = baseG m d i := by
  unfold cyF baseG
  by_cases h : 1 ≤ i ∧ i < d
  · rw [if_pos h, if_pos (by omega)]
  · rw [if_neg h, if_neg (by omega)]
theorem cyF_bd {m : Int} (hm : 0 < m) (d r i j : Nat) : 0 ≤ cyF m d r i j ∧ cyF m d r i j < m := by
  unfold cyF
  split
  · exact ⟨Int.emod_nonneg _ (by omega), Int.emod_lt_of_pos _ hm⟩
  · omega
theorem setCell_block {w w' : World} (p : Addr) (u : Value) {b : Nat} (h : w'.heap[b]? = w.heap[b]?) : (w'.setCell p u).heap[b]? = (w.setCell p u).heap[b]? := by
  simp only [World.setCell, Array.getElem?_modify]
  rw [h]
set_option maxRecDepth 8000 in
set_option maxHeartbeats 4000000 in
theorem l07Cocycle_any (w : World) (m : Int) (d : Nat) (hd : 2 ≤ d) (hd' : d ≤ 9) (hl : 1 ≤ lazN (d : Int) d) (hm : 2 ≤ m) (hm' : m ≤ 10000) : Calls Try.prog 118 #[.int .i64 m, .int .i64 d] w (NewP w (tab (d + 1) (cyF m d d))) := by
  have hlb := lazN_bd (d : Int) (by omega) d
  obtain ⟨L, hL⟩ : ∃ L, lazN (d : Int) d = L := ⟨_, rfl⟩
  have HL := Lib.hid hL
  rw [hL] at hl hlb
  clear hL
  go_enter Try.func118, Try.ntmps118
  go_wp2_with (first | (go_at_call 121; refine (l03Zero_any _ _ (d + 1) (by omega) (by omega)).mono ?_; rintro e w4 ⟨A4, c4, rfl, o4, hb4⟩; rw [length_tab] at *; rw [cy_start m d (d + 1)] at o4; have O4 := Lib.hid o4; have HB4 := Lib.hid hb4; have s4 := hb4.size; clear o4 hb4) | (go_at_call 135; refine (l01Lazard_any _ _ (by omega) (by omega)).mono ?_; rintro e w5 ⟨rfl, hb5⟩; rw [Int.toNat_natCast, HL.out]; have O5 := Lib.hid (O4.out.keep hb5); have HB5 := Lib.hid (HB4.out.trans (hb5.mono s4)); have s5 := hb5.size; clear hb5))
  obtain ⟨g, c5, e5, -, -, hg, -⟩ := O5.out.source (d + 1) (length_tab _ _) (by omega)
  simp only [Value.slice.injEq, true_and] at e5
  obtain ⟨rfl, rfl⟩ := e5
  obtain ⟨lo, hlo⟩ : ∃ lo, lo = w.heap.size := ⟨_, rfl⟩
  obtain ⟨hi, hhi⟩ : ∃ hi, hi = w4.heap.size := ⟨_, rfl⟩
  rw [← hlo, ← hhi] at O5
  have hsz : hi ≤ w5.heap.size := by omega
  clear O4 HB4 hhi
  go_loopw [7] (fun s wr => ∃ i : Nat, 1 ≤ i ∧ i ≤ d ∧ s = .int .i64 (i : Int) ∧ Hid (OwnP wr lo hi (.slice (some ⟨g, 0, none⟩) (d + 1) c4) (tab (d + 1) (cyF m d i))) ∧ hi ≤ wr.heap.size ∧ Hid (Below w.heap.size w wr)) (fun s _ => d + 4 - (intOf s).toNat)
  case atStart => exact ⟨1, by omega, by omega, rfl, O5, hsz, HB5⟩
  case round =>
    clear O5 hsz HB5
    obtain ⟨i, hi1, hi2, rfl, HO, hsz, HB⟩ := hrel
    by_cases hlt : i < d
    · obtain ⟨q, hq⟩ : ∃ q, q = d - i := ⟨_, rfl⟩
      obtain ⟨gr, cr, hcr, hne, hgl2, hgh2, hgz2, hx2, hf2, hset⟩ := HO.out.put (i := i) (j := q) (by omega)
      obtain ⟨ra, hra⟩ : ∃ ra, ra = d + 1 - i := ⟨_, rfl⟩
      rw [← hra] at hcr
      have hS := hset (cocC d i % m)
      rw [cy_step m d i q (d + 1) (by omega) (by omega) (by omega)] at hS
      have hxb := binN_bd (n := (d : Int)) (k := (i : Int)) (by omega)
      have HCO : Hid (cocC d i = binN (d : Int) (i : Int) / L) := by unfold Hid cocC; rw [HL.out]
      rw [HCO.out] at hS
      have HBN := Lib.hid (show binN (d : Int) (i : Int) = binN (d : Int) (i : Int) from rfl)
      obtain ⟨x, hx⟩ : ∃ x, binN (d : Int) (i : Int) = x := ⟨_, rfl⟩
      have HX := Lib.hid hx
      rw [hx] at hxb hS
      have HS := Lib.hid hS
      have hxd := Int.ediv_nonneg hxb.1 (show (0 : Int) ≤ L by omega)
      have hxd2 : x / L ≤ x := Int.ediv_le_self _ hxb.1
      have v2 : x.tdiv L = x / L := Int.tdiv_eq_ediv_of_nonneg hxb.1
      have v3 : IntKind.i64.wrap (x / L) = x / L := IntWalk.i64_in _ (by omega)
      have v4 : (x / L).tmod m = x / L % m := Int.tmod_eq_emod_of_nonneg hxd
      have v5 : (L == 0) = false := by simp; omega
      have v6 : ¬ L = 0 := by omega
      have v7 : (m == 0) = false := by simp; omega
      have v8 : ¬ m = 0 := by omega
      have v1 : IntKind.i64.wrap ((d : Int) - (i : Int)) = (q : Int) := by rw [show (d : Int) - (i : Int) = (q : Int) by omega]; exact IntWalk.i64_in _ (by omega)
      have hq1 : (q : Int) < (ra : Int) := by omega
      have hq3 : (0 : Int) ≤ (q : Int) := by omega
      have hq4 : q < ra := by omega
      have hlt2 : (i : Int) < (d : Int) := by omega
      have hlt3 : (i : Int) < (d : Int) + 1 := by omega
      have hlt5 : (0 : Int) ≤ (i : Int) := by omega
      clear hq hra hset hS hx HBN
      go_wp2_with (go_at_call 136; refine (l01Binomial_int _ _ _ (by omega) (by omega) (by omega) (by omega)).mono ?_; rintro en w8 ⟨rfl, hb8⟩; rw [HX.out]; have HB8 := Lib.hid hb8; have s8 : wr.heap.size ≤ w8.heap.size := hb8.size; have hx8 := (hb8.cell (p := ⟨gr, q, none⟩) hgz2).trans hx2; have hf8 : w8.frozen? ⟨gr, q, none⟩ = false := (World.frozen?_of_block (a := ⟨gr, q, none⟩) (hb8.block gr hgz2)).trans hf2; clear hb8)
      go_roundw
      case rel =>
        refine ⟨i + 1, by omega, by omega, by go_num, HS.out.of_block fun b h1 h2 h3 => setCell_block _ _ (HB8.out.block b (by omega)), by simp [World.setCell]; omega, ?_⟩
        unfold Hid
        exact (HB.out.trans (HB8.out.mono (by have := HB.out.size; omega))).setCell (p := ⟨gr, q, none⟩) (by simp; omega) _
      case measure => simp [intOf]; omega
    · have hid : i = d := by omega
      have hO := HO.out
      rw [hid] at hO
      have HO2 := Lib.hid hO
      have hd6 : decide ((i : Int) < (d : Int)) = false := by simp; omega
      clear hO hid
      go_wp2
      go_ret
      exact ⟨some ⟨g, 0, none⟩, c4, by rw [length_tab]; rfl, by rw [length_tab]; exact HO2.out.mono (by omega) hsz, HB.out⟩
/-- The test of a factor at place i. -/
def ftB (m : Int) (d : Nat) (G : Nat → Nat → Int) (c : Int) (i : Nat) : Bool := c * baseG m d i % m == G i (d - i)
/-- All tests below i. -/
def ftA (m : Int) (d : Nat) (G : Nat → Nat → Int) (c : Int) : Nat → Bool
  | 0 => true
  | i + 1 => ftA m d G c i && ftB m d G c i
theorem ftA_iff (m : Int) (d : Nat) (G : Nat → Nat → Int) (c : Int) : ∀ i, ftA m d G c i = true ↔ ∀ j, j < i → c * baseG m d j % m = G j (d - j)
  | 0 => by simp [ftA]
  | i + 1 => by
    simp only [ftA, Bool.and_eq_true, ftA_iff m d G c i, ftB, beq_iff_eq]
    refine ⟨fun h j hj => ?_, fun h => ⟨fun j hj => h j (by omega), h i (by omega)⟩⟩
    by_cases e : j = i
    · rw [e]; exact h.2
    · exact h.1 j (by omega)
theorem ftA_mono (m : Int) (d : Nat) (G : Nat → Nat → Int) (c : Int) {i : Nat} (h : ftA m d G c i = false) : ∀ k, ftA m d G c (i + k) = false
  | 0 => h
  | k + 1 => by
    show (ftA m d G c (i + k) && _) = false
    rw [ftA_mono m d G c h k]
    rfl
set_option maxRecDepth 8000 in
set_option maxHeartbeats 4000000 in
theorem l07Factor_any (w : World) (m c0 : Int) (d : Nat) (v : Value) (xss : List (List Int)) (lo hi : Nat) (hv : OwnP w lo hi v xss) (ht : Tri (d + 1) xss) (hq : Num2 m xss) (hd : 2 ≤ d) (hd' : d ≤ 9) (hl : 1 ≤ lazN (d : Int) d) (hm : 2 ≤ m) (hm' : m ≤ 10000) (h0 : 0 ≤ c0) (h1 : c0 < m) (hf : ftA m d (co2 xss) c0 (d + 1) = true) (hn : ∀ c, 0 ≤ c → c < c0 → ftA m d (co2 xss) c (d + 1) = false) :
    Calls Try.prog 86 #[.int .i64 m, v] w fun e w' => e = .returned (.int .i64 c0) ∧ Below w.heap.size w w' := by
  obtain ⟨g, c, rfl, hc1, hc2, hg, hA⟩ := hv.source (d + 1) ht.1 (by omega)
  have HV := Lib.hid hv
  have HT := Lib.hid ht
  have HQ := Lib.hid hq
  have HF := Lib.hid hf
  have HN := Lib.hid hn
  clear hv ht hq hf hn hA
  have v1 : IntKind.i64.wrap ((d : Int) + 1 - 1) = (d : Int) := by rw [show (d : Int) + 1 - 1 = (d : Int) by omega]; exact IntWalk.i64_in _ (by omega)
  go_enter Try.func86, Try.ntmps86
  go_wp2_with (go_at_call 118; refine (l07Cocycle_any _ m d hd hd' hl hm hm').mono ?_; rintro e w4 ⟨A4, c4, rfl, o4, hb4⟩; rw [length_tab] at *; have O4 := Lib.hid o4; have HB4 := Lib.hid hb4; have s4 := hb4.size; clear o4 hb4)
  obtain ⟨g4, c5, e5, -, -, hg4, -⟩ := O4.out.source (d + 1) (length_tab _ _) (by omega)
  simp only [Value.slice.injEq, true_and] at e5
  obtain ⟨rfl, rfl⟩ := e5
  go_loopw [7] (fun s wr => ∃ c : Int, 0 ≤ c ∧ c ≤ c0 ∧ s = .int .i64 c ∧ Hid (Below w4.heap.size w4 wr)) (fun s _ => (m - intOf s).toNat)
  case atStart => exact ⟨0, by omega, by omega, rfl, Below.refl _ _⟩
  case round =>
    obtain ⟨cc, hc0, hcc, rfl, HB⟩ := hrel
    have hlt1 : cc < m := by omega
    go_wp2
    go_loopw [8, 9] (fun b s wr => ∃ i : Nat, i ≤ d + 1 ∧ s = .int .i64 (i : Int) ∧ b = .bool (ftA m d (co2 xss) cc i) ∧ Hid (Below w4.heap.size w4 wr)) (fun _ s _ => d + 4 - (intOf s).toNat)
    case atStart => exact ⟨0, by omega, rfl, rfl, HB⟩
    case round =>
      clear HB
      obtain ⟨i, hi, rfl, rfl, HB⟩ := hrel
      cases hft : ftA m d (co2 xss) cc i
      · have hne : cc ≠ c0 := by
          intro e
          have h2 := ftA_mono m d (co2 xss) cc hft (d + 1 - i)
          rw [show i + (d + 1 - i) = d + 1 by omega, e, HF.out] at h2
          exact Bool.noConfusion h2
        by_cases hlti : (i : Int) ≤ (d : Int)
        · go_wp2
          go_roundw
          case rel => exact ⟨cc + 1, by omega, by omega, by go_num, HB⟩
          case measure => simp [intOf]; omega
        · have hd6 : decide ((i : Int) ≤ (d : Int)) = false := by simp; omega
          go_wp2
          go_roundw
          case rel => exact ⟨cc + 1, by omega, by omega, by go_num, HB⟩
          case measure => simp [intOf]; omega
      · by_cases hlti : i < d + 1
        · have hlt2 : (i : Int) ≤ (d : Int) := by omega
          have hlt3 : (i : Int) < (d : Int) + 1 := by omega
          have hlt5 : (0 : Int) ≤ (i : Int) := by omega
          obtain ⟨q, hq⟩ : ∃ q, q = d - i := ⟨_, rfl⟩
          obtain ⟨gr, cr, hcr, -, -, -, hgz2, hx2, -, -⟩ := O4.out.put (i := i) (j := q) (by omega)
          obtain ⟨gx, gt, ct, e1, ht1, ht2, ht3, ht4, -⟩ := HV.out.at2 (i := i) (j := q) (by rw [HT.out.1]; exact hlti) (by rw [HT.out.2 i hlti]; omega)
          simp only [Option.some.injEq, Addr.mk.injEq] at e1
          obtain ⟨rfl, -⟩ := e1
          rw [HT.out.2 i hlti] at ht2
          obtain ⟨ra, hra⟩ : ∃ ra, ra = d + 1 - i := ⟨_, rfl⟩
          rw [← hra] at hcr ht2
          have HE := Lib.hid (cy_at m d i (by omega))
          rw [← hq] at HE
          rw [HE.out] at hx2
          have hyb := cyF_bd (show 0 < m by omega) d d i q
          rw [HE.out] at hyb
          have hfs : Hid (ftA m d (co2 xss) cc (i + 1) = (cc * baseG m d i % m == co2 xss i q)) := by
            unfold Hid
            show (ftA m d (co2 xss) cc i && ftB m d (co2 xss) cc i) = _
            rw [hft, hq]
            rfl
          obtain ⟨y, hy⟩ : ∃ y, baseG m d i = y := ⟨_, rfl⟩
          obtain ⟨x, hx⟩ : ∃ x, co2 xss i q = x := ⟨_, rfl⟩
          rw [hy] at hx2 hyb hfs
          rw [hx] at ht4 hfs
          have hk1 := (HB.out.cell (p := ⟨g4, i, none⟩) hg4).trans hcr
          have hk2 := (HB.out.cell (p := ⟨gr, q, none⟩) hgz2).trans hx2
          have hk3 := (HB.out.cell (p := ⟨g, i, none⟩) (by show g < _; omega)).trans ((HB4.out.cell (p := ⟨g, i, none⟩) hg).trans ht2)
          have hk4 := (HB.out.cell (p := ⟨gt, q, none⟩) (by show gt < _; omega)).trans ((HB4.out.cell (p := ⟨gt, q, none⟩) ht3).trans ht4)
          have v2 : IntKind.i64.wrap ((d : Int) - (i : Int)) = (q : Int) := by rw [show (d : Int) - (i : Int) = (q : Int) by omega]; exact IntWalk.i64_in _ (by omega)
          have hmb := mul_bd' hc0 (show cc ≤ 10000 by omega) hyb.1 (show y ≤ 10000 by omega)
          have v3 : IntKind.i64.wrap (cc * y) = cc * y := IntWalk.i64_in _ (by omega)
          have v4 : (cc * y).tmod m = cc * y % m := Int.tmod_eq_emod_of_nonneg hmb.1
          have v7 : (m == 0) = false := by simp; omega
          have v8 : ¬ m = 0 := by omega
          have hq1 : (q : Int) < (ra : Int) := by omega
          have hq3 : (0 : Int) ≤ (q : Int) := by omega
          have hq4 : q < ra := by omega
          clear hq hra hy hx hx2 hcr ht1 ht2 ht4 HE
          go_wp2
          go_quiet (fail)
          go_wp2
          go_roundw
          case rel => exact ⟨i + 1, by omega, by go_num, by rw [hfs.out], below_drewN HB.out _⟩
          case measure => simp [intOf]; omega
        · have hid : i = d + 1 := by omega
          rw [hid] at hft
          have hce : cc = c0 := by
            by_cases e : cc = c0
            · exact e
            · rw [HN.out cc hc0 (by omega)] at hft
              exact Bool.noConfusion hft
          have hd6 : decide ((i : Int) ≤ (d : Int)) = false := by simp; omega
          clear hft hid
          go_wp2
          refine bodyPost_ret (v := .int .i64 c0) (by simp [results, Try.results86, go_sem]; first | exact hce | skip) rfl ⟨rfl, HB4.out.trans (HB.out.mono s4)⟩

/-! ### TypicalFactor: both sides -/
def mostB (p : Int) : Int := if p = 2 then 3 else if p = 3 then 2 else 1
def TypicalFactorR (p m : Int) (xs : List Int) (k c : Int) : Int × Int :=
  if typC p m xs 1 ≠ 0 then (0, typC p m xs 1) else if inB k 1 xs.length = false then (0, 2) else if inB c 0 (m - 1) = false then (0, 2) else if mostB p < k then (0, 2) else ((-c) % m, 0)
theorem pk_laz {p k : Nat} (h : pkB p k = true) : 1 ≤ lazN ((p ^ k : Nat) : Int) (p ^ k) := by
  rcases pk_cases h with ⟨rfl, rfl⟩ | ⟨rfl, rfl⟩ | ⟨rfl, rfl⟩ | ⟨rfl, rfl⟩ | ⟨rfl, rfl⟩ | ⟨rfl, rfl⟩ | ⟨rfl, rfl⟩ <;> decide +kernel
theorem set_num {m : Int} {xs : List Int} (h : NumL m xs) (k : Nat) {y : Int} (hy : 0 ≤ y ∧ y < m) : NumL m (xs.set k y) := fun j => by
  have e := co_set xs k y j
  unfold co at e
  rw [e]
  split
  · exact hy
  · exact h j
theorem most_pow {q : Nat} (hq : q = 2 ∨ q = 3 ∨ q = 5 ∨ q = 7) : ∃ K : Nat, mostB (q : Int) = (K : Int) ∧ q ^ K ≤ 10 ∧ 10 < q ^ (K + 1) ∧ 1 ≤ K ∧ ∀ k : Nat, 1 ≤ k → k ≤ K → pkB q k = true := by
  rcases hq with rfl | rfl | rfl | rfl
  · refine ⟨3, by decide, by decide, by decide, by decide, fun k h1 h2 => ?_⟩
    obtain rfl | rfl | rfl : k = 1 ∨ k = 2 ∨ k = 3 := by omega
    all_goals rfl
  · refine ⟨2, by decide, by decide, by decide, by decide, fun k h1 h2 => ?_⟩
    obtain rfl | rfl : k = 1 ∨ k = 2 := by omega
    all_goals rfl
  · refine ⟨1, by decide, by decide, by decide, by decide, fun k h1 h2 => ?_⟩
    obtain rfl : k = 1 := by omega
    rfl
  · refine ⟨1, by decide, by decide, by decide, by decide, fun k h1 h2 => ?_⟩
    obtain rfl : k = 1 := by omega
    rfl
set_option maxRecDepth 8000 in
set_option maxHeartbeats 4000000 in
theorem sTypicalFactorR_any (w : World) (p m : Int) (v : Value) (xs : List Int) (k c : Int) (B : Nat) (hv : OwnI w B v xs) (hl : xs.length ≤ 2000000) : Calls Try.prog 42 #[.int .i64 p, .int .i64 m, v, .int .i64 k, .int .i64 c] w (RetII w (TypicalFactorR p m xs k c)) := by
  obtain ⟨A, cp, e0⟩ := hv.form
  subst e0
  have HV := Lib.hid hv
  clear hv
  by_cases hc : typC p m xs 1 = 0
  · obtain ⟨hm, hp, h1, h3, hn⟩ := typC_zero hc
    have HC := Lib.hid hc
    cases hk : inB k 1 (xs.length : Int)
    · have HF : TypicalFactorR p m xs k c = (0, 2) := by simp [TypicalFactorR, hc, hk]
      rw [HF]
      have HK := Lib.hid hk
      clear HF hc hk hn hp
      go_enter Try.func42, Try.ntmps42
      go_wp2_with (first | (go_at_call 70; refine (l09Code_any _ m 1 _ _ xs B HV.out hl ⟨by omega, by omega⟩).mono ?_; rintro e w1 ⟨rfl, hb1⟩; rw [HC.out]) | (go_at_call 57; refine (l01In_any _ _ _ _).mono ?_; rintro e w2 ⟨rfl, k2, rfl⟩; rw [HK.out]))
      go_ret2
      exact ⟨rfl, below_drewN hb1 _⟩
    · have HK := Lib.hid hk
      have hkb := inB_true.1 hk
      cases hcb : inB c 0 (m - 1)
      · have HF : TypicalFactorR p m xs k c = (0, 2) := by simp [TypicalFactorR, hc, hk, hcb]
        rw [HF]
        have HCB := Lib.hid hcb
        have v1 : IntKind.i64.wrap (m - 1) = m - 1 := IntWalk.i64_in _ (by omega)
        clear HF hc hk hn hp hcb
        go_enter Try.func42, Try.ntmps42
        go_wp2_with (first | (go_at_call 70; refine (l09Code_any _ m 1 _ _ xs B HV.out hl ⟨by omega, by omega⟩).mono ?_; rintro e w1 ⟨rfl, hb1⟩; rw [HC.out]) | (go_at_call 57; refine (l01In_any _ _ _ _).mono ?_; rintro e w2 ⟨rfl, k2, rfl⟩; first | rw [HK.out] | rw [HCB.out]))
        go_ret2
        exact ⟨rfl, by first | exact below_drewN hb1 _ | exact below_drewN (below_drewN hb1 _) _⟩
      · have HCB := Lib.hid hcb
        have hcr := inB_true.1 hcb
        obtain ⟨q, rfl⟩ : ∃ q : Nat, p = (q : Int) := ⟨p.toNat, by omega⟩
        obtain ⟨K, hK, hK1, hK2, hK3, hK4⟩ := most_pow (show q = 2 ∨ q = 3 ∨ q = 5 ∨ q = 7 by omega)
        have HK1 := Lib.hid hK1
        have HK2 := Lib.hid hK2
        have hq27 : 2 ≤ q ∧ q ≤ 7 := by omega
        have v1 : IntKind.i64.wrap (m - 1) = m - 1 := IntWalk.i64_in _ (by omega)
        by_cases hkk : (K : Int) < k
        · have HF : TypicalFactorR (q : Int) m xs k c = (0, 2) := by simp [TypicalFactorR, hc, hk, hcb, hK, hkk]
          rw [HF]
          clear HF hc hk hn hp hcb hK1 hK2 hK4
          go_enter Try.func42, Try.ntmps42
          go_wp2_with (first | (go_at_call 70; refine (l09Code_any _ m 1 _ _ xs B HV.out hl ⟨by omega, by omega⟩).mono ?_; rintro e w1 ⟨rfl, hb1⟩; rw [HC.out]) | (go_at_call 57; refine (l01In_any _ _ _ _).mono ?_; rintro e w2 ⟨rfl, k2, rfl⟩; first | rw [HK.out] | rw [HCB.out]) | (go_at_call 84; refine (l09Most_any _ q 10 K hq27.1 hq27.2 (by omega) HK1.out HK2.out).mono ?_; rintro e w3 ⟨rfl, hb3⟩))
          go_ret2
          exact ⟨rfl, hb1.trans (Below.mono (w := w1) ⟨hb3.os, hb3.tape, hb3.output, hb3.size, hb3.block⟩ hb1.size)⟩
        · obtain ⟨kn, rfl⟩ : ∃ kn : Nat, k = (kn : Int) := ⟨k.toNat, by omega⟩
          have hkn1 : 1 ≤ kn := by omega
          have hkn2 : kn ≤ xs.length := by omega
          have hpk := hK4 kn hkn1 (by omega)
          have hp2 := pk_two hpk
          obtain ⟨d, hd⟩ : ∃ d, q ^ kn = d := ⟨_, rfl⟩
          have HF : TypicalFactorR (q : Int) m xs (kn : Int) c = ((-c) % m, 0) := by simp [TypicalFactorR, hc, hk, hcb, hK, hkk]
          rw [HF]
          obtain ⟨ys, hys⟩ : ∃ ys, xs.set (kn - 1) ((co xs (kn - 1) + c) % m) = ys := ⟨_, rfl⟩
          have hyl : ys.length = xs.length := by rw [← hys, List.length_set]
          have hyn : NumL m ys := by rw [← hys]; exact set_num hn _ ⟨Int.emod_nonneg _ (by omega), Int.emod_lt_of_pos _ (by omega)⟩
          have hga : ∀ i, i ≤ d → gapG q m kn xs ys i (d - i) = ((-c) % m) * baseG m d i % m := fun i hi => by
            rw [← hd, ← hys]
            exact gap_at hpk hm.1 hm.2 h3 hkn2 i (by omega)
          have hgo : ∀ c', 0 ≤ c' → c' < m → (∀ i, i ≤ d → c' * baseG m d i % m = gapG q m kn xs ys i (d - i)) → c' = (-c) % m := fun c' a1 a2 a3 => by
            rw [← hd, ← hys] at a3
            exact gap_only hpk hm.1 hm.2 h3 hkn2 c' a1 a2 a3
          have hlz := pk_laz hpk
          rw [hd] at hp2 hlz
          have HPK := Lib.hid hpk
          have HDD := Lib.hid hd
          have HYS := Lib.hid hys
          have HN := Lib.hid hn
          have HYN := Lib.hid hyn
          have HYL := Lib.hid hyl
          have HLZ := Lib.hid hlz
          have hcm := (⟨Int.emod_nonneg _ (by omega), Int.emod_lt_of_pos _ (by omega)⟩ : 0 ≤ (-c) % m ∧ (-c) % m < m)
          have HFT : Hid (ftA m d (co2 (tab (d + 1) (gapG q m kn xs ys))) ((-c) % m) (d + 1) = true) := (ftA_iff _ _ _ _ _).2 fun j hj => by rw [co2_tab _ (by omega)]; exact (hga j (by omega)).symm
          have HFN : Hid (∀ c', 0 ≤ c' → c' < (-c) % m → ftA m d (co2 (tab (d + 1) (gapG q m kn xs ys))) c' (d + 1) = false) := fun c' a1 a2 => by
            cases hb : ftA m d (co2 (tab (d + 1) (gapG q m kn xs ys))) c' (d + 1)
            · rfl
            · have := hgo c' a1 (by omega) fun i hi => by
                have := (ftA_iff _ _ _ _ _).1 hb i (by omega)
                rwa [co2_tab _ (by omega)] at this
              omega
          have HLB : Hid (∀ zs i j, 0 ≤ lawG q m kn zs i j ∧ lawG q m kn zs i j < m) := fun zs i j => ⟨Int.emod_nonneg _ (by omega), Int.emod_lt_of_pos _ (by omega)⟩
          have HGP : Hid ((tab (d + 1) fun i j => (co2 (tab (d + 1) (lawG q m kn ys)) i j + (m - 1) * co2 (tab (d + 1) (lawG q m kn xs)) i j % m) % m) = tab (d + 1) (gapG q m kn xs ys)) := tab_congr fun i j hij => by
            rw [co2_tab _ hij, co2_tab _ hij]
            rfl
          have HGN : Hid (Num2 m (tab (d + 1) (gapG q m kn xs ys))) := Num2.tab (by omega) _ _ fun i j => ⟨Int.emod_nonneg _ (by omega), Int.emod_lt_of_pos _ (by omega)⟩
          have hd6 : decide ((K : Int) < (kn : Int)) = false := by simp; omega
          clear HF hc hk hn hp hcb hK1 hK2 hK4 hpk hd hys hyn hga hgo hlz hyl
          go_enter Try.func42, Try.ntmps42
          go_wp2_with (first | (go_at_call 70; refine (l09Code_any _ m 1 _ _ xs B HV.out hl ⟨by omega, by omega⟩).mono ?_; rintro e w1 ⟨rfl, hb1⟩; rw [HC.out]; have HB1 := Lib.hid hb1; clear hb1) | (go_at_call 57; refine (l01In_any _ _ _ _).mono ?_; rintro e w2 ⟨rfl, k2, rfl⟩; first | rw [HK.out] | rw [HCB.out]) | (go_at_call 84; refine (l09Most_any _ q 10 K hq27.1 hq27.2 (by omega) HK1.out HK2.out).mono ?_; rintro e w3 ⟨rfl, hb3⟩; have hb3' : Below w1.heap.size w1 w3 := ⟨hb3.os, hb3.tape, hb3.output, hb3.size, hb3.block⟩; have HB3 := Lib.hid (HB1.out.trans (hb3'.mono HB1.out.size)); have HXS3 := Lib.hid (HV.out.keep HB3.out (Nat.le_refl _)); clear hb3 hb3') | (go_at_call 85; refine (l01Own_all _ _ xs HXS3.out.rd (by omega)).mono ?_; rintro e w4 ⟨A4, c4, rfl, o4, hb4⟩; have O4 := Lib.hid o4; have HB4 := Lib.hid (HB3.out.trans (hb4.mono HB3.out.size)); have s4 := hb4.size; clear o4 hb4))
          rcases O4.out.row with ⟨-, e2⟩ | ⟨g4, c5, e5, hg4, hrow⟩
          · rw [e2] at h1; simp at h1
          simp only [Value.slice.injEq, true_and] at e5
          obtain ⟨rfl, rfl⟩ := e5
          have HROW := Lib.hid hrow
          have hgz4 := hrow.lt
          clear hrow O4
          go_loopw [15, 17] (fun s r wr => ∃ i P : Nat, i ≤ kn ∧ Hid (P = q ^ i) ∧ P ≤ d ∧ s = .int .i64 (P : Int) ∧ r = .int .i64 (i : Int) ∧ ∃ z, wr = w4.drewN z) (fun _ r _ => kn + 1 - (intOf r).toNat)
          case atStart => exact ⟨0, 1, Nat.zero_le _, by unfold Hid; simp, by omega, rfl, rfl, 0, rfl⟩
          case round =>
            obtain ⟨i, P, hi, HP, hP, rfl, rfl, z, rfl⟩ := hrel
            by_cases hlt : i < kn
            · have hlt1 : (i : Int) < (kn : Int) := by omega
              have hle : P * q ≤ d := by
                rw [HP.out, ← HDD.out, ← Nat.pow_succ]
                exact Nat.pow_le_pow_right (by omega) (by omega)
              have HP2 : Hid (P * q = q ^ (i + 1)) := by unfold Hid; rw [HP.out, Nat.pow_succ]
              obtain ⟨Q, hQ⟩ : ∃ Q, P * q = Q := ⟨_, rfl⟩
              have hpq : (P : Int) * (q : Int) = (Q : Int) := by rw [← hQ]; simp
              rw [hQ] at hle HP2
              have v2 : IntKind.i64.wrap ((P : Int) * (q : Int)) = (Q : Int) := by rw [hpq]; exact IntWalk.i64_in _ (by omega)
              clear hQ hpq
              go_wp2
              go_roundw
              case rel => exact ⟨i + 1, Q, by omega, HP2, hle, by first | rfl | go_num, by go_num, _, rfl⟩
              case measure => simp [intOf]; omega
            · have hik : i = kn := by omega
              have HPD : Hid (P = d) := by unfold Hid; rw [HP.out, hik, HDD.out]
              have hd7 : decide ((i : Int) < (kn : Int)) = false := by simp; omega
              obtain ⟨j1, hj1⟩ : ∃ j1, j1 = kn - 1 := ⟨_, rfl⟩
              have hcx := HROW.out.cell (k := j1) (by omega)
              have hfx := HROW.out.free j1
              have hnx := HN.out j1
              have hrs := HROW.out.set_ j1 ((co xs j1 + c) % m)
              have hys := HYS.out
              rw [← hj1] at hys
              rw [hys] at hrs
              have HRS := Lib.hid hrs
              obtain ⟨x, hx⟩ : ∃ x, xs.getD j1 0 = x := ⟨_, rfl⟩
              rw [show co xs j1 = x from hx] at HRS
              rw [hx] at hcx hnx
              have v2 : IntKind.i64.wrap ((kn : Int) - 1) = (j1 : Int) := by rw [show (kn : Int) - 1 = (j1 : Int) by omega]; exact IntWalk.i64_in _ (by omega)
              have v3 : IntKind.i64.wrap (x + c) = x + c := IntWalk.i64_in _ (by omega)
              have v4 : (x + c).tmod m = (x + c) % m := Int.tmod_eq_emod_of_nonneg (by omega)
              have v5 : (m == 0) = false := by simp; omega
              have v6 : ¬ m = 0 := by omega
              have hj2 : (j1 : Int) < (xs.length : Int) := by omega
              have hj3 : (0 : Int) ≤ (j1 : Int) := by omega
              have hj4 : j1 < xs.length := by omega
              clear hx hrs hys hj1 hik
              go_wp2_with (fail)
              have hpd := HPD.out
              subst hpd
              have HBQ0 : ∀ a, Below w.heap.size w ((w4.drewN a).setCell ⟨g4, j1, none⟩ (.int .i64 ((x + c) % m))) := fun a => (below_drewN HB4.out a).setCell (p := ⟨g4, j1, none⟩) (by have := HB3.out.size; show _ ≤ g4; omega) _
              have HRW0 : ∀ a, RowI ((w4.drewN a).setCell ⟨g4, j1, none⟩ (.int .i64 ((x + c) % m))) g4 c4 ys := fun a => HRS.out
              generalize hwq : World.setCell _ ⟨g4, j1, none⟩ _ = wq
              have HBQ : Hid (Below w.heap.size w wq) := by unfold Hid; rw [← hwq]; exact HBQ0 _
              have HYW : Hid (OwnI wq w3.heap.size (.slice (some ⟨g4, 0, none⟩) xs.length c4) ys) := by unfold Hid; rw [← hwq]; exact (HRW0 _).own' hg4 HYL.out
              have HXW := Lib.hid (HV.out.keep HBQ.out (Nat.le_refl _))
              clear HBQ0 HRW0 hwq HRS HROW hcx hfx
              refine (l09Law_any _ q kn P B m _ xs _ HXW.out h3 HN.out HPK.out HDD.out hm.1 hm.2 rfl).mono ?_
              rintro e w5 ⟨A5, c5, rfl, o5, hb5⟩
              rw [length_tab] at *
              have O5 := Lib.hid o5
              have HB5 := Lib.hid (HBQ.out.trans (hb5.mono HBQ.out.size))
              have HYW5 := Lib.hid (HYW.out.keep hb5 (Nat.le_refl _))
              have s5 := hb5.size
              clear o5 hb5 HYW
              go_wp2_with (first | (go_at_call 88; refine (l09Law_any _ q kn P _ m _ ys _ HYW5.out (by rw [HYL.out]; exact h3) HYN.out HPK.out HDD.out hm.1 hm.2 rfl).mono ?_; rintro e w6 ⟨A6, c6, rfl, o6, hb6⟩; rw [length_tab] at *; have O6 := Lib.hid o6; have HB6 := Lib.hid (HB5.out.trans (hb6.mono HB5.out.size)); have O56 := Lib.hid (O5.out.keep hb6); have s6 := hb6.size; clear o6 hb6) | (go_at_call 87; refine (l07Gap_any _ m _ _ _ _ _ (P + 1) _ _ _ _ O56.out (Tri.tab _ _) (co2_tab_num3 (by omega) _ _ (HLB.out xs)) O6.out (Tri.tab _ _) (co2_tab_num3 (by omega) _ _ (HLB.out ys)) hm.1 hm.2 (by omega) (by omega) HGP.out).mono ?_; rintro e w7 ⟨A7, c7, rfl, o7, hb7⟩; rw [length_tab] at *; have O7 := Lib.hid o7; have HB7 := Lib.hid (HB6.out.trans (hb7.mono HB6.out.size)); have s7 := hb7.size; clear o7 hb7) | (go_at_call 86; refine (l07Factor_any _ m ((-c) % m) P _ _ _ _ O7.out (Tri.tab _ _) HGN.out (by omega) (by omega) HLZ.out hm.1 hm.2 hcm.1 hcm.2 HFT.out HFN.out).mono ?_; rintro e w8 ⟨rfl, hb8⟩))
              go_ret2
              exact ⟨rfl, HB7.out.trans (hb8.mono HB7.out.size)⟩
  · have HF : TypicalFactorR p m xs k c = (0, typC p m xs 1) := by simp [TypicalFactorR, hc]
    rw [HF]
    obtain ⟨C, hC⟩ : ∃ C, typC p m xs 1 = C := ⟨_, rfl⟩
    have HC := Lib.hid hC
    rw [hC] at hc ⊢
    have hc1 : (C == 0) = false := by simpa using hc
    clear HF hC
    go_enter Try.func42, Try.ntmps42
    go_wp2_with (first | (go_at_call 70; refine (l09Code_any _ m 1 _ _ xs B HV.out hl ⟨by omega, by omega⟩).mono ?_; rintro e w1 ⟨rfl, hb1⟩; rw [HC.out]))
    go_ret2
    exact ⟨rfl, hb1⟩
/-! ### powersUpTo: a list of ints -/
def OwnN (w : World) (B : Nat) (v : Value) (xs : List Int) : Prop := w.ownsRow B 3 1 v xs.length (xs.map (Value.int .i64))
theorem T.infoInt : (Try.prog.info? 3).map (fun i => (i.zero, i.size, i.bytes)) = some (some (.int .i64 0), 1, 8) := by kernel_rfl
theorem OwnN.lit0 (w : World) : OwnN (w.alloc (.cells #[] 3)) w.heap.size (.slice (some ⟨w.heap.size, 0, none⟩) 0 0) [] := World.ownsRow_lit w #[] 0 (Nat.le_refl _) (by unfold maxLen; omega) rfl
theorem OwnN.block_ge {w : World} {B g : Nat} {v : Value} {xs : List Int} (h : OwnN w B v xs) (hg : v.ownBlock = some g) : B ≤ g := (ownsRow_block_ge h hg).1
theorem wpAppendN {w : World} {ops : Array Oper} {rest : List Oper} {o : Oper} {a : Act} {Q : Exit → Act → World → Prop} (s x : Operand) (B : Nat) (v : Value) (xs : List Int) (y : Int)
    (hgd : o.guard = none) (ho : o.op = .call { callee := .builtin .append, args := #[s, x], argTypes := #[72, 72] })
    (hs : a.eval s = v) (hx : a.eval x = .slice (some ⟨w.heap.size, 0, none⟩) 1 1) (hv : OwnN w B v xs) (hl : xs.length ≤ 1000000000000) (hB : B ≤ w.heap.size)
    (h : ∀ v' w', OwnN w' B v' (xs ++ [y]) → w.grownBy w' v.ownBlock → wpList Try.prog ops Q rest (a.put o.dst v') w') :
    wpList Try.prog ops Q (o :: rest) a (w.alloc (.cells #[.int .i64 y] 3)) := by
  obtain ⟨i0, hi, hz0, hz1, hz2⟩ := info_parts T.infoInt
  refine wpList_append_own _ hgd s x 72 ho B 3 i0 (.int .i64 0) 1 8 Try.underlying72 hi hz0 hz1 hz2 rfl (by decide) v xs.length (xs.map (Value.int .i64)) hs (World.ownsRow.alloc hv _) ⟨w.heap.size, 0, none⟩ 1 1 [.int .i64 y] hx rfl (cell_one_new _ _ _) (fun u hu => by simp at hu; subst hu; rfl) (by unfold maxLen; omega) (by omega) (by simp; omega) ?_
  intro v' w' h1 h2 _
  refine h v' w' ?_ ⟨h2.os, h2.tape, h2.output, by have := h2.size; simp at this; omega, fun k hk hne => (h2.block k (by simp; omega) hne).trans (Below.heap_alloc _ _ _ hk)⟩
  unfold OwnN
  simpa using h1
theorem OwnN.form {w : World} {B : Nat} {v : Value} {xs : List Int} (h : OwnN w B v xs) : ∃ A c, v = .slice A xs.length c := by
  rcases h.2 with ⟨rfl, h0⟩ | ⟨g, cap, cur, e0, _⟩
  · rw [h0]; exact ⟨_, _, rfl⟩
  · exact ⟨_, _, e0⟩
set_option maxHeartbeats 1000000 in
theorem powersUpTo_any (w : World) (p k : Nat) (hp : 2 ≤ p) (hp' : p ≤ 7) (h1 : p ^ k ≤ 10) (h2 : 10 < p ^ (k + 1)) : Calls Try.prog 89 #[.int .i64 p, .int .i64 10] w fun e w' => ∃ A c, e = .returned (.slice A k c) ∧ Below w.heap.size w w' := by
  have hk1 : k < 11 := by
    have := Nat.lt_pow_self (n := k) (show 1 < p by omega)
    omega
  have H1 := Lib.hid h1
  have H2 := Lib.hid h2
  clear h1 h2
  have v0 : IntKind.i64.wrap (p : Int) = (p : Int) := IntWalk.i64_in _ (by omega)
  go_enter Try.func89, Try.ntmps89
  go_wp2
  go_loopw [5, 6] (fun s q wr => ∃ (j P c : Nat) (A : Option Addr) (xs : List Int), j ≤ k ∧ q = .int .i64 P ∧ s = .slice A j c ∧ Hid (P = p ^ (j + 1)) ∧ P ≤ 70 ∧ Hid (xs.length = j) ∧ Hid (OwnN wr w.heap.size (.slice A j c) xs) ∧ Hid (Below w.heap.size w wr)) (fun _ q _ => 71 - (intOf q).toNat)
  case atStart => exact ⟨0, p, 0, _, [], Nat.zero_le _, rfl, rfl, by unfold Hid; simp, by omega, rfl, OwnN.lit0 w, by unfold Hid; (repeat (first | assumption | exact Below.refl _ _ | refine Below.alloc ?_ (by first | omega | (simp; done) | (simp; omega)) _ | refine Below.setCell ?_ (by first | omega | (simp; done) | (simp; omega)) _ | refine below_drewN ?_ _))⟩
  case round =>
    obtain ⟨j, P, c, A, xs, hj, rfl, rfl, HP, hP, HX, HO, HB⟩ := hrel
    have hz := HB.out.size
    have hp0 : 0 < P := by have := HP.out; have : 0 < p ^ (j + 1) := Nat.pow_pos (by omega); omega
    by_cases hlt : j < k
    · have hle : P ≤ 10 := by
        rw [HP.out]
        exact Nat.le_trans (Nat.pow_le_pow_right (by omega) (show j + 1 ≤ k by omega)) H1.out
      have hle1 : (P : Int) ≤ 10 := by omega
      obtain ⟨R, hR⟩ : ∃ R, P * p = R := ⟨_, rfl⟩
      have hR2 : R ≤ 70 := by
        rw [← hR]
        exact Nat.mul_le_mul hle hp'
      have hR3 : P < R := by
        rw [← hR]
        have := Nat.mul_le_mul (Nat.le_refl P) hp
        omega
      have HR : Hid (R = p ^ (j + 2)) := by unfold Hid; rw [← hR, HP.out, ← Nat.pow_succ]
      have hc : (P : Int) * (p : Int) = (R : Int) := by rw [← hR]; simp
      have v1 : IntKind.i64.wrap ((P : Int) * (p : Int)) = (R : Int) := by rw [hc]; exact IntWalk.i64_in _ (by omega)
      clear hR hc
      go_wp2_with (at_builtin; refine wpAppendN _ _ w.heap.size (.slice A j c) xs (P : Int) (by rfl) (by rfl) (by rfl) (by rfl) HO.out (by rw [HX.out]; omega) hz ?_; intro v' w1 hown1 hgrow)
      obtain ⟨A2, c2, e2⟩ := hown1.form
      subst e2
      have HL : Hid ((xs ++ [(P : Int)]).length = j + 1) := by unfold Hid; simp [HX.out]
      rw [HL.out] at hown1
      go_roundw
      case rel =>
        refine ⟨j + 1, R, c2, A2, xs ++ [(P : Int)], by omega, rfl, by rw [HL.out], HR, hR2, HL, hown1, ?_⟩
        unfold Hid
        exact HB.out.grown hgrow hz fun b hb => HO.out.block_ge hb
      case measure => simp [intOf] <;> omega
    · have hjk : j = k := by omega
      have hgt : 10 < P := by rw [HP.out, hjk]; exact H2.out
      have hgt1 : ¬ (P : Int) ≤ 10 := by omega
      have hd6 : decide ((P : Int) ≤ 10) = false := by simp; omega
      subst hjk
      go_wp2
      go_ret
      exact ⟨⟨A, c, rfl⟩, HB.out⟩
set_option maxRecDepth 8000 in
set_option maxHeartbeats 4000000 in
theorem iTypicalFactorR_any (w : World) (p m : Int) (v : Value) (xs : List Int) (k c : Int) (B : Nat) (hv : OwnI w B v xs) (hl : xs.length ≤ 2000000) : Calls Try.prog 43 #[.int .i64 p, .int .i64 m, v, .int .i64 k, .int .i64 c] w (RetII w (TypicalFactorR p m xs k c)) := by
  obtain ⟨A, cp, e0⟩ := hv.form
  subst e0
  have HV := Lib.hid hv
  clear hv
  by_cases hc : typC p m xs 1 = 0
  · obtain ⟨hm, hp, h1, h3, hn⟩ := typC_zero hc
    have HC := Lib.hid hc
    have hmb : isModB m = true := inB_true.2 hm
    have HMB := Lib.hid hmb
    clear hmb
    cases hcb : inB c 0 (m - 1)
    · have HF : TypicalFactorR p m xs k c = (0, 2) := by simp [TypicalFactorR, hc, hcb]
      rw [HF]
      have HCB : Hid (isNumB c m = false) := hcb
      clear HF hc hn hp hcb
      go_enter Try.func43, Try.ntmps43
      go_wp2_with (first | (go_at_call 72; refine (typed_any _ m 1 _ _ xs B HV.out hl ⟨by omega, by omega⟩).mono ?_; rintro e w1 ⟨rfl, hb1⟩; rw [HC.out]; have HB1 := Lib.hid hb1; clear hb1) | (go_at_call 59; refine (isNumber_any _ _ _ HMB.out).mono ?_; rintro e w2 ⟨rfl, k2, rfl⟩; rw [HCB.out]))
      go_ret2
      exact ⟨rfl, below_drewN HB1.out _⟩
    · have hcr := inB_true.1 hcb
      have HCB : Hid (isNumB c m = true) := hcb
      cases hk : inB k 1 (xs.length : Int)
      · have HF : TypicalFactorR p m xs k c = (0, 2) := by simp [TypicalFactorR, hc, hk]
        rw [HF]
        have HK := Lib.hid hk
        clear HF hc hk hn hp hcb
        go_enter Try.func43, Try.ntmps43
        go_wp2_with (first | (go_at_call 72; refine (typed_any _ m 1 _ _ xs B HV.out hl ⟨by omega, by omega⟩).mono ?_; rintro e w1 ⟨rfl, hb1⟩; rw [HC.out]; have HB1 := Lib.hid hb1; clear hb1) | (go_at_call 59; refine (isNumber_any _ _ _ HMB.out).mono ?_; rintro e w2 ⟨rfl, k2, rfl⟩; rw [HCB.out]) | (go_at_call 62; refine (in_any _ _ _ _).mono ?_; rintro e w3 ⟨rfl, k3, rfl⟩; rw [HK.out]))
        go_ret2
        exact ⟨rfl, by first | exact below_drewN HB1.out _ | exact below_drewN (below_drewN HB1.out _) _⟩
      · have HK := Lib.hid hk
        have hkb := inB_true.1 hk
        obtain ⟨q, rfl⟩ : ∃ q : Nat, p = (q : Int) := ⟨p.toNat, by omega⟩
        obtain ⟨K, hK, hK1, hK2, hK3, -⟩ := most_pow (show q = 2 ∨ q = 3 ∨ q = 5 ∨ q = 7 by omega)
        have HK1 := Lib.hid hK1
        have HK2 := Lib.hid hK2
        have hq27 : 2 ≤ q ∧ q ≤ 7 := by omega
        by_cases hkk : (K : Int) < k
        · have HF : TypicalFactorR (q : Int) m xs k c = (0, 2) := by simp [TypicalFactorR, hc, hk, hcb, hK, hkk]
          rw [HF]
          clear HF hc hk hn hp hcb hK1 hK2
          go_enter Try.func43, Try.ntmps43
          go_wp2_with (first | (go_at_call 72; refine (typed_any _ m 1 _ _ xs B HV.out hl ⟨by omega, by omega⟩).mono ?_; rintro e w1 ⟨rfl, hb1⟩; rw [HC.out]; have HB1 := Lib.hid hb1; clear hb1) | (go_at_call 59; refine (isNumber_any _ _ _ HMB.out).mono ?_; rintro e w2 ⟨rfl, k2, rfl⟩; rw [HCB.out]) | (go_at_call 62; refine (in_any _ _ _ _).mono ?_; rintro e w3 ⟨rfl, k3, rfl⟩; rw [HK.out]) | (go_at_call 89; refine (powersUpTo_any _ q K hq27.1 hq27.2 HK1.out HK2.out).mono ?_; rintro e w4 ⟨A4, c4, rfl, hb4⟩; have hb4' : Below w1.heap.size w1 w4 := ⟨hb4.os, hb4.tape, hb4.output, hb4.size, hb4.block⟩; have HB4 := Lib.hid (HB1.out.trans (hb4'.mono HB1.out.size)); clear hb4 hb4'))
          go_ret2
          exact ⟨rfl, HB4.out⟩
        · have HF : TypicalFactorR (q : Int) m xs k c = ((-c) % m, 0) := by simp [TypicalFactorR, hc, hk, hcb, hK, hkk]
          rw [HF]
          have hd6 : decide ((K : Int) < k) = false := by simp; omega
          have v1 : IntKind.i64.wrap (-c) = -c := IntWalk.i64_in _ (by omega)
          clear HF hc hk hn hp hcb hK1 hK2
          go_enter Try.func43, Try.ntmps43
          go_wp2_with (first | (go_at_call 72; refine (typed_any _ m 1 _ _ xs B HV.out hl ⟨by omega, by omega⟩).mono ?_; rintro e w1 ⟨rfl, hb1⟩; rw [HC.out]; have HB1 := Lib.hid hb1; clear hb1) | (go_at_call 59; refine (isNumber_any _ _ _ HMB.out).mono ?_; rintro e w2 ⟨rfl, k2, rfl⟩; rw [HCB.out]) | (go_at_call 62; refine (in_any _ _ _ _).mono ?_; rintro e w3 ⟨rfl, k3, rfl⟩; rw [HK.out]) | (go_at_call 89; refine (powersUpTo_any _ q K hq27.1 hq27.2 HK1.out HK2.out).mono ?_; rintro e w4 ⟨A4, c4, rfl, hb4⟩; have hb4' : Below w1.heap.size w1 w4 := ⟨hb4.os, hb4.tape, hb4.output, hb4.size, hb4.block⟩; have HB4 := Lib.hid (HB1.out.trans (hb4'.mono HB1.out.size)); clear hb4 hb4') | (go_at_call 90; refine (mod_any _ _ _ (by omega) (by omega)).mono ?_; rintro e w5 ⟨rfl, k5, rfl⟩))
          go_ret2
          exact ⟨rfl, below_drewN HB4.out _⟩
  · have HF : TypicalFactorR p m xs k c = (0, typC p m xs 1) := by simp [TypicalFactorR, hc]
    rw [HF]
    obtain ⟨C, hC⟩ : ∃ C, typC p m xs 1 = C := ⟨_, rfl⟩
    have HC := Lib.hid hC
    rw [hC] at hc ⊢
    have hc1 : (C == 0) = false := by simpa using hc
    clear HF hC
    go_enter Try.func43, Try.ntmps43
    go_wp2_with (first | (go_at_call 72; refine (typed_any _ m 1 _ _ xs B HV.out hl ⟨by omega, by omega⟩).mono ?_; rintro e w1 ⟨rfl, hb1⟩; rw [HC.out]))
    go_ret2
    exact ⟨rfl, hb1⟩

/-! ### The laws' walks, printed by genlaw2.py -/
set_option maxHeartbeats 4000000 in
theorem FnExactTypicalFactor_walk (w : World) (a0 : Int) (a1 : Int) (v2 : Value) (xs2 : List Int) (hv2 : RdI w v2 xs2) (a3 : Int) (a4 : Int) : Calls Try.prog 12 #[.int .i64 a0, .int .i64 a1, v2, .int .i64 a3, .int .i64 a4] w fun e w' => e = .returned (.bool true) ∧ Below w.heap.size w w' := by
  obtain ⟨A2, c2, e2⟩ := hv2.form
  subst e2
  obtain ⟨r0, HR⟩ : ∃ r0, Hid (TypicalFactorR a0 a1 xs2 a3 a4 = r0) := ⟨_, rfl⟩
  obtain ⟨r, rc⟩ := r0
  by_cases hz2 : 1048576 < (xs2.length : Int)
  · skip
    have hz2' : (1048576 : Int) < (xs2.length : Int) := hz2
    go_enter Try.func12, Try.ntmps12
    go_wp2
    go_ret
    exact ⟨rfl, by (repeat (first | assumption | exact Below.refl _ _ | refine Below.alloc ?_ (by first | omega | (simp; done) | (simp; omega)) _ | refine Below.setCell ?_ (by first | omega | (simp; done) | (simp; omega)) _ | refine below_drewN ?_ _))⟩
  have hl2 : (xs2.length : Int) ≤ 1048576 := by omega
  go_enter Try.func12, Try.ntmps12
  go_wp2_with fail
  refine (toL_any _ _ xs2 (hv2.below (by (repeat (first | assumption | exact Below.refl _ _ | refine Below.alloc ?_ (by first | omega | (simp; done) | (simp; omega)) _ | refine Below.setCell ?_ (by first | omega | (simp; done) | (simp; omega)) _ | refine below_drewN ?_ _)))) (by omega)).mono ?_
  rintro e w1 ⟨A_p2, c_p2, rfl, o_p2, hb1⟩
  have o_p2' := (o_p2.toB).mono (show w.heap.size ≤ _ from by first | exact Nat.le_refl _ | (simp; done) | (simp; omega)) (Nat.le_refl _)
  clear o_p2
  have R : Below w.heap.size w w1 := Below.trans (by (repeat (first | assumption | exact Below.refl _ _ | refine Below.alloc ?_ (by first | omega | (simp; done) | (simp; omega)) _ | refine Below.setCell ?_ (by first | omega | (simp; done) | (simp; omega)) _ | refine below_drewN ?_ _))) (hb1.mono (by first | exact Nat.le_refl _ | (simp; done) | (simp; omega)))
  have s1 : w.heap.size ≤ w1.heap.size := R.size
  have K1 : Hid (Below w.heap.size w w1) := R
  clear R hb1
  have p2 : Hid (OwnB w1 w.heap.size w1.heap.size (.slice A_p2 xs2.length c_p2) xs2) := o_p2'
  clear o_p2'
  go_wp2_with fail
  refine (sTypicalFactorR_any _ a0 a1 (.slice A_p2 xs2.length c_p2) xs2 a3 a4 w.heap.size (p2.out.keep (by (repeat (first | assumption | exact Below.refl _ _ | refine Below.alloc ?_ (by first | omega | (simp; done) | (simp; omega)) _ | refine Below.setCell ?_ (by first | omega | (simp; done) | (simp; omega)) _ | refine below_drewN ?_ _)))).1 (by omega)).mono ?_
  rintro e w2 h_r
  replace h_r := h_r.of HR
  obtain ⟨rfl, hb2⟩ := h_r
  have R : Below w1.heap.size w1 w2 := Below.trans (by (repeat (first | assumption | exact Below.refl _ _ | refine Below.alloc ?_ (by first | omega | (simp; done) | (simp; omega)) _ | refine Below.setCell ?_ (by first | omega | (simp; done) | (simp; omega)) _ | refine below_drewN ?_ _))) (hb2.mono (by first | exact Nat.le_refl _ | (simp; done) | (simp; omega)))
  have s2 : w1.heap.size ≤ w2.heap.size := R.size
  have K2 : Hid (Below w.heap.size w w2) := K1.out.trans (R.mono (by omega))
  replace p2 : Hid (OwnB w2 w.heap.size w1.heap.size (.slice A_p2 xs2.length c_p2) xs2) := p2.out.keep R
  clear R hb2
  clear p2
  go_wp2_with fail
  refine (toL_any _ _ xs2 (hv2.below K2.out) (by omega)).mono ?_
  rintro e w3 ⟨A_x2, c_x2, rfl, o_x2, hb3⟩
  have o_x2' := (o_x2.toB).mono (show w2.heap.size ≤ _ from by first | exact Nat.le_refl _ | (simp; done) | (simp; omega)) (Nat.le_refl _)
  clear o_x2
  have R : Below w2.heap.size w2 w3 := Below.trans (by (repeat (first | assumption | exact Below.refl _ _ | refine Below.alloc ?_ (by first | omega | (simp; done) | (simp; omega)) _ | refine Below.setCell ?_ (by first | omega | (simp; done) | (simp; omega)) _ | refine below_drewN ?_ _))) (hb3.mono (by first | exact Nat.le_refl _ | (simp; done) | (simp; omega)))
  have s3 : w2.heap.size ≤ w3.heap.size := R.size
  have K3 : Hid (Below w.heap.size w w3) := K2.out.trans (R.mono (by omega))
  clear R hb3
  have x2 : Hid (OwnB w3 w2.heap.size w3.heap.size (.slice A_x2 xs2.length c_x2) xs2) := o_x2'
  clear o_x2'
  go_wp2_with fail
  refine (iTypicalFactorR_any _ a0 a1 (.slice A_x2 xs2.length c_x2) xs2 a3 a4 w2.heap.size (x2.out.keep (by (repeat (first | assumption | exact Below.refl _ _ | refine Below.alloc ?_ (by first | omega | (simp; done) | (simp; omega)) _ | refine Below.setCell ?_ (by first | omega | (simp; done) | (simp; omega)) _ | refine below_drewN ?_ _)))).1 (by omega)).mono ?_
  rintro e w4 h_r
  replace h_r := h_r.of HR
  obtain ⟨rfl, hb4⟩ := h_r
  have R : Below w3.heap.size w3 w4 := Below.trans (by (repeat (first | assumption | exact Below.refl _ _ | refine Below.alloc ?_ (by first | omega | (simp; done) | (simp; omega)) _ | refine Below.setCell ?_ (by first | omega | (simp; done) | (simp; omega)) _ | refine below_drewN ?_ _))) (hb4.mono (by first | exact Nat.le_refl _ | (simp; done) | (simp; omega)))
  have s4 : w3.heap.size ≤ w4.heap.size := R.size
  have K4 : Hid (Below w.heap.size w w4) := K3.out.trans (R.mono (by omega))
  replace x2 : Hid (OwnB w4 w2.heap.size w3.heap.size (.slice A_x2 xs2.length c_x2) xs2) := x2.out.keep R
  clear R hb4
  go_wp2_with fail
  refine (toL_any _ _ xs2 (hv2.below K4.out) (by omega)).mono ?_
  rintro e w6 ⟨A_t5, c_t5, rfl, o_t5, hb6⟩
  have o_t5' := (o_t5.toB).mono (show w4.heap.size ≤ _ from by first | exact Nat.le_refl _ | (simp; done) | (simp; omega)) (Nat.le_refl _)
  clear o_t5
  have R : Below w4.heap.size w4 w6 := Below.trans (by (repeat (first | assumption | exact Below.refl _ _ | refine Below.alloc ?_ (by first | omega | (simp; done) | (simp; omega)) _ | refine Below.setCell ?_ (by first | omega | (simp; done) | (simp; omega)) _ | refine below_drewN ?_ _))) (hb6.mono (by first | exact Nat.le_refl _ | (simp; done) | (simp; omega)))
  have s6 : w4.heap.size ≤ w6.heap.size := R.size
  have K6 : Hid (Below w.heap.size w w6) := K4.out.trans (R.mono (by omega))
  replace x2 : Hid (OwnB w6 w2.heap.size w3.heap.size (.slice A_x2 xs2.length c_x2) xs2) := x2.out.keep R
  clear R hb6
  have t5 : Hid (OwnB w6 w4.heap.size w6.heap.size (.slice A_t5 xs2.length c_t5) xs2) := o_t5'
  clear o_t5'
  go_wp2_with fail
  refine (eqL_any _ _ _ _ _ (x2.out.keep (by (repeat (first | assumption | exact Below.refl _ _ | refine Below.alloc ?_ (by first | omega | (simp; done) | (simp; omega)) _ | refine Below.setCell ?_ (by first | omega | (simp; done) | (simp; omega)) _ | refine below_drewN ?_ _)))).rd (t5.out.keep (by (repeat (first | assumption | exact Below.refl _ _ | refine Below.alloc ?_ (by first | omega | (simp; done) | (simp; omega)) _ | refine Below.setCell ?_ (by first | omega | (simp; done) | (simp; omega)) _ | refine below_drewN ?_ _)))).rd).mono ?_
  rintro e w7 ⟨rfl, hb7⟩
  have R : Below w6.heap.size w6 w7 := Below.trans (by (repeat (first | assumption | exact Below.refl _ _ | refine Below.alloc ?_ (by first | omega | (simp; done) | (simp; omega)) _ | refine Below.setCell ?_ (by first | omega | (simp; done) | (simp; omega)) _ | refine below_drewN ?_ _))) (hb7.mono (by first | exact Nat.le_refl _ | (simp; done) | (simp; omega)))
  have s7 : w6.heap.size ≤ w7.heap.size := R.size
  have K7 : Hid (Below w.heap.size w w7) := K6.out.trans (R.mono (by omega))
  replace x2 : Hid (OwnB w7 w2.heap.size w3.heap.size (.slice A_x2 xs2.length c_x2) xs2) := x2.out.keep R
  replace t5 : Hid (OwnB w7 w4.heap.size w6.heap.size (.slice A_t5 xs2.length c_t5) xs2) := t5.out.keep R
  clear R hb7
  clear t5
  go_wp2
  go_ret
  exact ⟨rfl, K7.out⟩


end Go.Proofs.Ytfdklbimdkaaiaa
