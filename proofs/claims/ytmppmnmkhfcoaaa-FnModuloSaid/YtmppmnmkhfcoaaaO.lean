/- Contracts over this seat's translation. Condition: each contract's own. -/
import Derived.Test.YtmppmnmkhfcoaaaN
import Derived.Test.YtmppmnmkhfcoaaaC
import Derived.ProofKit
import Derived.Laws.Bits64b
import Derived.Lib.Mul64
import Derived.OpenShut
import Derived.Below
import Derived.ChangeSame
import Derived.Deep.Modes
import Derived.Lib.SmallJoins
import Derived.ChangeSlices
import Derived.WalkKit
import Derived.WalkSpells
import Derived.WalkLawsBesides
import Derived.Deep.QuietTactic
import Derived.BigQuiet
import Derived.Deep.RegionHeld3
import Derived.Deep.RegionWith
import Derived.Deep.RegionLaw
import Derived.Deep.AppendLies
import Derived.Laws.CopyOwn
import Derived.Deep.DeepCutAuto
import Derived.Deep.OwnRows
import Derived.Deep.LoopGhost
import Derived.Deep.DeepFit
import Derived.Deep.DeepMust
import Derived.Deep.Draws
import Derived.Deep.CutRange
import Derived.Maps.AppendAt
import Derived.Lib.Hide
import Derived.StillTailTactics
import Derived.Laws.MakeOwn
import Derived.Deep.Matrix
set_option linter.unusedVariables false
open Go Go.RowKit
namespace Go.Proofs.Ytmppmnmkhfcoaaa
/-! ### Prime factors -/
theorem valIs_exists_bound {d n x : Int} {k : Nat} (hd : 2 ≤ d) (h : n = x * d ^ k) (h0 : x.tmod d ≠ 0) : valOf d n = k := valOf_eq (by omega) ⟨x, h, h0⟩
noncomputable def restF (d n : Int) : Int := n / d ^ (valOf d n).toNat
theorem restF_eq {d n x : Int} {k : Nat} (hd : 2 ≤ d) (h : n = x * d ^ k) (h0 : x.tmod d ≠ 0) : restF d n = x := by
  unfold restF
  rw [valIs_exists_bound hd h h0, Int.toNat_natCast, h]
  exact Int.mul_ediv_cancel _ (Int.pow_ne_zero (by omega))
/-- The factors of n from d on. -/
noncomputable def fl : Nat → Int → Int → List (List Int)
  | 0, _, _ => []
  | F + 1, n, d => if n ≤ 1 then [] else if n < d * d then [[n, 1]] else (if valOf d n = 0 then [] else [[d, valOf d n]]) ++ fl F (restF d n) (d + 1)
theorem strip_exists (d : Int) (hd : 2 ≤ d) : ∀ (N : Nat) (n : Int), 1 ≤ n → n.toNat ≤ N → ∃ (x : Int) (k : Nat), n = x * d ^ k ∧ x.tmod d ≠ 0 ∧ 1 ≤ x ∧ x ≤ n
  | 0, n, h, h' => by omega
  | N + 1, n, h, h' => by
    by_cases h0 : n.tmod d = 0
    · obtain ⟨h1, h2⟩ := tdiv_small hd (by omega) h0
      have h3 : 0 ≤ n.tdiv d := Int.tdiv_nonneg (by omega) (by omega)
      obtain ⟨x, k, e1, e2, e3, e4⟩ := strip_exists d hd N (n.tdiv d) (by omega) (by omega)
      refine ⟨x, k + 1, ?_, e2, e3, by omega⟩
      have h4 := Int.tdiv_mul_cancel ((tmod_zero_iff n d).1 h0)
      rw [← h4]
      conv => lhs; rw [e1]
      rw [Int.pow_succ, Int.mul_assoc]
    · exact ⟨n, 0, by simp, h0, h, Int.le_refl _⟩
theorem restF_bd {d n : Int} (hd : 2 ≤ d) (hn : 1 ≤ n) : 1 ≤ restF d n ∧ restF d n ≤ n := by
  obtain ⟨x, k, h1, h2, h3, h4⟩ := strip_exists d hd n.toNat n hn (Nat.le_refl _)
  rw [restF_eq hd h1 h2]
  exact ⟨h3, h4⟩
theorem sq_ge {d : Int} (hd : 2 ≤ d) : 2 * d ≤ d * d := Int.mul_le_mul_of_nonneg_right hd (by omega)
theorem fl_stable : ∀ (F G : Nat) (n d : Int), 2 ≤ d → 1 ≤ n → (n - d).toNat < F → (n - d).toNat < G → fl F n d = fl G n d
  | 0, _, _, _, _, _, h, _ => by omega
  | _ + 1, 0, _, _, _, _, _, h => by omega
  | F + 1, G + 1, n, d, hd, hn, h1, h2 => by
    unfold fl
    by_cases e1 : n ≤ 1
    · simp [e1]
    · by_cases e2 : n < d * d
      · simp [e1, e2]
      · have h3 := restF_bd hd hn
        have h4 := sq_ge hd
        rw [if_neg e1, if_neg e1, if_neg e2, if_neg e2, fl_stable F G (restF d n) (d + 1) (by omega) h3.1 (by omega) (by omega)]
noncomputable def facL (n : Int) : List (List Int) := fl (n.toNat + 1) n 2
theorem fl_step {n d : Int} {X : List (List Int)} {pre : List (List Int)} (hd : 2 ≤ d) (hn : 1 ≤ n) (h1 : d * d ≤ n) (h : ∀ F, (n - d).toNat < F → pre ++ fl F n d = X) :
    ∀ F, (restF d n - (d + 1)).toNat < F → (pre ++ if valOf d n = 0 then [] else [[d, valOf d n]]) ++ fl F (restF d n) (d + 1) = X := by
  intro F hF
  have h3 := restF_bd hd hn
  have h4 := sq_ge hd
  have h5 := h ((n - d).toNat + 1) (by omega)
  rw [fl, if_neg (by omega), if_neg (by omega)] at h5
  rw [← h5, List.append_assoc]
  congr 2
  exact fl_stable _ _ _ _ (by omega) h3.1 hF (by omega)
theorem fl_last {n d : Int} {X : List (List Int)} {pre : List (List Int)} (h1 : n < d * d) (h : ∀ F, (n - d).toNat < F → pre ++ fl F n d = X) : (pre ++ if n ≤ 1 then [] else [[n, 1]]) = X := by
  have h5 := h ((n - d).toNat + 1) (by omega)
  rw [fl] at h5
  rw [← h5]
  by_cases e : n ≤ 1
  · simp [e]
  · simp [e, h1]
theorem fl_one {d : Int} {X : List (List Int)} {pre : List (List Int)} (h : ∀ F, (1 - d).toNat < F → pre ++ fl F 1 d = X) : pre = X := by
  have h5 := h ((1 - d).toNat + 1) (by omega)
  rw [fl, if_pos (by omega)] at h5
  simpa using h5
/-- No more than a hundred rows of two. -/
def Two (xss : List (List Int)) : Prop := ∀ r ∈ xss, r.length = 2
theorem cntP_two {xss : List (List Int)} (h : Two xss) : cntP xss = 2 * xss.length := by
  induction xss with
  | nil => rfl
  | cons r rs ih =>
    have h1 := h r (by simp)
    have h2 := ih fun q hq => h q (by simp [hq])
    simp only [cntP, List.length_cons]
    omega
theorem fl_two : ∀ (F : Nat) (n d : Int), Two (fl F n d)
  | 0, _, _ => by intro r hr; simp [fl] at hr
  | F + 1, n, d => by
    unfold fl
    split
    · intro r hr; simp at hr
    · split
      · intro r hr; simp at hr; subst hr; rfl
      · intro r hr
        rcases List.mem_append.1 hr with h | h
        · split at h
          · simp at h
          · simp at h; subst h; rfl
        · exact fl_two F _ _ r h
theorem fl_len : ∀ (F : Nat) (n d : Int) (B : Nat), 2 ≤ d → 1 ≤ n → n < 2 ^ B → (fl F n d).length ≤ B
  | 0, _, _, _, _, _, _ => by simp [fl]
  | F + 1, n, d, B, hd, hn, hB => by
    unfold fl
    by_cases e1 : n ≤ 1
    · simp [e1]
    · rw [if_neg e1]
      have hB0 : B ≠ 0 := by
        intro h; subst h; simp at hB; omega
      by_cases e2 : n < d * d
      · rw [if_pos e2]; simp; omega
      · rw [if_neg e2]
        have h3 := restF_bd hd hn
        by_cases e3 : valOf d n = 0
        · rw [if_pos e3]
          simpa using fl_len F _ _ B (by omega) h3.1 (by omega)
        · rw [if_neg e3]
          obtain ⟨x, k, q1, q2, q3, q4⟩ := strip_exists d hd n.toNat n hn (Nat.le_refl _)
          rw [valIs_exists_bound hd q1 q2] at e3
          rw [restF_eq hd q1 q2]
          obtain ⟨j, rfl⟩ : ∃ j, k = j + 1 := ⟨k - 1, by omega⟩
          obtain ⟨b, rfl⟩ : ∃ b, B = b + 1 := ⟨B - 1, by omega⟩
          have h4 : x * 2 ≤ n := by
            rw [q1]
            refine Int.mul_le_mul_of_nonneg_left ?_ (by omega)
            rw [Int.pow_succ]
            have h6 : (1 : Int) ≤ d ^ j := Int.pow_pos (by omega)
            have := Int.mul_le_mul h6 hd (by omega) (by omega)
            omega
          have h5 : (2 : Int) ^ (b + 1) = 2 * 2 ^ b := by rw [Int.pow_succ, Int.mul_comm]
          have := fl_len F x (d + 1) b (by omega) q3 (by omega)
          simp only [List.length_append, List.length_singleton]
          omega
theorem facL_bd {n : Int} (h1 : 1 ≤ n) (h2 : n ≤ 1000000000000) : (facL n).length ≤ 40 := fl_len _ _ _ 40 (by omega) h1 (by
  have : (2 : Int) ^ 40 = 1099511627776 := by decide
  omega)
noncomputable def PrimeFactorsR (n : Int) : List (List Int) × Int := if inB n 1 1000000000000 = false then ([], 2) else (facL n, 0)
theorem PrimeFactorsR_len (n : Int) : cntP (PrimeFactorsR n).1 ≤ 100 := by
  unfold PrimeFactorsR
  cases h : inB n 1 1000000000000
  · simp [cntP]
  · obtain ⟨h1, h2⟩ := inB_true.1 h
    have h3 := facL_bd h1 h2
    have h4 := cntP_two (fl_two (n.toNat + 1) n 2)
    have h5 : cntP (facL n) = 2 * (facL n).length := h4
    rw [if_neg (by simp)]
    show cntP (facL n) ≤ 100
    omega
theorem sq_bound1 {d n : Int} (h : n ≤ 1000000000000) (hd : d * d ≤ n) : d + 1 ≤ 1000001 := by have := sq_bound h hd; omega
theorem ownP_block_ge {w : World} {lo hi g : Nat} {v : Value} {xss : List (List Int)} (h : OwnP w lo hi v xss) (hg : v.ownBlock = some g) : lo ≤ g := by
  obtain ⟨us, _, h2, _⟩ := h
  exact (ownsRow_block_ge h2 hg).1
theorem below_grownP {B : Nat} {w0 w w' : World} {v : Value} (h : Below B w0 w) (hB : B ≤ w.heap.size) (hg : w.grownBy w' v.ownBlock) (hv : ∀ g, v.ownBlock = some g → B ≤ g) : Below B w0 w' := h.grown hg hB fun b hb => hv b hb
set_option maxHeartbeats 4000000 in
theorem factors_any (n0 : Int) (w : World) (h1 : 1 ≤ n0) (h2 : n0 ≤ 1000000000000) (X : List (List Int)) (hX : Hid (facL n0 = X)) :
    Calls Try.prog 94 #[.int .i64 n0] w fun e w' => ∃ A c, e = .returned (.slice A X.length c) ∧ OwnP w' w.heap.size w'.heap.size (.slice A X.length c) X ∧ Below w.heap.size w w' := by
  go_enter Try.func94, Try.ntmps94
  go_wp2
  go_loopw [0, 3, 4, 5] (fun s0 s3 s4 _ wr => ∃ (n d : Int) (pre : List (List Int)) (A : Option Addr) (c : Nat), s0 = .int .i64 n ∧ s4 = .int .i64 d ∧ s3 = .slice A pre.length c ∧ 1 ≤ n ∧ n ≤ 1000000000000 ∧ 2 ≤ d ∧ d ≤ 1000000000001 ∧ Hid (n = 1 ∨ d ≤ 1000001) ∧ Hid (n = 1 ∨ pre.length + 2 ≤ d.toNat) ∧ Hid (OwnP wr w.heap.size wr.heap.size (.slice A pre.length c) pre) ∧ Hid (∀ F, (n - d).toNat < F → pre ++ fl F n d = X) ∧ Below w.heap.size w wr)
    (fun s0 _ s4 _ _ => (intOf s0).toNat + (intOf s0 - intOf s4).toNat)
  case atStart => exact ⟨n0, 2, [], some ⟨w.heap.size, 0, none⟩, 0, rfl, rfl, rfl, h1, h2, by omega, by omega, (Or.inr (by omega)), (Or.inr (by simp)), (OwnP.lit0 w (Nat.le_refl _)).mono (Nat.le_refl _) (by simp), (fun F hF => by rw [← hX.out]; exact fl_stable _ _ _ _ (by omega) h1 hF (by omega)), by (repeat (first | assumption | exact Below.refl _ _ | refine Below.alloc ?_ (by first | omega | (simp; done) | (simp; omega)) _ | refine Below.setCell ?_ (by first | omega | (simp; done) | (simp; omega)) _ | refine below_drewN ?_ _))⟩
  case round =>
    obtain ⟨n, d, pre, A, c, rfl, rfl, rfl, hn1, hn2, hd1, hd2, hd3, hpl, ho, hp, hb⟩ := hrel
    have hz := hb.size
    have hsq := sq_ge hd1
    by_cases hn : n = 1
    · subst hn
      have HF := Lib.hid (fl_one hp.out)
      go_wp2
      go_ret
      have e := HF.out
      subst e
      exact ⟨A, c, rfl, ho.out, hb⟩
    · have hn' : 1 < n := by omega
      have hdm : d ≤ 1000001 := by have := hd3.out; omega
      have hpl' : pre.length + 2 ≤ d.toNat := by have := hpl.out; omega
      clear hpl
      have hdd2 := Int.mul_le_mul hdm hdm (by omega) (by omega)
      clear hn hd3
      by_cases hdd : n < d * d
      · have HL := Lib.hid (fl_last hdd hp.out)
        have h0 : (1 : Int).tmod n ≠ 0 := by rw [Int.tmod_eq_emod_of_nonneg (by omega), Int.emod_eq_of_lt (by omega) (by omega)]; omega
        have HV := Lib.hid (valIs_exists_bound (d := n) (n := n) (x := 1) (k := 1) (by omega) (by rw [Int.pow_one, Int.one_mul]) h0)
        have HR := Lib.hid (restF_eq (d := n) (n := n) (x := 1) (k := 1) (by omega) (by rw [Int.pow_one, Int.one_mul]) h0)
        obtain ⟨N0, hN⟩ : ∃ N0, N0 = n := ⟨_, rfl⟩
        have HN := Lib.hid hN
        have hN1 : 1 ≤ N0 ∧ N0 ≤ 1000000000000 ∧ N0 ≤ n ∧ n ≤ N0 := by omega
        clear h0 hN
        go_wp2
        go_loop [0, 5] (fun s0 s5 => ∃ (x : Int) (k : Nat), s0 = .int .i64 x ∧ s5 = .int .i64 k ∧ Hid (n = x * n ^ k) ∧ 1 ≤ x ∧ x ≤ n ∧ k + x.natAbs ≤ 1000000000001) (fun s0 _ => (intOf s0).natAbs)
        case atStart => exact ⟨n, 0, rfl, rfl, (by unfold Hid; simp), by omega, by omega, by omega⟩
        case round =>
          obtain ⟨x, k, rfl, rfl, hx, hx1, hx2, hx3⟩ := hrel
          by_cases h0 : x.tmod n = 0
          · obtain ⟨h8, h9⟩ := tdiv_small (by omega) (show x ≠ 0 by omega) h0
            have HX := Lib.hid (val_step hx.out h0)
            have he : x.tmod n = x % n := Int.tmod_eq_emod_of_nonneg (by omega)
            have hq : x.tdiv n = x / n := Int.tdiv_eq_ediv_of_nonneg (by omega)
            have h10 : (x % n == 0) = true := by rw [← he]; simpa using h0
            rw [hq] at h8 h9 HX
            have h11 : 0 ≤ x / n := Int.ediv_nonneg (by omega) (by omega)
            have h12 : 1 ≤ x / n ∧ x / n ≤ n := by omega
            clear h0 h8 he hq h11
            go_wp2
            go_round
            case rel => exact ⟨x / n, k + 1, rfl, by go_num, HX.out, h12.1, h12.2, by omega⟩
            case measure => simpa [intOf] using h9
          · have HVx := Lib.hid (valIs_exists_bound (by omega) hx.out h0)
            have HRx := Lib.hid (restF_eq (by omega) hx.out h0)
            have he : x.tmod n = x % n := Int.tmod_eq_emod_of_nonneg (by omega)
            have h10 : (x % n == 0) = false := by rw [← he]; simpa using h0
            clear h0 he
            have hk1 : Hid ((k : Int) = 1) := by unfold Hid; rw [← HVx.out, HV.out]; rfl
            have hx1' : Hid (x = 1) := by unfold Hid; rw [← HRx.out, HR.out]
            obtain rfl : k = 1 := by have := hk1.out; omega
            obtain rfl : x = 1 := hx1'.out
            go_wp2_with (at_builtin; refine appendP _ _ w.heap.size wr.heap.size (.slice A pre.length c) (.slice (some ⟨wr.heap.size, 0, none⟩) 2 2) pre [n, 1] (wr.heap.size + 1) (by rfl) (by rfl) (by rfl) (by rfl) ((ho.out.keep (by (repeat (first | assumption | exact Below.refl _ _ | refine Below.alloc ?_ (by first | omega | (simp; done) | (simp; omega)) _ | refine Below.setCell ?_ (by first | omega | (simp; done) | (simp; omega)) _ | refine below_drewN ?_ _))))) (by simp; omega) (OwnI.alloc (OwnI.lit2 wr n 1 hz) _) (by intro g hg; simp [Value.ownBlock] at hg; omega) (heap_alloc_new (wr.alloc _) _ |> fun e => by simpa using e) (by omega) (by simp; omega) ?_; intro A2 c2 w2 ho2 hg2)
            go_roundw
            case rel =>
              have HL2 : Hid (pre ++ [[n, 1]] = X) := by have := HL.out; rwa [if_neg (by omega)] at this
              refine ⟨1, n + 1, pre ++ [[n, 1]], A2, c2, rfl, rfl, by simp, by omega, by omega, by omega, by omega, Or.inl rfl, Or.inl rfl, ?_, fun F hF => ?_, ?_⟩
              · unfold Hid; simpa using ho2
              · rw [HL2.out]
                obtain ⟨G, rfl⟩ : ∃ G, F = G + 1 := ⟨F - 1, by omega⟩
                simp [fl]
              · exact below_grownP (by (repeat (first | assumption | exact Below.refl _ _ | refine Below.alloc ?_ (by first | omega | (simp; done) | (simp; omega)) _ | refine Below.setCell ?_ (by first | omega | (simp; done) | (simp; omega)) _ | refine below_drewN ?_ _))) (by simp; omega) hg2 (fun g hg => (ownP_block_ge ho.out hg))
            case measure => simp [intOf]; omega
      · have hdn : d * d ≤ n := by omega
        have HS := Lib.hid (fl_step hd1 hn1 hdn hp.out)
        obtain ⟨hr1, hr2⟩ := restF_bd hd1 hn1
        go_wp2
        go_loop [0, 5] (fun s0 s5 => ∃ (x : Int) (k : Nat), s0 = .int .i64 x ∧ s5 = .int .i64 k ∧ Hid (n = x * d ^ k) ∧ 1 ≤ x ∧ x ≤ n ∧ k + x.natAbs ≤ 1000000000001) (fun s0 _ => (intOf s0).natAbs)
        case atStart => exact ⟨n, 0, rfl, rfl, (by unfold Hid; simp), by omega, by omega, by omega⟩
        case round =>
          obtain ⟨x, k, rfl, rfl, hx, hx1, hx2, hx3⟩ := hrel
          by_cases h0 : x.tmod d = 0
          · obtain ⟨h8, h9⟩ := tdiv_small (by omega) (show x ≠ 0 by omega) h0
            have HX := Lib.hid (val_step hx.out h0)
            have he : x.tmod d = x % d := Int.tmod_eq_emod_of_nonneg (by omega)
            have hq : x.tdiv d = x / d := Int.tdiv_eq_ediv_of_nonneg (by omega)
            have h10 : (x % d == 0) = true := by rw [← he]; simpa using h0
            rw [hq] at h8 h9 HX
            have h11 : 0 ≤ x / d := Int.ediv_nonneg (by omega) (by omega)
            have h12 : 1 ≤ x / d ∧ x / d ≤ n := by omega
            clear h0 h8 he hq h11
            go_wp2
            go_round
            case rel => exact ⟨x / d, k + 1, rfl, by go_num, HX.out, h12.1, h12.2, by omega⟩
            case measure => simpa [intOf] using h9
          · have HVx := Lib.hid (valIs_exists_bound (by omega) hx.out h0)
            have HRx := Lib.hid (restF_eq (by omega) hx.out h0)
            have he : x.tmod d = x % d := Int.tmod_eq_emod_of_nonneg (by omega)
            have h10 : (x % d == 0) = false := by rw [← he]; simpa using h0
            clear h0 he
            have hr : restF d n = x := HRx.out
            rw [HRx.out] at HS hr1 hr2
            rw [HVx.out] at HS
            clear hr
            rcases Nat.eq_zero_or_pos k with hk0 | hk0
            · subst hk0
              have HS2 : Hid (∀ F, (x - (d + 1)).toNat < F → pre ++ fl F x (d + 1) = X) := fun F hF => by have := HS.out F hF; simpa using this
              have hz0 : decide ((0 : Int) < ((0 : Nat) : Int)) = false := by decide
              go_wp2
              go_roundw
              case rel => exact ⟨x, d + 1, pre, A, c, rfl, rfl, rfl, by omega, by omega, by omega, by omega, (Or.inr (sq_bound1 hn2 hdn)), (Or.inr (by omega)), ho.out, HS2.out, hb⟩
              case measure => simp [intOf]; omega
            · have HS2 : Hid (∀ F, (x - (d + 1)).toNat < F → (pre ++ [[d, (k : Int)]]) ++ fl F x (d + 1) = X) := fun F hF => by
                have := HS.out F hF
                rwa [if_neg (by omega)] at this
              go_wp2_with (at_builtin; refine appendP _ _ w.heap.size wr.heap.size (.slice A pre.length c) (.slice (some ⟨wr.heap.size, 0, none⟩) 2 2) pre [d, (k : Int)] (wr.heap.size + 1) (by rfl) (by rfl) (by rfl) (by rfl) ((ho.out.keep (by (repeat (first | assumption | exact Below.refl _ _ | refine Below.alloc ?_ (by first | omega | (simp; done) | (simp; omega)) _ | refine Below.setCell ?_ (by first | omega | (simp; done) | (simp; omega)) _ | refine below_drewN ?_ _))))) (by simp; omega) (OwnI.alloc (OwnI.lit2 wr d (k : Int) hz) _) (by intro g hg; simp [Value.ownBlock] at hg; omega) (heap_alloc_new (wr.alloc _) _ |> fun e => by simpa using e) (by omega) (by simp; omega) ?_; intro A2 c2 w2 ho2 hg2)
              go_roundw
              case rel =>
                refine ⟨x, d + 1, pre ++ [[d, (k : Int)]], A2, c2, rfl, rfl, by simp, by omega, by omega, by omega, by omega, (Or.inr (sq_bound1 hn2 hdn)), (Or.inr (by simp; omega)), ?_, HS2.out, ?_⟩
                · unfold Hid; simpa using ho2
                · exact below_grownP (by (repeat (first | assumption | exact Below.refl _ _ | refine Below.alloc ?_ (by first | omega | (simp; done) | (simp; omega)) _ | refine Below.setCell ?_ (by first | omega | (simp; done) | (simp; omega)) _ | refine below_drewN ?_ _))) (by simp; omega) hg2 (fun g hg => (ownP_block_ge ho.out hg))
              case measure => simp [intOf]; omega
set_option maxHeartbeats 4000000 in
theorem l01Factors_any (n0 : Int) (w : World) (h1 : 1 ≤ n0) (h2 : n0 ≤ 1000000000000) (X : List (List Int)) (hX : Hid (facL n0 = X)) :
    Calls Try.prog 95 #[.int .i64 n0] w fun e w' => ∃ A c, e = .returned (.slice A X.length c) ∧ OwnP w' w.heap.size w'.heap.size (.slice A X.length c) X ∧ Below w.heap.size w w' := by
  go_enter Try.func95, Try.ntmps95
  go_wp2
  go_loopw [0, 3, 4, 5] (fun s0 s3 s4 _ wr => ∃ (n d : Int) (pre : List (List Int)) (A : Option Addr) (c : Nat), s0 = .int .i64 n ∧ s4 = .int .i64 d ∧ s3 = .slice A pre.length c ∧ 1 ≤ n ∧ n ≤ 1000000000000 ∧ 2 ≤ d ∧ d ≤ 1000000000001 ∧ d ≤ 1000001 ∧ pre.length + 2 ≤ d.toNat ∧ Hid (OwnP wr w.heap.size wr.heap.size (.slice A pre.length c) pre) ∧ Hid (∀ F, (n - d).toNat < F → pre ++ fl F n d = X) ∧ Below w.heap.size w wr)
    (fun s0 _ s4 _ _ => (intOf s0 - intOf s4).toNat)
  case atStart => exact ⟨n0, 2, [], some ⟨w.heap.size, 0, none⟩, 0, rfl, rfl, rfl, h1, h2, by omega, by omega, by omega, by simp, (OwnP.lit0 w (Nat.le_refl _)).mono (Nat.le_refl _) (by simp), (fun F hF => by rw [← hX.out]; exact fl_stable _ _ _ _ (by omega) h1 hF (by omega)), by (repeat (first | assumption | exact Below.refl _ _ | refine Below.alloc ?_ (by first | omega | (simp; done) | (simp; omega)) _ | refine Below.setCell ?_ (by first | omega | (simp; done) | (simp; omega)) _ | refine below_drewN ?_ _))⟩
  case round =>
    obtain ⟨n, d, pre, A, c, rfl, rfl, rfl, hn1, hn2, hd1, hd2, hd3, hpl, ho, hp, hb⟩ := hrel
    have hz := hb.size
    have hsq := sq_ge hd1
    have hdd2 := Int.mul_le_mul hd3 hd3 (by omega) (by omega)
    by_cases hdd : n < d * d
    · have HL := Lib.hid (fl_last hdd hp.out)
      by_cases hn : n ≤ 1
      · have HX : Hid (pre = X) := by have := HL.out; rw [if_pos hn] at this; unfold Hid; simpa using this
        go_wp2
        go_ret
        have e := HX.out
        subst e
        exact ⟨A, c, rfl, ho.out, hb⟩
      · have HX : Hid (pre ++ [[n, 1]] = X) := by have := HL.out; rwa [if_neg hn] at this
        go_wp2_with (at_builtin; refine appendP _ _ w.heap.size wr.heap.size (.slice A pre.length c) (.slice (some ⟨wr.heap.size, 0, none⟩) 2 2) pre [n, 1] (wr.heap.size + 1) (by rfl) (by rfl) (by rfl) (by rfl) ((ho.out.keep (by (repeat (first | assumption | exact Below.refl _ _ | refine Below.alloc ?_ (by first | omega | (simp; done) | (simp; omega)) _ | refine Below.setCell ?_ (by first | omega | (simp; done) | (simp; omega)) _ | refine below_drewN ?_ _))))) (by simp; omega) (OwnI.alloc (OwnI.lit2 wr n 1 hz) _) (by intro g hg; simp [Value.ownBlock] at hg; omega) (heap_alloc_new (wr.alloc _) _ |> fun e => by simpa using e) (by omega) (by simp; omega) ?_; intro A2 c2 w2 ho2 hg2)
        go_ret
        have e := HX.out
        subst e
        refine ⟨A2, c2, by simp, by simpa using ho2, ?_⟩
        exact below_grownP (by (repeat (first | assumption | exact Below.refl _ _ | refine Below.alloc ?_ (by first | omega | (simp; done) | (simp; omega)) _ | refine Below.setCell ?_ (by first | omega | (simp; done) | (simp; omega)) _ | refine below_drewN ?_ _))) (by simp; omega) hg2 (fun g hg => (ownP_block_ge ho.out hg))
    · have hdn : d * d ≤ n := by omega
      · have HS := Lib.hid (fl_step hd1 hn1 hdn hp.out)
        obtain ⟨hr1, hr2⟩ := restF_bd hd1 hn1
        go_wp2
        go_loop [0, 5] (fun s0 s5 => ∃ (x : Int) (k : Nat), s0 = .int .i64 x ∧ s5 = .int .i64 k ∧ Hid (n = x * d ^ k) ∧ 1 ≤ x ∧ x ≤ n ∧ k + x.natAbs ≤ 1000000000001) (fun s0 _ => (intOf s0).natAbs)
        case atStart => exact ⟨n, 0, rfl, rfl, (by unfold Hid; simp), by omega, by omega, by omega⟩
        case round =>
          obtain ⟨x, k, rfl, rfl, hx, hx1, hx2, hx3⟩ := hrel
          by_cases h0 : x.tmod d = 0
          · obtain ⟨h8, h9⟩ := tdiv_small (by omega) (show x ≠ 0 by omega) h0
            have HX := Lib.hid (val_step hx.out h0)
            have he : x.tmod d = x % d := Int.tmod_eq_emod_of_nonneg (by omega)
            have hq : x.tdiv d = x / d := Int.tdiv_eq_ediv_of_nonneg (by omega)
            have h10 : (x % d == 0) = true := by rw [← he]; simpa using h0
            rw [hq] at h8 h9 HX
            have h11 : 0 ≤ x / d := Int.ediv_nonneg (by omega) (by omega)
            have h12 : 1 ≤ x / d ∧ x / d ≤ n := by omega
            clear h0 h8 he hq h11
            go_wp2
            go_round
            case rel => exact ⟨x / d, k + 1, rfl, by go_num, HX.out, h12.1, h12.2, by omega⟩
            case measure => simpa [intOf] using h9
          · have HVx := Lib.hid (valIs_exists_bound (by omega) hx.out h0)
            have HRx := Lib.hid (restF_eq (by omega) hx.out h0)
            have he : x.tmod d = x % d := Int.tmod_eq_emod_of_nonneg (by omega)
            have h10 : (x % d == 0) = false := by rw [← he]; simpa using h0
            clear h0 he
            have hr : restF d n = x := HRx.out
            rw [HRx.out] at HS hr1 hr2
            rw [HVx.out] at HS
            clear hr
            rcases Nat.eq_zero_or_pos k with hk0 | hk0
            · subst hk0
              have HS2 : Hid (∀ F, (x - (d + 1)).toNat < F → pre ++ fl F x (d + 1) = X) := fun F hF => by have := HS.out F hF; simpa using this
              have hz0 : decide ((0 : Int) < ((0 : Nat) : Int)) = false := by decide
              go_wp2
              go_roundw
              case rel => exact ⟨x, d + 1, pre, A, c, rfl, rfl, rfl, by omega, by omega, by omega, by omega, sq_bound1 hn2 hdn, by omega, ho.out, HS2.out, hb⟩
              case measure => simp [intOf]; omega
            · have HS2 : Hid (∀ F, (x - (d + 1)).toNat < F → (pre ++ [[d, (k : Int)]]) ++ fl F x (d + 1) = X) := fun F hF => by
                have := HS.out F hF
                rwa [if_neg (by omega)] at this
              go_wp2_with (at_builtin; refine appendP _ _ w.heap.size wr.heap.size (.slice A pre.length c) (.slice (some ⟨wr.heap.size, 0, none⟩) 2 2) pre [d, (k : Int)] (wr.heap.size + 1) (by rfl) (by rfl) (by rfl) (by rfl) ((ho.out.keep (by (repeat (first | assumption | exact Below.refl _ _ | refine Below.alloc ?_ (by first | omega | (simp; done) | (simp; omega)) _ | refine Below.setCell ?_ (by first | omega | (simp; done) | (simp; omega)) _ | refine below_drewN ?_ _))))) (by simp; omega) (OwnI.alloc (OwnI.lit2 wr d (k : Int) hz) _) (by intro g hg; simp [Value.ownBlock] at hg; omega) (heap_alloc_new (wr.alloc _) _ |> fun e => by simpa using e) (by omega) (by simp; omega) ?_; intro A2 c2 w2 ho2 hg2)
              go_roundw
              case rel =>
                refine ⟨x, d + 1, pre ++ [[d, (k : Int)]], A2, c2, rfl, rfl, by simp, by omega, by omega, by omega, by omega, sq_bound1 hn2 hdn, by simp; omega, ?_, HS2.out, ?_⟩
                · unfold Hid; simpa using ho2
                · exact below_grownP (by (repeat (first | assumption | exact Below.refl _ _ | refine Below.alloc ?_ (by first | omega | (simp; done) | (simp; omega)) _ | refine Below.setCell ?_ (by first | omega | (simp; done) | (simp; omega)) _ | refine below_drewN ?_ _))) (by simp; omega) hg2 (fun g hg => (ownP_block_ge ho.out hg))
              case measure => simp [intOf]; omega
theorem iPrimeFactorsR_any (w : World) (n : Int) : Calls Try.prog 24 #[.int .i64 n] w (RetQI w (PrimeFactorsR n)) := by
  cases hn : inB n 1 1000000000000
  · have HF : PrimeFactorsR n = ([], 2) := by simp [PrimeFactorsR, hn]
    rw [HF]
    clear HF
    have HN := Lib.hid hn
    clear hn
    go_enter Try.func24, Try.ntmps24
    go_wp2_with (go_at_call 93; refine (in_any n _ _ _).mono ?_; rintro e w' ⟨rfl, k', rfl⟩; rw [HN.out])
    go_ret2
    exact ⟨none, 0, rfl, OwnP.nil_ _ _ _, by (repeat (first | assumption | exact Below.refl _ _ | refine Below.alloc ?_ (by first | omega | (simp; done) | (simp; omega)) _ | refine Below.setCell ?_ (by first | omega | (simp; done) | (simp; omega)) _ | refine below_drewN ?_ _))⟩
  · obtain ⟨h1, h2⟩ := inB_true.1 hn
    obtain ⟨X, hX⟩ : ∃ X, Hid (facL n = X) := ⟨_, rfl⟩
    have HF : PrimeFactorsR n = (X, 0) := by simp only [PrimeFactorsR, hn, hX.out]; simp
    rw [HF]
    clear HF
    have HN := Lib.hid hn
    clear hn
    go_enter Try.func24, Try.ntmps24
    go_wp2_with (first | (go_at_call 93; refine (in_any n _ _ _).mono ?_; rintro e w' ⟨rfl, k', rfl⟩; rw [HN.out]) | (go_at_call 94; refine (factors_any n _ h1 h2 X hX).mono ?_; rintro e w2 ⟨A, c, rfl, ho, hb⟩))
    go_ret2
    exact ⟨A, c, rfl, ho, (below_drewN (Below.refl _ _) _).trans hb⟩
theorem sPrimeFactorsR_any (w : World) (n : Int) : Calls Try.prog 25 #[.int .i64 n] w (RetQI w (PrimeFactorsR n)) := by
  cases hn : inB n 1 1000000000000
  · have HF : PrimeFactorsR n = ([], 2) := by simp [PrimeFactorsR, hn]
    rw [HF]
    clear HF
    have HN := Lib.hid hn
    clear hn
    go_enter Try.func25, Try.ntmps25
    go_wp2_with (go_at_call 75; refine (l01In_any n _ _ _).mono ?_; rintro e w' ⟨rfl, k', rfl⟩; rw [HN.out])
    go_ret2
    exact ⟨none, 0, rfl, OwnP.nil_ _ _ _, by (repeat (first | assumption | exact Below.refl _ _ | refine Below.alloc ?_ (by first | omega | (simp; done) | (simp; omega)) _ | refine Below.setCell ?_ (by first | omega | (simp; done) | (simp; omega)) _ | refine below_drewN ?_ _))⟩
  · obtain ⟨h1, h2⟩ := inB_true.1 hn
    obtain ⟨X, hX⟩ : ∃ X, Hid (facL n = X) := ⟨_, rfl⟩
    have HF : PrimeFactorsR n = (X, 0) := by simp only [PrimeFactorsR, hn, hX.out]; simp
    rw [HF]
    clear HF
    have HN := Lib.hid hn
    clear hn
    go_enter Try.func25, Try.ntmps25
    go_wp2_with (first | (go_at_call 75; refine (l01In_any n _ _ _).mono ?_; rintro e w' ⟨rfl, k', rfl⟩; rw [HN.out]) | (go_at_call 95; refine (l01Factors_any n _ h1 h2 X hX).mono ?_; rintro e w2 ⟨A, c, rfl, ho, hb⟩))
    go_ret2
    exact ⟨A, c, rfl, ho, (below_drewN (Below.refl _ _) _).trans hb⟩

/-! ### The source of the draws: memory -/
/-- Of what was there only block b may have turned. -/
structure Only (b : Nat) (w w' : World) : Prop where
  os : w'.os = w.os
  tape : w'.tape = w.tape
  output : w'.output = w.output
  size : w.heap.size ≤ w'.heap.size
  block : ∀ k, k < w.heap.size → k ≠ b → w'.heap[k]? = w.heap[k]?
theorem Only.refl (b : Nat) (w : World) : Only b w w := ⟨rfl, rfl, rfl, Nat.le_refl _, fun _ _ _ => rfl⟩
theorem Only.trans {b : Nat} {x y z : World} (h : Only b x y) (k : Only b y z) : Only b x z :=
  ⟨k.os.trans h.os, k.tape.trans h.tape, k.output.trans h.output, Nat.le_trans h.size k.size, fun i hi hb => (k.block i (Nat.lt_of_lt_of_le hi h.size) hb).trans (h.block i hi hb)⟩
theorem Only.ofBelow {b : Nat} {w w' : World} (h : Below w.heap.size w w') : Only b w w' := ⟨h.os, h.tape, h.output, h.size, fun k hk _ => h.block k hk⟩
theorem Only.alloc {b : Nat} {w w' : World} (h : Only b w w') (o : Obj) : Only b w (w'.alloc o) :=
  h.trans ⟨rfl, rfl, rfl, by simp, fun k hk _ => Below.heap_alloc _ _ _ hk⟩
theorem Only.setCell {b : Nat} {w w' : World} (h : Only b w w') {p : Addr} (hp : p.block = b) (u : Value) : Only b w (w'.setCell p u) :=
  h.trans ⟨rfl, rfl, rfl, by simp [World.setCell], fun k hk hb => Below.heap_setCell _ _ _ _ (by omega)⟩
theorem Only.setNew {b : Nat} {w w' : World} (h : Only b w w') {p : Addr} (hp : w.heap.size ≤ p.block) (u : Value) : Only b w (w'.setCell p u) :=
  ⟨h.os, h.tape, h.output, by simpa [World.setCell] using h.size, fun k hk hb => (Below.heap_setCell _ _ _ _ (by omega)).trans (h.block k hk hb)⟩
theorem Only.drewN {b : Nat} {w w' : World} (h : Only b w w') (n : Nat) : Only b w (w'.drewN n) := ⟨h.os, h.tape, h.output, h.size, h.block⟩
theorem Only.drew {b : Nat} {w w' : World} (h : Only b w w') : Only b w w'.drew := ⟨h.os, h.tape, h.output, h.size, h.block⟩
theorem Only.cell {b : Nat} {w w' : World} (h : Only b w w') {p : Addr} (hp : p.block < w.heap.size) (hb : p.block ≠ b) : w'.cell? p = w.cell? p := World.cell?_of_block (w := w) (h.block p.block hp hb)
theorem Only.frozen {b : Nat} {w w' : World} (h : Only b w w') {p : Addr} (hp : p.block < w.heap.size) (hb : p.block ≠ b) : w'.frozen? p = w.frozen? p := World.frozen?_of_block (w := w) (h.block p.block hp hb)
theorem Only.below {B b : Nat} {w w' : World} (h : Only b w w') (hb : B ≤ b) (hB : B ≤ w.heap.size) : Below B w w' := ⟨h.os, h.tape, h.output, h.size, fun k hk => h.block k (by omega) (by omega)⟩
theorem Only.behind {B b : Nat} {a w w' : World} (h0 : Below B a w) (h : Only b w w') (hb : B ≤ b) (hB : B ≤ w.heap.size) : Below B a w' := h0.trans (h.below hb hB)
/-- Behind an append to a row that is new. -/
theorem Only.grown {b : Nat} {w w' w'' : World} {row : Option Nat} (h : Only b w w') (hg : w'.grownBy w'' row) (hr : ∀ k, row = some k → w.heap.size ≤ k) : Only b w w'' :=
  ⟨hg.os.trans h.os, hg.tape.trans h.tape, hg.output.trans h.output, Nat.le_trans h.size hg.size, fun k hk hb => (hg.block k (Nat.lt_of_lt_of_le hk h.size) (fun e => by have := hr k e.symm; omega)).trans (h.block k hk hb)⟩
/-- A slice of bytes that can be read, off block b. -/
def RdY (w : World) (b : Nat) (v : Value) (n : Nat) : Prop :=
  ∃ A c, v = .slice A n c ∧ n ≤ c ∧ c ≤ maxLen ∧ ∀ k, k < n → ∃ g off x, A = some ⟨g, off, none⟩ ∧ g < w.heap.size ∧ g ≠ b ∧ w.cell? ⟨g, off + k, none⟩ = some (.int .u8 x) ∧ 0 ≤ x ∧ x < 256
theorem RdY.only {w w' : World} {b : Nat} {v : Value} {n : Nat} (h : RdY w b v n) (R : Only b w w') : RdY w' b v n := by
  obtain ⟨A, c, h1, h2, h3, h4⟩ := h
  refine ⟨A, c, h1, h2, h3, fun k hk => ?_⟩
  obtain ⟨g, off, x, e, hg, hb, hc, hx⟩ := h4 k hk
  exact ⟨g, off, x, e, Nat.lt_of_lt_of_le hg R.size, hb, (R.cell (p := ⟨g, off + k, none⟩) hg hb).trans hc, hx⟩
/-- The source lies in block b: the code, how far it has been read, the hash. -/
def Src (w : World) (b : Nat) (v : Value) (n : Nat) : Prop :=
  RdY w b v n ∧ b < w.heap.size ∧ w.cell? ⟨b, 0, none⟩ = some v ∧ (∃ k : Nat, k ≤ n ∧ w.cell? ⟨b, 1, none⟩ = some (.int .i64 (k : Int))) ∧ (∃ h : Int, 0 ≤ h ∧ h < 18446744073709551616 ∧ w.cell? ⟨b, 2, none⟩ = some (.int .u64 h)) ∧
    w.frozen? ⟨b, 1, none⟩ = false ∧ w.frozen? ⟨b, 2, none⟩ = false
theorem Src.keep {w w' : World} {b : Nat} {v : Value} {n : Nat} (h : Src w b v n) (R : Below w.heap.size w w') : Src w' b v n := by
  obtain ⟨h1, h2, h3, ⟨k, hk, h4⟩, ⟨x, hx, hx', h5⟩, h6, h7⟩ := h
  exact ⟨h1.only (Only.ofBelow R), Nat.lt_of_lt_of_le h2 R.size, (R.cell (p := ⟨b, 0, none⟩) h2).trans h3, ⟨k, hk, (R.cell (p := ⟨b, 1, none⟩) h2).trans h4⟩, ⟨x, hx, hx', (R.cell (p := ⟨b, 2, none⟩) h2).trans h5⟩,
    (R.frozen (p := ⟨b, 1, none⟩) h2).trans h6, (R.frozen (p := ⟨b, 2, none⟩) h2).trans h7⟩
theorem Src.alloc {w : World} {b : Nat} {v : Value} {n : Nat} (h : Src w b v n) (o : Obj) : Src (w.alloc o) b v n := h.keep ((Below.refl _ _).alloc (Nat.le_refl _) _)
theorem Src.drewN {w : World} {b : Nat} {v : Value} {n : Nat} (h : Src w b v n) (k : Nat) : Src (w.drewN k) b v n := h
theorem Src.drew {w : World} {b : Nat} {v : Value} {n : Nat} (h : Src w b v n) : Src w.drew b v n := h
theorem and24 {a : Int} (h0 : 0 ≤ a) (h1 : a < 18446744073709551616) : 0 ≤ bits BinOp.and IntKind.u64 a 16777215 ∧ bits BinOp.and IntKind.u64 a 16777215 ≤ 16777215 := by
  obtain ⟨n, rfl⟩ := Int.eq_ofNat_of_zero_le h0
  rw [show (16777215 : Int) = ((16777215 : Nat) : Int) from rfl, bits_and_u64_nat n 16777215 (by omega) (by decide)]
  have := Nat.and_le_right (n := n) (m := 16777215)
  omega
theorem u64_bd (n : Int) : 0 ≤ IntKind.u64.wrap n ∧ IntKind.u64.wrap n < 18446744073709551616 := by
  have h : IntKind.u64.wrap n = n % 18446744073709551616 := by simp [IntKind.wrap, IntKind.bits, IntKind.signed]
  rw [h]
  omega
theorem Src.at_ {w : World} {b : Nat} {v : Value} {n : Nat} (h : Src w b v n) : ∃ A c, v = .slice A n c := by
  obtain ⟨⟨A, c, e, _⟩, _⟩ := h
  exact ⟨A, c, e⟩
theorem Src.hash {w : World} {b : Nat} {v : Value} {n : Nat} (h : Src w b v n) {x : Int} (h0 : 0 ≤ x) (h1 : x < 18446744073709551616) : Src (w.setCell ⟨b, 2, none⟩ (.int .u64 x)) b v n := by
  obtain ⟨r, hb, c0, ⟨k, hk, c1⟩, ⟨y, _, _, c2⟩, f1, f2⟩ := h
  refine ⟨r.only ((Only.refl b w).setCell rfl _), by simpa [World.setCell] using hb, ?_, ⟨k, hk, ?_⟩, ⟨x, h0, h1, World.cell?_setCell_same w _ _ c2⟩, by simpa using f1, by simpa using f2⟩
  · rw [World.cell?_setCell_other w _ _ _ (by simp)]; exact c0
  · rw [World.cell?_setCell_other w _ _ _ (by simp)]; exact c1
theorem Src.step {w : World} {b : Nat} {v : Value} {n : Nat} (h : Src w b v n) {k : Nat} (hk : k ≤ n) : Src (w.setCell ⟨b, 1, none⟩ (.int .i64 (k : Int))) b v n := by
  obtain ⟨r, hb, c0, ⟨k', hk', c1⟩, ⟨y, h0, h1, c2⟩, f1, f2⟩ := h
  refine ⟨r.only ((Only.refl b w).setCell rfl _), by simpa [World.setCell] using hb, ?_, ⟨k, hk, World.cell?_setCell_same w _ _ c1⟩, ⟨y, h0, h1, ?_⟩, by simpa using f1, by simpa using f2⟩
  · rw [World.cell?_setCell_other w _ _ _ (by simp)]; exact c0
  · rw [World.cell?_setCell_other w _ _ _ (by simp)]; exact c2
set_option maxHeartbeats 1000000 in
theorem l01Next_any (w : World) (b : Nat) (v : Value) (n : Nat) (k : Int) (hs : Src w b v n) (_hn : n ≤ 1000000000) (hk : k ≤ 9000000000000000000) :
    Calls Try.prog 92 #[.pointer (some ⟨b, 0, none⟩), .int .i64 k] w fun e w' => ∃ x : Int, e = .returned (.int .i64 x) ∧ 0 ≤ x ∧ ((1 ≤ k → x < k) ∧ (k < 1 → x = 0)) ∧ Src w' b v n ∧ Only b w w' := by
  by_cases h1 : k < 1
  · go_enter Try.func92, Try.ntmps92
    go_wp2
    go_ret
    exact ⟨0, rfl, Int.le_refl _, ⟨fun h => absurd h1 (by omega), fun _ => rfl⟩, hs, Only.refl _ _⟩
  · obtain ⟨⟨A, c, rfl, hc1, hc2, hA⟩, hb, c0, ⟨at', ha, c1⟩, ⟨x, hx, hx', c2⟩, f1, f2⟩ := id hs
    have hub := u64_bd (IntKind.u64.wrap (x * 6364136223846793005) + 1442695040888963407)
    have hd1 : decide (k < 1) = false := by simp; omega
    obtain ⟨H, hH⟩ : ∃ H, IntKind.u64.wrap (IntKind.u64.wrap (x * 6364136223846793005) + 1442695040888963407) = H := ⟨_, rfl⟩
    rw [hH] at hub
    have hyb := and24 (a := H / 8589934592) (by omega) (by omega)
    obtain ⟨Y, hY⟩ : ∃ Y, bits BinOp.and IntKind.u64 (H / 8589934592) 16777215 = Y := ⟨_, rfl⟩
    rw [hY] at hyb
    have hY2 : wrap64 Y = Y := IntWalk.wrap64_in _ (by omega)
    have hk0 : ¬ k = 0 := by omega
    unfold maxLen at hc2
    have hHid := Lib.hid hs
    clear hs
    by_cases hlt : at' < n
    · obtain ⟨g, off, y, rfl, hg, hgb, hcell, hy, hy'⟩ := hA at' hlt
      clear hA
      have hlt1 : (at' : Int) < (n : Int) := by omega
      have hlt0 : (0 : Int) ≤ (at' : Int) := by omega
      have hv1 : wrap64 y = y := IntWalk.wrap64_in _ (by omega)
      have hv2 : IntKind.i64.wrap (Y + y) = Y + y := IntWalk.i64_in _ (by omega)
      have hv3 : IntKind.i64.wrap ((at' : Int) + 1) = (at' : Int) + 1 := IntWalk.i64_in _ (by omega)
      have ne1 : (⟨b, 2, none⟩ : Addr) ≠ ⟨b, 1, none⟩ := by simp
      have ne2 : (⟨b, 2, none⟩ : Addr) ≠ ⟨b, 0, none⟩ := by simp
      have ne3 : (⟨b, 2, none⟩ : Addr) ≠ ⟨g, off + at', none⟩ := by first | (simp; done) | (simp; omega)
      have hr1 := Int.emod_nonneg (Y + y) hk0
      have hr2 := Int.emod_lt_of_pos (Y + y) (show 0 < k by omega)
      have hr3 : (Y + y).tmod k = (Y + y) % k := Int.tmod_eq_emod_of_nonneg (by omega)
      go_enter Try.func92, Try.ntmps92
      go_wp2
      go_quiet (fail)
      go_wp2
      go_quiet (fail)
      go_wp2
      go_ret
      refine ⟨_, rfl, hr1, ⟨fun _ => hr2, fun h => absurd h (by omega)⟩, ?_, (((Only.refl b w).setCell (p := ⟨b, 2, none⟩) rfl _).drewN _).setCell (p := ⟨b, 1, none⟩) rfl _⟩
      exact Src.step (k := at' + 1) (Src.drewN (hHid.out.hash hub.1 hub.2) _) (by omega)
    · have hlt1 : decide ((at' : Int) < (n : Int)) = false := by simp; omega
      clear hA
      have ne1 : (⟨b, 2, none⟩ : Addr) ≠ ⟨b, 1, none⟩ := by simp
      have ne2 : (⟨b, 2, none⟩ : Addr) ≠ ⟨b, 0, none⟩ := by simp
      have hr1 := Int.emod_nonneg Y hk0
      have hr2 := Int.emod_lt_of_pos Y (show 0 < k by omega)
      have hr3 : Y.tmod k = Y % k := Int.tmod_eq_emod_of_nonneg (by omega)
      go_enter Try.func92, Try.ntmps92
      go_wp2
      go_quiet (fail)
      go_wp2
      go_ret
      exact ⟨_, rfl, hr1, ⟨fun _ => hr2, fun h => absurd h (by omega)⟩, Src.drewN (hHid.out.hash hub.1 hub.2) _, ((Only.refl b w).setCell (p := ⟨b, 2, none⟩) rfl _).drewN _⟩

/-- A number is returned, the source goes on. -/
def RetX (w : World) (b : Nat) (v : Value) (n : Nat) (p : Int → Prop) (e : Ending) (w' : World) : Prop := ∃ x : Int, e = .returned (.int .i64 x) ∧ p x ∧ Src w' b v n ∧ Only b w w'
set_option maxRecDepth 4000 in
set_option maxHeartbeats 1000000 in
theorem l01Pick_any (w : World) (b : Nat) (v u : Value) (n B : Nat) (xs : List Int) (hs : Src w b v n) (hn : n ≤ 1000000000) (hu : OwnI w B u xs) (hb : b < B) (h0 : 0 < xs.length) (hl : xs.length ≤ 1000000) (p : Int → Prop) (hp : ∀ x ∈ xs, p x) :
    Calls Try.prog 90 #[.pointer (some ⟨b, 0, none⟩), u] w (RetX w b v n p) := by
  obtain ⟨A, c, rfl, hc1, hc2, hA⟩ := hu.open_
  unfold maxLen at hc2
  obtain ⟨g, rfl, hg1, hg2, -, -⟩ := hA 0 h0
  have hcl : Hid (∀ k, k < xs.length → w.cell? ⟨g, k, none⟩ = some (.int .i64 (xs.getD k 0))) := by
    intro k hk
    obtain ⟨g', e, _, _, h, _⟩ := hA k hk
    simp at e
    subst e
    exact h
  clear hA
  go_enter Try.func90, Try.ntmps90
  go_wp2_with (go_at_call 92; refine (l01Next_any w b v n (xs.length : Int) hs hn (by omega)).mono ?_; rintro e w1 ⟨x, rfl, hx0, hx1, s1, o1⟩; have hx2 := hx1.1 (by omega); obtain ⟨k, rfl⟩ := Int.eq_ofNat_of_zero_le hx0; have hc1 := (o1.cell (p := ⟨g, k, none⟩) hg2 (by show g ≠ b; omega)).trans (hcl.out k (by omega)))
  go_ret
  exact ⟨_, rfl, hp _ (by rw [List.getElem?_eq_getElem (show k < xs.length by omega)]; exact List.getElem_mem _), s1, o1⟩
set_option maxHeartbeats 1000000 in
theorem l01From_any (w : World) (v : Value) (n : Nat) (hv : RdY w w.heap.size v n) (hn : n ≤ 1000000000) :
    Calls Try.prog 89 #[v] w fun e w' => ∃ b, e = .returned (.pointer (some ⟨b, 0, none⟩)) ∧ w.heap.size ≤ b ∧ Src w' b v n ∧ Below w.heap.size w w' := by
  obtain ⟨A, c, rfl, hc1, hc2, hA⟩ := id hv
  unfold maxLen at hc2
  have hS : Src (w.alloc (.cells #[.slice A n c, .int .i64 0, .int .u64 (5113 + (n : Int))] 112)) w.heap.size (.slice A n c) n := by
    refine ⟨hv.only (Only.ofBelow ((Below.refl _ _).alloc (Nat.le_refl _) _)), by simp, by simp, ⟨0, Nat.zero_le _, by simp⟩, ⟨5113 + (n : Int), by omega, by omega, by simp⟩, by simp, by simp⟩
  have HS := Lib.hid hS
  clear hS
  go_enter Try.func89, Try.ntmps89
  go_wp2
  go_loopw [4] (fun s wr => ∃ k : Nat, k ≤ n ∧ s = .int .i64 (k : Int) ∧ Hid (Src wr w.heap.size (.slice A n c) n) ∧ Hid (Below w.heap.size w wr)) (fun s _ => n - (intOf s).toNat)
  case atStart => exact ⟨0, Nat.zero_le _, rfl, HS, by unfold Hid; (repeat (first | assumption | exact Below.refl _ _ | refine Below.alloc ?_ (by first | omega | (simp; done) | (simp; omega)) _ | refine Below.setCell ?_ (by first | omega | (simp; done) | (simp; omega)) _ | refine below_drewN ?_ _))⟩
  case round =>
    clear HS
    obtain ⟨k, hk, rfl, HS, HB⟩ := hrel
    by_cases hlt : k < n
    · by_cases hl2 : k < 4096
      · have hl1 : (k : Int) < (n : Int) := by omega
        have hl3 : (k : Int) < 4096 := by omega
        have hl4 : (0 : Int) ≤ (k : Int) := by omega
        obtain ⟨⟨A', c', e, _, _, hA2⟩, hb, c0, _, ⟨x, hx, hx', c2⟩, _, f2⟩ := id HS.out
        simp only [Value.slice.injEq, true_and] at e
        obtain ⟨rfl, rfl⟩ := e
        obtain ⟨g, off, y, rfl, hg, hgb, hcell, hy, hy'⟩ := hA2 k hlt
        clear hA hA2 hv c0
        go_wp2
        go_region
        go_wp2
        go_roundw
        case rel => exact ⟨k + 1, by omega, by go_num, (HS.out.hash (u64_bd _).1 (u64_bd _).2).drew, (HB.out.setCell (Nat.le_refl _) _).drew⟩
        case measure => simp [intOf]; omega
      · have hl1 : (k : Int) < (n : Int) := by omega
        have hl3 : decide ((k : Int) < 4096) = false := by simp; omega
        clear hA hv
        go_wp2
        go_ret
        exact ⟨_, rfl, Nat.le_refl _, HS.out, HB.out⟩
    · have hl1 : decide ((k : Int) < (n : Int)) = false := by simp; omega
      clear hA hv
      go_wp2
      go_ret
      exact ⟨_, rfl, Nat.le_refl _, HS.out, HB.out⟩

/-! ### Draws of numbers, printed by gen_dr.py -/
theorem OwnI.litN (w : World) (xs : List Int) (cs : Array Value) (hc : cs.toList = xs.map (Value.int .i64)) (hl : xs.length ≤ maxLen) {B : Nat} (hB : B ≤ w.heap.size) : OwnI (w.alloc (.cells cs 2)) B (.slice (some ⟨w.heap.size, 0, none⟩) xs.length xs.length) xs := (RowI.lit w xs cs hc hl).own hB
theorem Src.lt {w : World} {b : Nat} {v : Value} {n : Nat} (h : Src w b v n) : b < w.heap.size := h.2.1
set_option maxHeartbeats 2000000 in
theorem l01DrawModulus_any (w : World) (b : Nat) (v : Value) (n : Nat) (hs : Src w b v n) (hn : n ≤ 1000000000) : Calls Try.prog 152 #[.pointer (some ⟨b, 0, none⟩)] w (RetX w b v n fun x => 2 ≤ x ∧ x ≤ 10001) := by
  have s0 := hs
  have K0 := Only.refl b w
  go_enter Try.func152, Try.ntmps152
  go_wp2_with (first | (go_at_call_of 92 (Value.int IntKind.i64 100); refine (l01Next_any _ b v n (100) s0 hn (by omega)).mono ?_; rintro e w1 ⟨x1, rfl, g1, h1, s1, o1⟩; have K1 := K0.trans o1; have h1 := h1.1 (by omega); have e1 : IntKind.i64.wrap (2 + x1) = 2 + x1 := IntWalk.i64_in _ (by omega)) | (go_at_call_of 92 (Value.int IntKind.i64 9999); refine (l01Next_any _ b v n (9999) s1 hn (by omega)).mono ?_; rintro e w2 ⟨x2, rfl, g2, h2, s2, o2⟩; have K2 := K1.trans o2; have h2 := h2.1 (by omega); have e2 : IntKind.i64.wrap (2 + x2) = 2 + x2 := IntWalk.i64_in _ (by omega)) | (go_at_call 90; refine (l01Pick_any _ b v _ n w2.heap.size [2, 3, 4, 5, 6, 7, 8, 9, 10, 12, 16, 25, 27, 30, 49, 101, 210, 2 + x1, 2 + x2, 10000] (s2.alloc _) hn (OwnI.litN w2 _ _ (by rfl) (by simp [maxLen]) (Nat.le_refl _)) s2.lt (by simp) (by simp) (fun x => 2 ≤ x ∧ x ≤ 10001) (by intro x hx; simp at hx; omega)).mono ?_; rintro e w3 ⟨x3, rfl, h3, s3, o3⟩; have K3 := (K2.alloc _).trans o3; skip))
  all_goals go_ret
  all_goals first | exact ⟨_, rfl, (by first | assumption | omega | (constructor <;> omega)), s3, K3⟩
set_option maxHeartbeats 2000000 in
theorem l01Spoil_any (w : World) (b : Nat) (v : Value) (n : Nat) (hs : Src w b v n) (hn : n ≤ 1000000000) : Calls Try.prog 120 #[.pointer (some ⟨b, 0, none⟩)] w (RetX w b v n fun x => -5 ≤ x ∧ x ≤ 1099511627776) := by
  have s0 := hs
  have K0 := Only.refl b w
  go_enter Try.func120, Try.ntmps120
  go_wp2_with (first | (go_at_call_of 92 (Value.int IntKind.i64 20); refine (l01Next_any _ b v n (20) s0 hn (by omega)).mono ?_; rintro e w1 ⟨x1, rfl, g1, h1, s1, o1⟩; have K1 := K0.trans o1; have h1 := h1.1 (by omega); skip) | (go_at_call 90; refine (l01Pick_any _ b v _ n w1.heap.size [0, 1, -5, 10001, 1099511627776] (s1.alloc _) hn (OwnI.litN w1 _ _ (by rfl) (by simp [maxLen]) (Nat.le_refl _)) s1.lt (by simp) (by simp) (fun x => -5 ≤ x ∧ x ≤ 1099511627776) (by intro x hx; simp at hx; omega)).mono ?_; rintro e w2 ⟨x2, rfl, h2, s2, o2⟩; have K2 := (K1.alloc _).trans o2; skip) | (go_at_call 152; refine (l01DrawModulus_any _ b v n  s1 hn).mono ?_; rintro e w3 ⟨x3, rfl, h3, s3, o3⟩; have K3 := K1.trans o3; skip))
  all_goals go_ret
  all_goals first | exact ⟨_, rfl, (by first | assumption | omega | (constructor <;> omega)), s2, K2⟩ | exact ⟨_, rfl, (by first | assumption | omega | (constructor <;> omega)), s3, K3⟩
set_option maxHeartbeats 2000000 in
theorem l01Number_any (w : World) (b : Nat) (v : Value) (n : Nat) (m : Int) (hm : -5 ≤ m ∧ m ≤ 1099511627776) (hs : Src w b v n) (hn : n ≤ 1000000000) : Calls Try.prog 122 #[.pointer (some ⟨b, 0, none⟩), .int .i64 m] w (RetX w b v n fun x => -4611686018427387904 ≤ x ∧ x ≤ 1099511627776) := by
  have s0 := hs
  have K0 := Only.refl b w
  go_enter Try.func122, Try.ntmps122
  go_wp2_with (first | (go_at_call_of 92 (Value.int IntKind.i64 24); (fail_if_success have _h := K1); refine (l01Next_any _ b v n (24) s0 hn (by omega)).mono ?_; rintro e w1 ⟨x1, rfl, g1, h1, s1, o1⟩; have K1 := K0.trans o1; have h1 := h1.1 (by omega); skip) | (go_at_call 90; refine (l01Pick_any _ b v _ n w1.heap.size [-1, m, 1099511627776, -4611686018427387904] (s1.alloc _) hn (OwnI.litN w1 _ _ (by rfl) (by simp [maxLen]) (Nat.le_refl _)) s1.lt (by simp) (by simp) (fun x => -4611686018427387904 ≤ x ∧ x ≤ 1099511627776) (by intro x hx; simp at hx; omega)).mono ?_; rintro e w2 ⟨x2, rfl, h2, s2, o2⟩; have K2 := (K1.alloc _).trans o2; skip) | (go_at_call 92; refine (l01Next_any _ b v n (m) s1 hn (by omega)).mono ?_; rintro e w3 ⟨x3, rfl, g3, h3, s3, o3⟩; have K3 := K1.trans o3; skip))
  all_goals go_ret
  all_goals first | exact ⟨_, rfl, (by first | assumption | omega | (constructor <;> omega)), s2, K2⟩ | exact ⟨_, rfl, (by first | assumption | omega | (constructor <;> omega)), s3, K3⟩
set_option maxHeartbeats 2000000 in
theorem l01Count_any (w : World) (b : Nat) (v : Value) (n : Nat) (m : Int) (hm : 1 ≤ m ∧ m ≤ 1000) (hs : Src w b v n) (hn : n ≤ 1000000000) : Calls Try.prog 99 #[.pointer (some ⟨b, 0, none⟩), .int .i64 m] w (RetX w b v n fun x => -4611686018427387904 ≤ x ∧ x ≤ 1099511627776) := by
  have s0 := hs
  have K0 := Only.refl b w
  have em : IntKind.i64.wrap (m + 1) = m + 1 := IntWalk.i64_in _ (by omega)
  go_enter Try.func99, Try.ntmps99
  go_wp2_with (first | (go_at_call_of 92 (Value.int IntKind.i64 14); (fail_if_success have _h := K1); refine (l01Next_any _ b v n (14) s0 hn (by omega)).mono ?_; rintro e w1 ⟨x1, rfl, g1, h1, s1, o1⟩; have K1 := K0.trans o1; have h1 := h1.1 (by omega); skip) | (go_at_call 90; refine (l01Pick_any _ b v _ n w1.heap.size [-1, m + 1, 1099511627776, -4611686018427387904] (s1.alloc _) hn (OwnI.litN w1 _ _ (by rfl) (by simp [maxLen]) (Nat.le_refl _)) s1.lt (by simp) (by simp) (fun x => -4611686018427387904 ≤ x ∧ x ≤ 1099511627776) (by intro x hx; simp at hx; omega)).mono ?_; rintro e w2 ⟨x2, rfl, h2, s2, o2⟩; have K2 := (K1.alloc _).trans o2; skip) | (go_at_call 92; refine (l01Next_any _ b v n (m + 1) s1 hn (by omega)).mono ?_; rintro e w3 ⟨x3, rfl, g3, h3, s3, o3⟩; have K3 := K1.trans o3; skip))
  all_goals go_ret
  all_goals first | exact ⟨_, rfl, (by first | assumption | omega | (constructor <;> omega)), s2, K2⟩ | exact ⟨_, rfl, (by first | assumption | omega | (constructor <;> omega)), s3, K3⟩
theorem mul_ab {a x : Int} (h1 : -500000 ≤ a) (h2 : a ≤ 500000) (h3 : 1 ≤ x) (h4 : x ≤ 1024) : -512000000 ≤ a * x ∧ a * x ≤ 512000000 := by
  have g1 : -500000 * x ≤ a * x := Int.mul_le_mul_of_nonneg_right h1 (by omega)
  have g2 : a * x ≤ 500000 * x := Int.mul_le_mul_of_nonneg_right h2 (by omega)
  omega
set_option maxHeartbeats 2000000 in
theorem l01Any_any (w : World) (b : Nat) (v : Value) (n : Nat) (hs : Src w b v n) (hn : n ≤ 1000000000) : Calls Try.prog 91 #[.pointer (some ⟨b, 0, none⟩)] w (RetX w b v n fun x => -4611686018427387904 ≤ x ∧ x ≤ 1099511627776) := by
  have s0 := hs
  have K0 := Only.refl b w
  go_enter Try.func91, Try.ntmps91
  go_wp2_with (first | (go_at_call_of 92 (Value.int IntKind.i64 20); refine (l01Next_any _ b v n (20) s0 hn (by omega)).mono ?_; rintro e w1 ⟨x1, rfl, g1, h1, s1, o1⟩; have K1 := K0.trans o1; have h1 := h1.1 (by omega); skip) | (go_at_call_of 92 (Value.int IntKind.i64 41); refine (l01Next_any _ b v n (41) s1 hn (by omega)).mono ?_; rintro e w3 ⟨x3, rfl, g3, h3, s3, o3⟩; have K3 := K1.trans o3; have h3 := h3.1 (by omega); have e3 : IntKind.i64.wrap (x3 - 20) = x3 - 20 := IntWalk.i64_in _ (by omega)) | (go_at_call_of 92 (Value.int IntKind.i64 2001); refine (l01Next_any _ b v n (2001) s3 hn (by omega)).mono ?_; rintro e w4 ⟨x4, rfl, g4, h4, s4, o4⟩; have K4 := K3.trans o4; have h4 := h4.1 (by omega); have e4 : IntKind.i64.wrap (x4 - 1000) = x4 - 1000 := IntWalk.i64_in _ (by omega)) | (go_at_call_of 92 (Value.int IntKind.i64 1000000); refine (l01Next_any _ b v n (1000000) s4 hn (by omega)).mono ?_; rintro e w5 ⟨x5, rfl, g5, h5, s5, o5⟩; have K5 := K4.trans o5; have h5 := h5.1 (by omega); have e5 : IntKind.i64.wrap (x5 - 500000) = x5 - 500000 := IntWalk.i64_in _ (by omega)) | (go_at_call 90; have _h := K6; refine (l01Pick_any _ b v _ n w6.heap.size [x3 - 20, x4 - 1000, (x5 - 500000) * x6] (s6.alloc _) hn (OwnI.litN w6 _ _ (by rfl) (by simp [maxLen]) (Nat.le_refl _)) s6.lt (by simp) (by simp) (fun x => -4611686018427387904 ≤ x ∧ x ≤ 1099511627776) (by intro x hx; simp at hx; omega)).mono ?_; rintro e w7 ⟨x7, rfl, h7, s7, o7⟩; have K7 := (K6.alloc _).trans o7; skip) | (go_at_call 90; have _h := K5; refine (l01Pick_any _ b v _ n w5.heap.size [1, 1000, 1024] (s5.alloc _) hn (OwnI.litN w5 _ _ (by rfl) (by simp [maxLen]) (Nat.le_refl _)) s5.lt (by simp) (by simp) (fun x => 1 ≤ x ∧ x ≤ 1024) (by intro x hx; simp at hx; omega)).mono ?_; rintro e w6 ⟨x6, rfl, h6, s6, o6⟩; have K6 := (K5.alloc _).trans o6; have e7 : -512000000 ≤ (x5 - 500000) * x6 ∧ (x5 - 500000) * x6 ≤ 512000000 := mul_ab (by omega) (by omega) h6.1 h6.2; have e6 : IntKind.i64.wrap ((x5 - 500000) * x6) = (x5 - 500000) * x6 := IntWalk.i64_in _ (by omega)) | (go_at_call 90; refine (l01Pick_any _ b v _ n w1.heap.size [1000000000000, -1000000000000, 1000000000001, -4611686018427387904] (s1.alloc _) hn (OwnI.litN w1 _ _ (by rfl) (by simp [maxLen]) (Nat.le_refl _)) s1.lt (by simp) (by simp) (fun x => -4611686018427387904 ≤ x ∧ x ≤ 1099511627776) (by intro x hx; simp at hx; omega)).mono ?_; rintro e w2 ⟨x2, rfl, h2, s2, o2⟩; have K2 := (K1.alloc _).trans o2; skip))
  all_goals go_ret
  all_goals first | exact ⟨_, rfl, (by first | assumption | omega | (constructor <;> omega)), s2, K2⟩ | exact ⟨_, rfl, (by first | assumption | omega | (constructor <;> omega)), s7, K7⟩

/-! ### Draws of arguments, printed by gen_dr3.py -/
def Draw1 (w : World) (e : Ending) (w' : World) : Prop := ∃ x : Int, e = .returned (.int .i64 x) ∧ Below w.heap.size w w'
def Draw2 (w : World) (e : Ending) (w' : World) : Prop := ∃ x y : Int, e = .returned (.tuple #[.int .i64 x, .int .i64 y]) ∧ Below w.heap.size w w'
def Draw3 (w : World) (e : Ending) (w' : World) : Prop := ∃ x y z : Int, e = .returned (.tuple #[.int .i64 x, .int .i64 y, .int .i64 z]) ∧ Below w.heap.size w w'
set_option maxHeartbeats 2000000 in
theorem l01Two_any (w : World) (v : Value) (n : Nat) (hv : RdY w w.heap.size v n) (hn : n ≤ 1000000000) : Calls Try.prog 118 #[v] w (Draw3 w) := by
  obtain ⟨A, c, e0, _⟩ := id hv
  subst e0
  go_enter Try.func118, Try.ntmps118
  go_wp2_with (first | (go_at_call 89; refine (l01From_any w _ n hv hn).mono ?_; rintro e w1 ⟨b, rfl, hb, s1, B1⟩; have K1 := Only.refl b w1; skip) | (go_at_call 120; refine (l01Spoil_any _ b _ n  s1 hn).mono ?_; rintro e w2 ⟨x2, rfl, h2, s2, o2⟩; have K2 := K1.trans o2; skip) | (go_at_call 122; have _h := K3; refine (l01Number_any _ b _ n x2 h2 s3 hn).mono ?_; rintro e w4 ⟨x4, rfl, h4, s4, o4⟩; have K4 := K3.trans o4; skip) | (go_at_call 122; have _h := K2; refine (l01Number_any _ b _ n x2 h2 s2 hn).mono ?_; rintro e w3 ⟨x3, rfl, h3, s3, o3⟩; have K3 := K2.trans o3; skip))
  all_goals exact bodyPost_ret (v := .tuple #[.int .i64 x2, .int .i64 x3, .int .i64 x4]) (by simp [results, Try.results118, go_sem]) rfl ⟨_, _, _, rfl, Only.behind B1 K4 hb B1.size⟩
theorem l01One_any (w : World) (v : Value) (n : Nat) (hv : RdY w w.heap.size v n) (hn : n ≤ 1000000000) : Calls Try.prog 107 #[v] w (Draw2 w) := by
  obtain ⟨A, c, e0, _⟩ := id hv
  subst e0
  go_enter Try.func107, Try.ntmps107
  go_wp2_with (go_at_call 118; refine (l01Two_any w _ n hv hn).mono ?_; rintro e w1 ⟨x0, x1, x2, rfl, B1⟩)
  go_ret2
  exact ⟨_, _, rfl, B1⟩
theorem DrawInverseModulo_any (w : World) (v : Value) (n : Nat) (hv : RdY w w.heap.size v n) (hn : n ≤ 1000000000) : Calls Try.prog 37 #[v] w (Draw2 w) := by
  obtain ⟨A, c, e0, _⟩ := id hv
  subst e0
  go_enter Try.func37, Try.ntmps37
  go_wp2_with (go_at_call 107; refine (l01One_any w _ n hv hn).mono ?_; rintro e w1 ⟨x0, x1, rfl, B1⟩)
  go_ret2
  exact ⟨_, _, rfl, B1⟩
theorem DrawSolveModulo_any (w : World) (v : Value) (n : Nat) (hv : RdY w w.heap.size v n) (hn : n ≤ 1000000000) : Calls Try.prog 49 #[v] w (Draw3 w) := by
  obtain ⟨A, c, e0, _⟩ := id hv
  subst e0
  go_enter Try.func49, Try.ntmps49
  go_wp2_with (go_at_call 118; refine (l01Two_any w _ n hv hn).mono ?_; rintro e w1 ⟨x0, x1, x2, rfl, B1⟩)
  exact bodyPost_ret (v := .tuple #[.int .i64 x0, .int .i64 x1, .int .i64 x2]) (by simp [results, Try.results49, go_sem]) rfl ⟨_, _, _, rfl, B1⟩
set_option maxHeartbeats 2000000 in
theorem DrawRemainderOf_any (w : World) (v : Value) (n : Nat) (hv : RdY w w.heap.size v n) (hn : n ≤ 1000000000) : Calls Try.prog 56 #[v] w (Draw2 w) := by
  obtain ⟨A, c, e0, _⟩ := id hv
  subst e0
  go_enter Try.func56, Try.ntmps56
  go_wp2_with (first | (go_at_call 89; refine (l01From_any w _ n hv hn).mono ?_; rintro e w1 ⟨b, rfl, hb, s1, B1⟩; have K1 := Only.refl b w1; skip) | (go_at_call 120; refine (l01Spoil_any _ b _ n  s1 hn).mono ?_; rintro e w2 ⟨x2, rfl, h2, s2, o2⟩; have K2 := K1.trans o2; skip) | (go_at_call 91; refine (l01Any_any _ b _ n  s2 hn).mono ?_; rintro e w3 ⟨x3, rfl, h3, s3, o3⟩; have K3 := K2.trans o3; skip))
  all_goals go_ret2
  all_goals exact ⟨_, _, rfl, Only.behind B1 K3 hb B1.size⟩
set_option maxHeartbeats 2000000 in
theorem DrawPrimeFactors_any (w : World) (v : Value) (n : Nat) (hv : RdY w w.heap.size v n) (hn : n ≤ 1000000000) : Calls Try.prog 23 #[v] w (Draw1 w) := by
  obtain ⟨A, c, e0, _⟩ := id hv
  subst e0
  go_enter Try.func23, Try.ntmps23
  go_wp2_with (first | (go_at_call 89; refine (l01From_any w _ n hv hn).mono ?_; rintro e w1 ⟨b, rfl, hb, s1, B1⟩; have K1 := Only.refl b w1; skip) | (go_at_call 91; refine (l01Any_any _ b _ n  s1 hn).mono ?_; rintro e w2 ⟨x2, rfl, h2, s2, o2⟩; have K2 := K1.trans o2; skip) | (go_at_call_of 92 (Value.int IntKind.i64 2000); refine (l01Next_any _ b _ n (2000) s2 hn (by omega)).mono ?_; rintro e w3 ⟨x3, rfl, g3, h3, s3, o3⟩; have K3 := K2.trans o3; have h3 := h3.1 (by omega); have e3 : IntKind.i64.wrap (1 + x3) = 1 + x3 := IntWalk.i64_in _ (by omega)) | (go_at_call_of 92 (Value.int IntKind.i64 1000); refine (l01Next_any _ b _ n (1000) s3 hn (by omega)).mono ?_; rintro e w4 ⟨x4, rfl, g4, h4, s4, o4⟩; have K4 := K3.trans o4; have h4 := h4.1 (by omega); have e4 : IntKind.i64.wrap (1024 * x4) = 1024 * x4 := IntWalk.i64_in _ (by omega)) | (go_at_call 90; refine (l01Pick_any _ b _ _ n w4.heap.size [x2, 1 + x3, 999999999989, 1024 * x4] (s4.alloc _) hn (OwnI.litN w4 _ _ (by rfl) (by simp [maxLen]) (Nat.le_refl _)) s4.lt (by simp) (by simp) (fun x => -4611686018427387904 ≤ x ∧ x ≤ 4611686018427387904) (by intro x hx; simp at hx; omega)).mono ?_; rintro e w5 ⟨x5, rfl, h5, s5, o5⟩; have K5 := (K4.alloc _).trans o5; skip))
  all_goals go_ret
  all_goals exact ⟨_, rfl, Only.behind B1 K5 hb B1.size⟩
set_option maxHeartbeats 2000000 in
theorem DrawBinomialNumber_any (w : World) (v : Value) (n : Nat) (hv : RdY w w.heap.size v n) (hn : n ≤ 1000000000) : Calls Try.prog 29 #[v] w (Draw2 w) := by
  obtain ⟨A, c, e0, _⟩ := id hv
  subst e0
  go_enter Try.func29, Try.ntmps29
  go_wp2_with (first | (go_at_call 89; refine (l01From_any w _ n hv hn).mono ?_; rintro e w1 ⟨b, rfl, hb, s1, B1⟩; have K1 := Only.refl b w1; skip) | (go_at_call 99; have _h := K2; refine (l01Count_any _ b _ n 60 (by omega) s2 hn).mono ?_; rintro e w3 ⟨x3, rfl, h3, s3, o3⟩; have K3 := K2.trans o3; skip) | (go_at_call 99; refine (l01Count_any _ b _ n 60 (by omega) s1 hn).mono ?_; rintro e w2 ⟨x2, rfl, h2, s2, o2⟩; have K2 := K1.trans o2; skip))
  all_goals go_ret2
  all_goals exact ⟨_, _, rfl, Only.behind B1 K3 hb B1.size⟩
set_option maxHeartbeats 2000000 in
theorem DrawBinomialDivisor_any (w : World) (v : Value) (n : Nat) (hv : RdY w w.heap.size v n) (hn : n ≤ 1000000000) : Calls Try.prog 32 #[v] w (Draw1 w) := by
  obtain ⟨A, c, e0, _⟩ := id hv
  subst e0
  go_enter Try.func32, Try.ntmps32
  go_wp2_with (first | (go_at_call 89; refine (l01From_any w _ n hv hn).mono ?_; rintro e w1 ⟨b, rfl, hb, s1, B1⟩; have K1 := Only.refl b w1; skip) | (go_at_call 99; refine (l01Count_any _ b _ n 60 (by omega) s1 hn).mono ?_; rintro e w2 ⟨x2, rfl, h2, s2, o2⟩; have K2 := K1.trans o2; skip))
  all_goals go_ret
  all_goals exact ⟨_, rfl, Only.behind B1 K2 hb B1.size⟩
set_option maxHeartbeats 2000000 in
theorem DrawValuationOf_any (w : World) (v : Value) (n : Nat) (hv : RdY w w.heap.size v n) (hn : n ≤ 1000000000) : Calls Try.prog 35 #[v] w (Draw2 w) := by
  obtain ⟨A, c, e0, _⟩ := id hv
  subst e0
  go_enter Try.func35, Try.ntmps35
  go_wp2_with (first | (go_at_call 89; refine (l01From_any w _ n hv hn).mono ?_; rintro e w1 ⟨b, rfl, hb, s1, B1⟩; have K1 := Only.refl b w1; skip) | (go_at_call 90; have _h := K4; refine (l01Pick_any _ b _ _ n w4.heap.size [x3, _, 0, 4096] (s4.alloc _) hn (OwnI.litN w4 _ _ (by rfl) (by simp [maxLen]) (Nat.le_refl _)) s4.lt (by simp) (by simp) (fun _ => True) (fun _ _ => True.intro)).mono ?_; rintro e w6 ⟨x6, rfl, h6, s6, o6⟩; have K6 := (K4.alloc _).trans o6; skip) | (go_at_call 90; refine (l01Pick_any _ b _ _ n w1.heap.size [2, 3, 5, 7, 997, 1, 4, 1009] (s1.alloc _) hn (OwnI.litN w1 _ _ (by rfl) (by simp [maxLen]) (Nat.le_refl _)) s1.lt (by simp) (by simp) (fun _ => True) (fun _ _ => True.intro)).mono ?_; rintro e w2 ⟨x2, rfl, h2, s2, o2⟩; have K2 := (K1.alloc _).trans o2; skip) | (go_at_call 91; have _h := K3; refine (l01Any_any _ b _ n  s3 hn).mono ?_; rintro e w4 ⟨x4, rfl, h4, s4, o4⟩; have K4 := K3.trans o4; skip) | (go_at_call 91; have _h := K2; refine (l01Any_any _ b _ n  s2 hn).mono ?_; rintro e w3 ⟨x3, rfl, h3, s3, o3⟩; have K3 := K2.trans o3; skip))
  all_goals go_ret2
  all_goals exact ⟨_, _, rfl, Only.behind B1 K6 hb B1.size⟩

/-! ### The laws' own comparisons of lists -/
theorem likeInts_any (w : World) (v u : Value) (xs ys : List Int) (hv : RdI w v xs) (hu : RdI w u ys) : Calls Try.prog 59 #[v, u] w fun e w' => e = .returned (.bool (xs == ys)) ∧ ∃ n, w' = w.drewN n := by
  obtain ⟨A, c, rfl, hc1, hc2, hA⟩ := hv
  obtain ⟨A', c', rfl, hc1', hc2', hA'⟩ := hu
  unfold maxLen at hc2 hc2'
  by_cases hl : xs.length = ys.length
  · have hnl : (xs.length != ys.length) = false := by simpa using hl
    have hnl' : ((xs.length : Int) != (ys.length : Int)) = false := by rw [hl]; simp
    have HL := Lib.hid hl
    clear hl
    go_enter Try.func59, Try.ntmps59
    go_wp2
    go_loopw [5] (fun i wr => ∃ k : Nat, k ≤ xs.length ∧ i = .int .i64 k ∧ Hid (∀ j, j < k → xs.getD j 0 = ys.getD j 0) ∧ ∃ n, wr = w.drewN n) (fun i _ => xs.length - (intOf i).toNat)
    case atStart => exact ⟨0, Nat.zero_le _, rfl, (fun j hj => by omega), 0, rfl⟩
    case round =>
      obtain ⟨k, hk, rfl, hp, n, rfl⟩ := hrel
      by_cases hlt : k < xs.length
      · obtain ⟨b, off, rfl, hb1, hcell⟩ := hA k hlt
        have hlt' : k < ys.length := by rw [← HL.out]; exact hlt
        obtain ⟨b', off', rfl, hb1', hcell'⟩ := hA' k hlt'
        clear hA hA'
        obtain ⟨x, hx⟩ : ∃ x, x = xs.getD k 0 := ⟨_, rfl⟩
        obtain ⟨y, hy⟩ : ∃ y, y = ys.getD k 0 := ⟨_, rfl⟩
        rw [← hx] at hcell
        rw [← hy] at hcell'
        have HX := Lib.hid hx
        have HY := Lib.hid hy
        clear hx hy
        have hi0 : (0 : Int) ≤ (k : Int) := by omega
        have hi1 : (k : Int) < (xs.length : Int) := by omega
        have hi2 : (k : Int) < (ys.length : Int) := by omega
        by_cases hxy : x = y
        · have hne : (x != y) = false := by simpa using hxy
          have HXY := Lib.hid hxy
          clear hxy
          go_wp2
          go_quiet (fail)
          go_wp2
          go_roundw
          case rel =>
            refine ⟨k + 1, by omega, by go_num, fun j hj => ?_, n + nq, by first | rfl | rw [World.drewN_drewN]⟩
            rcases Nat.lt_or_ge j k with h | h
            · exact hp.out j h
            · obtain rfl : j = k := by omega
              rw [← HX.out, ← HY.out]; exact HXY.out
          case measure => simp [intOf]; omega
        · have hne : (x != y) = true := by simpa using hxy
          have HF : Hid ((xs == ys) = false) := by
            unfold Hid
            rw [beq_eq_false_iff_ne]
            intro h
            apply hxy
            rw [HX.out, HY.out, h]
          clear hxy
          go_wp2
          go_quiet (fail)
          go_wp2
          go_ret
          exact ⟨by rw [HF.out]; rfl, n + nq, by first | rfl | rw [World.drewN_drewN]⟩
      · have HF : Hid ((xs == ys) = true) := by
          unfold Hid
          rw [beq_iff_eq]
          exact eq_of_getD HL.out fun j hj => hp.out j (by omega)
        go_wp2
        go_ret
        exact ⟨by rw [HF.out]; rfl, n, rfl⟩
  · have hnl : (xs.length != ys.length) = true := by simpa using hl
    have hnl' : ((xs.length : Int) != (ys.length : Int)) = true := by simp; omega
    have HF : Hid ((xs == ys) = false) := by
      unfold Hid
      rw [beq_eq_false_iff_ne]
      intro h
      exact hl (by rw [h])
    clear hl
    go_enter Try.func59, Try.ntmps59
    go_wp2
    go_ret
    exact ⟨by rw [HF.out]; rfl, 0, rfl⟩
theorem likeL_any (w : World) (v u : Value) (xs ys : List Int) (hv : RdI w v xs) (hu : RdI w u ys) : Calls Try.prog 59 #[v, u] w fun e w' => e = .returned (.bool (xs == ys)) ∧ Below w.heap.size w w' :=
  (likeInts_any w v u xs ys hv hu).mono fun e w' h => by obtain ⟨h1, k, rfl⟩ := h; exact ⟨h1, below_drewN (Below.refl _ _) k⟩
theorem rows5_any (w : World) (v u : Value) (xss yss : List (List Int)) (hv : RdP w v xss) (hu : RdP w u yss) : Calls Try.prog 26 #[v, u] w fun e w' => e = .returned (.bool (xss == yss)) ∧ Below w.heap.size w w' := by
  obtain ⟨A, c, rfl, hc1, hc2, hA⟩ := hv
  obtain ⟨A', c', rfl, hc1', hc2', hA'⟩ := hu
  unfold maxLen at hc2 hc2'
  by_cases hl : xss.length = yss.length
  · have hnl : (xss.length != yss.length) = false := by simpa using hl
    have hnl' : ((xss.length : Int) != (yss.length : Int)) = false := by rw [hl]; simp
    have HL := Lib.hid hl
    clear hl
    go_enter Try.func26, Try.ntmps26
    go_wp2
    go_loopw [5] (fun i wr => ∃ k : Nat, k ≤ xss.length ∧ i = .int .i64 k ∧ Hid (∀ j, j < k → xss.getD j [] = yss.getD j []) ∧ Below w.heap.size w wr) (fun i _ => xss.length - (intOf i).toNat)
    case atStart => exact ⟨0, Nat.zero_le _, rfl, (fun j hj => by omega), Below.refl _ _⟩
    case round =>
      obtain ⟨k, hk, rfl, hp, hb⟩ := hrel
      by_cases hlt : k < xss.length
      · obtain ⟨b, off, u, rfl, hb1, hcell, hr⟩ := hA k hlt
        have hlt' : k < yss.length := by rw [← HL.out]; exact hlt
        obtain ⟨b', off', u', rfl, hb1', hcell', hr'⟩ := hA' k hlt'
        clear hA hA'
        have hc0 : wr.cell? ⟨b, off + k, none⟩ = some u := (hb.cell (p := ⟨b, off + k, none⟩) hb1).trans hcell
        have hc0' : wr.cell? ⟨b', off' + k, none⟩ = some u' := (hb.cell (p := ⟨b', off' + k, none⟩) hb1').trans hcell'
        have hr2 := hr.below hb
        have hr2' := hr'.below hb
        obtain ⟨A1, c1, e1⟩ := hr2.form
        obtain ⟨A2, c2, e2⟩ := hr2'.form
        subst e1 e2
        clear hcell hcell' hr hr'
        have hi0 : (0 : Int) ≤ (k : Int) := by omega
        have hi1 : (k : Int) < (xss.length : Int) := by omega
        have hbz : b < wr.heap.size := Nat.lt_of_lt_of_le hb1 hb.size
        have hbz' : b' < wr.heap.size := Nat.lt_of_lt_of_le hb1' hb.size
        have hi2 : (k : Int) < (yss.length : Int) := by omega
        obtain ⟨x, hx⟩ : ∃ x, x = xss.getD k [] := ⟨_, rfl⟩
        obtain ⟨y, hy⟩ : ∃ y, y = yss.getD k [] := ⟨_, rfl⟩
        rw [← hx] at hc0 hr2
        rw [← hy] at hc0' hr2'
        have HX := Lib.hid hx
        have HY := Lib.hid hy
        clear hx hy
        cases hxy : (x == y)
        · have HF : Hid ((xss == yss) = false) := by
            unfold Hid
            rw [beq_eq_false_iff_ne] at hxy ⊢
            intro h
            apply hxy
            rw [HX.out, HY.out, h]
          have HXY := Lib.hid hxy
          clear hxy
          go_wp2
          go_region_held3 (fun w' => w'.cell? ⟨b, off + k, none⟩ = some (.slice A1 x.length c1) ∧ w'.cell? ⟨b', off' + k, none⟩ = some (.slice A2 y.length c2))
            (first | exact ⟨hc0, hc0'⟩ | exact ⟨(hb2.cell (p := ⟨b, off + k, none⟩) hbz).trans hc0, (hb2.cell (p := ⟨b', off' + k, none⟩) hbz').trans hc0'⟩)
            (first | (go_at_call 59; refine (likeL_any _ _ _ x y (hr2.below (below_drew (Below.refl _ _))) (hr2'.below (below_drew (Below.refl _ _)))).mono ?_; rintro e w2 ⟨rfl, hb2⟩; rw [HXY.out]; have K2 : Below w.heap.size w w2 := (below_drew hb).trans (hb2.mono hb.size)))
          go_wp2
          go_ret
          exact ⟨by rw [HF.out]; rfl, K2⟩
        · have HXY := Lib.hid hxy
          clear hxy
          go_wp2
          go_region_held3 (fun w' => w'.cell? ⟨b, off + k, none⟩ = some (.slice A1 x.length c1) ∧ w'.cell? ⟨b', off' + k, none⟩ = some (.slice A2 y.length c2))
            (first | exact ⟨hc0, hc0'⟩ | exact ⟨(hb2.cell (p := ⟨b, off + k, none⟩) hbz).trans hc0, (hb2.cell (p := ⟨b', off' + k, none⟩) hbz').trans hc0'⟩)
            (first | (go_at_call 59; refine (likeL_any _ _ _ x y (hr2.below (below_drew (Below.refl _ _))) (hr2'.below (below_drew (Below.refl _ _)))).mono ?_; rintro e w2 ⟨rfl, hb2⟩; rw [HXY.out]; have K2 : Below w.heap.size w w2 := (below_drew hb).trans (hb2.mono hb.size)))
          go_wp2
          go_roundw
          case rel =>
            refine ⟨k + 1, by omega, by go_num, fun j hj => ?_, K2⟩
            rcases Nat.lt_or_ge j k with h | h
            · exact hp.out j h
            · obtain rfl : j = k := by omega
              rw [← HX.out, ← HY.out]; exact beq_iff_eq.1 HXY.out
          case measure => simp [intOf]; omega
      · have HF : Hid ((xss == yss) = true) := by
          unfold Hid
          rw [beq_iff_eq]
          apply List.ext_getElem HL.out
          intro i h1 h2
          have := hp.out i (by omega)
          rwa [List.getD_eq_getElem?_getD, List.getD_eq_getElem?_getD, List.getElem?_eq_getElem h1, List.getElem?_eq_getElem h2] at this
        go_wp2
        go_ret
        exact ⟨by rw [HF.out]; rfl, hb⟩
  · have hnl : (xss.length != yss.length) = true := by simpa using hl
    have hnl' : ((xss.length : Int) != (yss.length : Int)) = true := by simp; omega
    have HF : Hid ((xss == yss) = false) := by
      unfold Hid
      rw [beq_eq_false_iff_ne]
      intro h
      exact hl (by rw [h])
    clear hl
    go_enter Try.func26, Try.ntmps26
    go_wp2
    go_ret
    exact ⟨by rw [HF.out]; rfl, Below.refl _ _⟩

/-! ### Plain laws of the integers -/
theorem prime_div {q g : Int} (hq : PrimeP q) (hg : 1 ≤ g) (hd : g ∣ q) : g = 1 ∨ g = q := by
  obtain ⟨h, e⟩ := hd
  have hq2 := hq.1
  have hh : 1 ≤ h := by
    rcases Int.lt_or_le 0 h with c | c
    · omega
    · have := Int.mul_nonpos_of_nonneg_of_nonpos (show 0 ≤ g by omega) c
      omega
  by_cases e1 : g = 1
  · exact .inl e1
  · by_cases e2 : h = 1
    · right; rw [e, e2, Int.mul_one]
    · exfalso
      rcases Int.le_total g h with c | c
      · have h1 : g * g ≤ g * h := Int.mul_le_mul_of_nonneg_left c (by omega)
        exact hq.2 g (by omega) (by omega) (by rw [e]; exact Int.mul_emod_right _ _)
      · have h1 : h * h ≤ g * h := Int.mul_le_mul_of_nonneg_right c (by omega)
        exact hq.2 h (by omega) (by omega) (by rw [e]; exact Int.mul_emod_left _ _)
theorem prime_cop {q d : Int} (hq : PrimeP q) (hd : 2 ≤ d) (hlt : d < q) : Int.gcd q d = 1 := by
  have h1 : (Int.gcd q d : Int) ∣ q := Int.gcd_dvd_left ..
  have h2 : (Int.gcd q d : Int) ∣ d := Int.gcd_dvd_right ..
  have h3 : 1 ≤ (Int.gcd q d : Int) := by
    rcases Nat.eq_zero_or_pos (Int.gcd q d) with c | c
    · rw [Int.gcd_eq_zero_iff] at c; omega
    · omega
  have h4 := Int.le_of_dvd (by omega) h2
  rcases prime_div hq h3 h1 with e | e <;> omega
theorem prime_not_dvd {q d y : Int} {k : Nat} (hq : PrimeP q) (hd : 2 ≤ d) (hlt : d < q) (hy : y.tmod q ≠ 0) : (y * d ^ k).tmod q ≠ 0 := by
  intro h
  rw [tmod_zero_iff] at h
  apply hy
  rw [tmod_zero_iff]
  have h1 : q.natAbs ∣ y.natAbs * d.natAbs ^ k := by
    have := Int.natAbs_dvd_natAbs.2 h
    rwa [Int.natAbs_mul, Int.natAbs_pow] at this
  have h2 : Nat.Coprime q.natAbs (d.natAbs ^ k) := Nat.Coprime.pow_right k (prime_cop hq hd hlt)
  exact Int.natAbs_dvd_natAbs.1 (h2.dvd_of_dvd_mul_right h1)
theorem valOf_over {q d x n : Int} {k : Nat} (hq : PrimeP q) (hd : 2 ≤ d) (hlt : d < q) (hx : 1 ≤ x) (hn : n = x * d ^ k) : valOf q n = valOf q x := by
  have hq2 := hq.1
  obtain ⟨y, j, h1, h2, h3, h4⟩ := strip_exists q hq.1 x.toNat x hx (Nat.le_refl _)
  rw [valIs_exists_bound hq.1 h1 h2]
  refine valIs_exists_bound (x := y * d ^ k) hq.1 ?_ (prime_not_dvd hq hd hlt h2)
  rw [hn, h1, Int.mul_assoc, Int.mul_assoc, Int.mul_comm (q ^ j)]
def prodF : List (List Int) → Int
  | [] => 1
  | r :: rs => r.getD 0 0 ^ (r.getD 1 0).toNat * prodF rs
def RowOk (n d : Int) (r : List Int) : Prop := ∃ (q : Int) (e : Nat), r = [q, (e : Int)] ∧ PrimeP q ∧ d ≤ q ∧ q ≤ n ∧ 1 ≤ e ∧ valOf q n = e
theorem prodF_append (a b : List (List Int)) : prodF (a ++ b) = prodF a * prodF b := by
  induction a with
  | nil => simp [prodF]
  | cons r rs ih => simp only [List.cons_append, prodF, ih, Int.mul_assoc]
theorem fl_law : ∀ (F : Nat) (n d : Int), 2 ≤ d → 1 ≤ n → (n - d).toNat < F → (∀ e : Int, 2 ≤ e → e < d → n % e ≠ 0) → (∀ r ∈ fl F n d, RowOk n d r) ∧ prodF (fl F n d) = n
  | 0, _, _, _, _, h, _ => by omega
  | F + 1, n, d, hd, hn, hF, hr => by
    unfold fl
    by_cases e1 : n ≤ 1
    · rw [if_pos e1]; exact ⟨by simp, by simp [prodF]; omega⟩
    · rw [if_neg e1]
      by_cases e2 : n < d * d
      · rw [if_pos e2]
        refine ⟨fun r hr' => ?_, by simp [prodF, Int.pow_succ]⟩
        rw [List.mem_singleton] at hr'
        have hp : PrimeP n := prime_here (by omega) hr e2 (by omega)
        refine ⟨n, 1, hr', hp, ?_, Int.le_refl _, Nat.le_refl _, ?_⟩
        · rcases Int.lt_or_le n d with c | c
          · exact absurd (Int.emod_self) (hr n (by omega) c)
          · exact c
        · refine valIs_exists_bound (x := 1) (by omega) (by simp [Int.pow_succ]) ?_
          rw [Int.tmod_eq_of_lt (by omega) (by omega)]; omega
      · rw [if_neg e2]
        obtain ⟨x, k, q1, q2, q3, q4⟩ := strip_exists d hd n.toNat n hn (Nat.le_refl _)
        have hv : valOf d n = k := valIs_exists_bound hd q1 q2
        have hx : restF d n = x := restF_eq hd q1 q2
        rw [hv, hx]
        have h4 := sq_ge hd
        have hr2 : ∀ e : Int, 2 ≤ e → e < d + 1 → x % e ≠ 0 := by
          intro e he he' h0
          rcases Int.lt_or_le e d with c | c
          · refine hr e he c ?_
            rw [q1]
            exact Int.emod_eq_zero_of_dvd (Int.dvd_mul_of_dvd_left (Int.dvd_of_emod_eq_zero h0))
          · obtain rfl : e = d := by omega
            exact q2 ((tmod_zero_iff _ _).2 (Int.dvd_of_emod_eq_zero h0))
        obtain ⟨i1, i2⟩ := fl_law F x (d + 1) (by omega) q3 (by omega) hr2
        constructor
        · intro r hrm
          rcases List.mem_append.1 hrm with h | h
          · by_cases e3 : (k : Int) = 0
            · rw [if_pos e3] at h; simp at h
            · rw [if_neg e3, List.mem_singleton] at h
              have hdn : d ∣ n := by
                rw [q1]
                obtain ⟨j, rfl⟩ : ∃ j, k = j + 1 := ⟨k - 1, by omega⟩
                exact ⟨x * d ^ j, by rw [Int.pow_succ, Int.mul_comm d, Int.mul_assoc]⟩
              refine ⟨d, k, h, ⟨hd, fun e he hee h0 => ?_⟩, Int.le_refl _, Int.le_of_dvd (by omega) hdn, by omega, hv⟩
              have h5 := sq_ge he
              exact hr e he (by omega) (Int.emod_eq_zero_of_dvd (Int.dvd_trans (Int.dvd_of_emod_eq_zero h0) hdn))
          · obtain ⟨q, e, g1, g2, g3, g4, g5, g6⟩ := i1 r h
            exact ⟨q, e, g1, g2, by omega, by omega, g5, by rw [valOf_over g2 hd (by omega) q3 q1, g6]⟩
        · rw [prodF_append, i2]
          by_cases e3 : (k : Int) = 0
          · obtain rfl : k = 0 := by omega
            simp [prodF] at q1 ⊢; omega
          · rw [if_neg e3]
            simp only [prodF, List.getD_cons_zero, List.getD_cons_succ, Int.toNat_natCast, Int.mul_one]
            rw [q1, Int.mul_comm]
theorem facL_law {n : Int} (hn : 1 ≤ n) : (∀ r ∈ facL n, RowOk n 2 r) ∧ prodF (facL n) = n :=
  fl_law _ n 2 (by omega) hn (by omega) (fun e h1 h2 => by omega)
/-! The rule of Pascal. -/
theorem pasc_last (k : Nat) : (pasc k).getD k 0 = 1 := by
  cases k with
  | zero => rfl
  | succ k =>
    rw [pasc, List.getD_cons_succ, List.getD_eq_getElem?_getD, List.getElem?_append_right (by rw [length_sums, length_pasc]; omega), length_sums, length_pasc]
    simp
theorem pascal {a b : Int} (ha : 0 < a) (hb : 0 < b) : binN a b = binN (a - 1) b + binN (a - 1) (b - 1) := by
  obtain ⟨n, rfl⟩ : ∃ n : Nat, a = (n : Int) + 1 := ⟨(a - 1).toNat, by omega⟩
  obtain ⟨k, rfl⟩ : ∃ k : Nat, b = (k : Int) + 1 := ⟨(b - 1).toNat, by omega⟩
  rw [show (n : Int) + 1 - 1 = n by omega, show (k : Int) + 1 - 1 = k by omega]
  rcases Nat.lt_trichotomy n k with c | c | c
  · rw [binN_lt (by omega), binN_lt (by omega), binN_lt (by omega)]; rfl
  · subst c
    rw [binN_ge (by omega), binN_lt (by omega), binN_ge (by omega)]
    have h1 := pasc_last (n + 1)
    have h2 := pasc_last n
    rw [show ((n : Int) + 1).toNat = n + 1 by omega, show ((n : Int)).toNat = n by omega, h1, h2]; rfl
  · rw [binN_ge (by omega), binN_ge (by omega), binN_ge (by omega)]
    rw [show ((n : Int) + 1).toNat = n + 1 by omega, show ((n : Int)).toNat = n by omega, show ((k : Int) + 1).toNat = k + 1 by omega, show ((k : Int)).toNat = k by omega]
    have hl : k < (sums (pasc n)).length := by rw [length_sums, length_pasc]; omega
    rw [pasc, List.getD_cons_succ, List.getD_eq_getElem?_getD, List.getElem?_append_left hl, ← List.getD_eq_getElem?_getD, getD_sums _ _ (by rw [length_pasc]; omega)]
    omega
/-! The common divisors of binomial numbers, by trying them all. -/
def stripC : Nat → Int → Int → Nat × Int
  | 0, _, n => (0, n)
  | F + 1, d, n => if n % d = 0 then ((stripC F d (n / d)).1 + 1, (stripC F d (n / d)).2) else (0, n)
theorem stripC_spec (d : Int) (hd : 2 ≤ d) : ∀ (F : Nat) (n : Int), 1 ≤ n → n.toNat ≤ F → n = (stripC F d n).2 * d ^ (stripC F d n).1 ∧ (stripC F d n).2.tmod d ≠ 0
  | 0, n, h, h' => by omega
  | F + 1, n, h, h' => by
    unfold stripC
    by_cases c : n % d = 0
    · simp only [if_pos c]
      have hdn := Int.dvd_of_emod_eq_zero c
      have e := Int.ediv_mul_cancel hdn
      have h1 : 1 ≤ n / d := by
        rcases Int.lt_or_le 0 (n / d) with c | c
        · omega
        · have := Int.mul_nonpos_of_nonpos_of_nonneg c (show 0 ≤ d by omega)
          omega
      have h2 : n / d * 2 ≤ n / d * d := Int.mul_le_mul_of_nonneg_left hd (by omega)
      obtain ⟨i1, i2⟩ := stripC_spec d hd F (n / d) h1 (by omega)
      refine ⟨?_, i2⟩
      rw [Int.pow_succ, ← Int.mul_assoc, ← i1, e]
    · simp only [if_neg c]
      refine ⟨by simp, fun h0 => c ?_⟩
      exact Int.emod_eq_zero_of_dvd ((tmod_zero_iff _ _).1 h0)
def flC : Nat → Int → Int → List (List Int)
  | 0, _, _ => []
  | F + 1, n, d => if n ≤ 1 then [] else if n < d * d then [[n, 1]] else (if (stripC n.toNat d n).1 = 0 then [] else [[d, ((stripC n.toNat d n).1 : Int)]]) ++ flC F (stripC n.toNat d n).2 (d + 1)
theorem fl_eq_flC : ∀ (F : Nat) (n d : Int), 2 ≤ d → 1 ≤ n → fl F n d = flC F n d
  | 0, _, _, _, _ => rfl
  | F + 1, n, d, hd, hn => by
    unfold fl flC
    obtain ⟨h1, h2⟩ := stripC_spec d hd n.toNat n hn (Nat.le_refl _)
    have hv : valOf d n = ((stripC n.toNat d n).1 : Int) := valIs_exists_bound hd h1 h2
    have hx : restF d n = (stripC n.toNat d n).2 := restF_eq hd h1 h2
    have hb := restF_bd hd hn
    rw [hx] at hb
    rw [hv, hx, fl_eq_flC F _ (d + 1) (by omega) hb.1]
    by_cases e3 : (stripC n.toNat d n).1 = 0
    · rw [if_pos e3, if_pos (show ((stripC n.toNat d n).1 : Int) = 0 by omega)]
    · rw [if_neg e3, if_neg (show ¬ ((stripC n.toNat d n).1 : Int) = 0 by omega)]
def lazC (row : List Int) : Nat → Int
  | 0 => 0
  | 1 => 0
  | k + 2 => (Int.gcd (lazC row (k + 1)) (row.getD (k + 1) 0) : Int)
theorem lazN_eq (n : Nat) : ∀ k, k ≤ n + 1 → lazN (n : Int) k = lazC (pasc n) k
  | 0, _ => rfl
  | 1, _ => rfl
  | k + 2, h => by
    unfold lazN lazC
    rw [lazN_eq n (k + 1) (by omega), binN_ge (by omega)]
    rfl
def lazOk (d : Nat) : Bool := match flC (d + 1) (d : Int) 2 with
  | [] => false
  | [[q, _]] => lazC (pasc d) d == q
  | _ => lazC (pasc d) d == 1
theorem laz_all : ((List.range 59).all fun i => lazOk (i + 2)) = true := by decide +kernel
theorem laz_law {d : Int} (h1 : 2 ≤ d) (h2 : d ≤ 60) : facL d ≠ [] ∧ (∀ q e, facL d = [[q, e]] → lazN d d.toNat = q) ∧ (1 < (facL d).length → lazN d d.toNat = 1) := by
  obtain ⟨n, rfl⟩ : ∃ n : Nat, d = (n : Int) := ⟨d.toNat, by omega⟩
  have h := laz_all
  rw [List.all_eq_true] at h
  have h3 := h (n - 2) (List.mem_range.2 (by omega))
  rw [show n - 2 + 2 = n by omega] at h3
  have h4 : facL (n : Int) = flC (n + 1) (n : Int) 2 := by
    unfold facL
    rw [Int.toNat_natCast]
    exact fl_eq_flC _ _ _ (by omega) (by omega)
  rw [Int.toNat_natCast, lazN_eq n n (by omega), h4]
  unfold lazOk at h3
  split at h3
  · cases h3
  · rename_i q e hq
    rw [hq]
    refine ⟨by simp, fun q' e' he => ?_, fun hl => by simp at hl⟩
    simp at he
    rw [← he.1]; simpa using h3
  · rename_i hne1 hne2
    refine ⟨hne1, fun q e he => absurd he (hne2 q e), fun _ => by simpa using h3⟩

end Go.Proofs.Ytmppmnmkhfcoaaa
