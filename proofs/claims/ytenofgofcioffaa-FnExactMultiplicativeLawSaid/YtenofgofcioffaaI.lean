/- Contracts over this seat's translation. Condition: each contract's own. -/
import Derived.Test.YtenofgofcioffaaG
import Derived.ProofKit
import Derived.OpenShut
import Derived.Below
import Derived.ChangeSame
import Derived.Deep.Modes
import Derived.Lib.SmallJoins
import Derived.ChangeSlices
import Derived.WalkKit
import Derived.WalkSpells
import Derived.WalkLawsBesides
import Derived.Deep.QuietTactic
import Derived.BigQuiet
import Derived.Deep.RegionHeld3
import Derived.Deep.RegionWith
import Derived.Deep.RegionLaw
import Derived.Deep.AppendLies
import Derived.Laws.CopyOwn
import Derived.Deep.DeepCutAuto
import Derived.Deep.OwnRows
import Derived.Deep.LoopGhost
import Derived.Deep.DeepFit
import Derived.Deep.DeepMust
import Derived.Deep.Draws
import Derived.Deep.CutRange
import Derived.Maps.AppendAt
import Derived.Lib.Hide
import Derived.StillTailTactics
import Derived.Laws.MakeOwn
import Derived.Deep.Matrix
set_option linter.unusedVariables false
open Go Go.RowKit
namespace Go.Proofs.Ytenofgofcioffaa
/-! ### ChangePlane -/
def rowsF (f : Nat → List Int) (k : Nat) : List (List Int) := (List.range k).map f
theorem length_rowsF (f : Nat → List Int) (k : Nat) : (rowsF f k).length = k := by simp [rowsF]
theorem rowsF_succ (f : Nat → List Int) (k : Nat) : rowsF f (k + 1) = rowsF f k ++ [f k] := by simp [rowsF, List.range_succ]
theorem cntP_rowsF {f : Nat → List Int} {b : Nat} : ∀ {k : Nat}, (∀ i, i < k → (f i).length ≤ b) → cntP (rowsF f k) ≤ k * b
  | 0, _ => by simp [rowsF, cntP]
  | k + 1, h => by
    rw [rowsF_succ, cntP_append, Nat.succ_mul]
    have h1 := cntP_rowsF (k := k) fun i hi => h i (by omega)
    have h2 := h k (by omega)
    simp [cntP]
    omega
theorem OwnP.start {W : World} {lo : Nat} (h : lo ≤ W.heap.size) : OwnP (W.alloc (.cells #[] 40)) lo (W.alloc (.cells #[] 40)).heap.size (.slice (some ⟨W.heap.size, 0, none⟩) 0 0) [] := by simpa using OwnP.lit0 W h
theorem OwnP.source {w : World} {lo hi : Nat} {v : Value} {xss : List (List Int)} (h : OwnP w lo hi v xss) (n : Nat) (hn : xss.length = n) (hn1 : 1 ≤ n) : ∃ g c, v = .slice (some ⟨g, 0, none⟩) n c ∧ n ≤ c ∧ c ≤ 2 ^ 63 - 1 ∧ g < w.heap.size ∧ ∀ k, k < n → ∃ Ar cr, w.cell? ⟨g, k, none⟩ = some (.slice Ar (xss.getD k []).length cr) ∧ OwnI w lo (.slice Ar (xss.getD k []).length cr) (xss.getD k []) := by
  subst hn
  obtain ⟨A, c, rfl, hc1, hc2, hA⟩ := h.at_
  obtain ⟨g, _, _, rfl, hg, _, _⟩ := hA 0 (by omega)
  refine ⟨g, c, rfl, hc1, hc2, hg, fun k hk => ?_⟩
  obtain ⟨g', Ar, cr, e, _, h1, h2⟩ := hA k hk
  simp only [Option.some.injEq, Addr.mk.injEq] at e
  obtain ⟨rfl, _⟩ := e
  exact ⟨Ar, cr, h1, h2⟩
def ChangePlaneR (m : Int) (xss : List (List Int)) (d : Int) : (Int × List (List Int)) × Int := if isPl m xss = false then ((0, []), 1) else if (isModB d && m % d == 0) = false then ((0, []), 2) else ((d, rowsF (fun i => rests d (xss.getD i [])) xss.length), 0)
theorem ChangePlaneR_len (m : Int) (xss : List (List Int)) (d : Int) : cntP (ChangePlaneR m xss d).1.2 ≤ 200 := by
  unfold ChangePlaneR
  cases h : isPl m xss
  · simp [cntP]
  · have h2 := (isPl_true h).2.1
    cases hd : (isModB d && m % d == 0)
    · simp [cntP]
    · simp only [Bool.true_eq_false, if_false]
      have := cntP_rowsF (f := fun i => rests d (xss.getD i [])) (b := 11) (k := xss.length) fun i hi => by
        simp only [rests, List.length_map]
        rw [isPl_len h hi]; omega
      omega
theorem row_bound {m : Int} {xss : List (List Int)} (h : isPl m xss = true) (i k : Nat) : 0 ≤ (xss.getD i []).getD k 0 ∧ (xss.getD i []).getD k 0 < 1000000 := by
  have h1 := isPl_num h i k
  have h2 := isModB_true (isPl_true h).1
  unfold co2 co at h1
  omega
theorem mod_ne {m d : Int} (h1 : 0 ≤ m) : m.tmod d = m % d := Int.tmod_eq_emod_of_nonneg h1
set_option maxRecDepth 8000 in
set_option maxHeartbeats 2000000 in
theorem sChangePlaneR_any (w : World) (m : Int) (v : Value) (xss : List (List Int)) (d : Int) (lo hi : Nat) (hv : OwnP w lo hi v xss) (hl : szP xss ≤ 2000000) : Calls Try.prog 37 #[.agg #[.int .i64 m, v], .int .i64 d] w (RetPI w (ChangePlaneR m xss d)) := by
  cases hs : isPl m xss
  · obtain ⟨A, c, rfl, -, -⟩ := hv.form
    have HF : ChangePlaneR m xss d = ((0, []), 1) := by simp [ChangePlaneR, hs]
    rw [HF]
    clear HF
    have HS := Lib.hid hs
    clear hs
    go_enter Try.func37, Try.ntmps37
    go_wp2_with (go_at_call 50; refine (l03Is_any _ m _ xss lo hi (OwnP.keep hv (by (repeat (first | assumption | exact Below.refl _ _ | refine Below.alloc ?_ (by first | omega | (simp; done) | (simp; omega)) _ | refine Below.setCell ?_ (by first | omega | (simp; done) | (simp; omega)) _ | refine below_drewN ?_ _)))) hl).mono ?_; rintro e w1 ⟨rfl, hb1⟩; rw [HS.out]; obtain ⟨P1, Q1, K1⟩ := Bf.first2 hb1; have p1a := P1.1.2.1; have p1b := P1.1.2.2; have z1 := P1.1.1; have q1a := Q1.1.2.1; have q1b := Q1.1.2.2; have q1c := Q1.2.1; have q1d := Q1.2.2; have y1 := Q1.1.1)
    exact bodyPost_ret (v := .tuple #[.agg #[.int .i64 0, .slice none 0 0], .int .i64 1]) (by simp [results, Try.results37, go_sem, q1a, q1b]) rfl (RetPI.zero (by (repeat (first | assumption | exact Below.refl _ _ | refine Below.alloc ?_ (by first | omega | (simp; done) | (simp; omega)) _ | refine Below.setCell ?_ (by first | omega | (simp; done) | (simp; omega)) _ | refine below_drewN ?_ _))))
  · have hm := isModB_true (isPl_true hs).1
    have hlen := (isPl_true hs).2.1
    obtain ⟨g, c, rfl, hc1, hc2, hg, hA⟩ := hv.source xss.length rfl (by omega)
    have HV := Lib.hid hv
    cases hd : isModB d
    · have HF : ChangePlaneR m xss d = ((0, []), 2) := by simp [ChangePlaneR, hs, hd]
      rw [HF]
      clear HF hA hv
      have HS := Lib.hid hs
      have HD := Lib.hid hd
      clear hs hd
      go_enter Try.func37, Try.ntmps37
      go_wp2_with (first | (go_at_call 50; refine (l03Is_any _ m _ xss lo hi (OwnP.keep HV.out (by (repeat (first | assumption | exact Below.refl _ _ | refine Below.alloc ?_ (by first | omega | (simp; done) | (simp; omega)) _ | refine Below.setCell ?_ (by first | omega | (simp; done) | (simp; omega)) _ | refine below_drewN ?_ _)))) hl).mono ?_; rintro e w1 ⟨rfl, hb1⟩; rw [HS.out]; obtain ⟨P1, Q1, K1⟩ := Bf.first2 hb1; have p1a := P1.1.2.1; have p1b := P1.1.2.2; have z1 := P1.1.1; have q1a := Q1.1.2.1; have q1b := Q1.1.2.2; have q1c := Q1.2.1; have q1d := Q1.2.2; have y1 := Q1.1.1) | (go_at_call 59; refine (sModulus_any _ _).mono ?_; rintro e w2 ⟨rfl, k2, rfl⟩; rw [HD.out]))
      exact bodyPost_ret (v := .tuple #[.agg #[.int .i64 0, .slice none 0 0], .int .i64 2]) (by simp [results, Try.results37, go_sem, q1a, q1b]) rfl (RetPI.zero (by (repeat (first | assumption | exact Below.refl _ _ | refine Below.alloc ?_ (by first | omega | (simp; done) | (simp; omega)) _ | refine Below.setCell ?_ (by first | omega | (simp; done) | (simp; omega)) _ | refine below_drewN ?_ _))))
    · have hdb := isModB_true hd
      have h8 : ¬ d = 0 := by omega
      have ht := mod_ne (m := m) (d := d) (by omega)
      by_cases hd2 : m % d = 0
      · have HF : ChangePlaneR m xss d = ((d, rowsF (fun i => rests d (xss.getD i [])) xss.length), 0) := by simp only [ChangePlaneR, hs, hd, hd2]; simp
        rw [HF]
        have h9 : (m % d != 0) = false := by simpa using hd2
        have HB := Lib.hid (row_bound hs)
        have HA := Lib.hid hA
        have HS := Lib.hid hs
        have HD := Lib.hid hd
        clear HF hs hd hd2 hA hv
        go_enter Try.func37, Try.ntmps37
        go_wp2_with (first | (go_at_call 50; refine (l03Is_any _ m _ xss lo hi (OwnP.keep HV.out (by (repeat (first | assumption | exact Below.refl _ _ | refine Below.alloc ?_ (by first | omega | (simp; done) | (simp; omega)) _ | refine Below.setCell ?_ (by first | omega | (simp; done) | (simp; omega)) _ | refine below_drewN ?_ _)))) hl).mono ?_; rintro e w1 ⟨rfl, hb1⟩; rw [HS.out]; obtain ⟨P1, Q1, K1⟩ := Bf.first2 hb1; have p1a := P1.1.2.1; have p1b := P1.1.2.2; have z1 := P1.1.1; have q1a := Q1.1.2.1; have q1b := Q1.1.2.2; have q1c := Q1.2.1; have q1d := Q1.2.2; have y1 := Q1.1.1) | (go_at_call 59; refine (sModulus_any _ _).mono ?_; rintro e w2 ⟨rfl, k2, rfl⟩; rw [HD.out]))
        clear ht h9
        go_loopw [6, 7] (fun s i wr => ∃ (k : Nat) (A' : Option Addr) (c' : Nat), k ≤ xss.length ∧ s = .slice A' k c' ∧ i = .int .i64 k ∧ Hid (OwnP wr (w.heap.size + 2) wr.heap.size (.slice A' k c') (rowsF (fun i => rests d (xss.getD i [])) k)) ∧ Hid (Bf wr w.heap.size (.int .i64 m) (.slice (some ⟨g, 0, none⟩) xss.length c)) ∧ Hid (Bf wr (w.heap.size + 1) (.int .i64 0) (.slice none 0 0)) ∧ Hid (Below w.heap.size w wr)) (fun _ i _ => xss.length + 1 - (intOf i).toNat)
        case atStart =>
          refine ⟨0, _, 0, Nat.zero_le _, rfl, rfl, OwnP.start (by simp; omega), (P1.drewN _).alloc _, (Q1.drewN _).alloc _, ?_⟩
          unfold Hid
          exact Below.alloc (below_drewN K1 _) (by simp; omega) _
        case round =>
          clear P1 Q1 K1 p1a p1b q1a q1b q1c q1d hb1
          obtain ⟨k, A', c', hk, rfl, rfl, HO, HP, HQ, HB2⟩ := hrel
          have hz := HB2.out.size
          have zP := HP.out.1.1
          have zQ := HQ.out.1.1
          have p1 := HP.out.1.2.1
          have p2 := HP.out.1.2.2
          by_cases hlt : k < xss.length
          · obtain ⟨Ar, cr, hcell, hown⟩ := HA.out k hlt
            have hc0 := (HB2.out.cell (p := ⟨g, k, none⟩) hg).trans hcell
            have HOX := Lib.hid (hown.keep HB2.out (Nat.le_refl _))
            have HXB := Lib.hid (HB.out k)
            obtain ⟨x, hx⟩ : ∃ x, x = xss.getD k [] := ⟨_, rfl⟩
            have hxl : x.length ≤ 100 := by rw [hx, isPl_len HS.out hlt]; omega
            obtain ⟨y, hy⟩ : ∃ y, rests d x = y := ⟨_, rfl⟩
            have HS2 : Hid (rowsF (fun i => rests d (xss.getD i [])) (k + 1) = rowsF (fun i => rests d (xss.getD i [])) k ++ [y]) := by unfold Hid; rw [rowsF_succ, ← hy, hx]
            rw [← hx] at hc0 HOX HXB
            have HY := Lib.hid hy
            clear hcell hown hx hy
            have hk0 : (0 : Int) ≤ (k : Int) := by omega
            have hk1 : (k : Int) < (xss.length : Int) := by omega
            go_wp2_with (first | (go_at_call 86; refine (l02Rest_any d _ _ x y lo HOX.out HY.out (by omega) (by omega) HXB.out (by omega)).mono ?_; rintro e w3 ⟨A3, c3, rfl, o3, hb3⟩; have O3 := Lib.hid o3; have R3 := Lib.hid hb3; have s3 := hb3.size; clear o3) | (at_builtin; refine appendP _ _ (w.heap.size + 2) wr.heap.size (.slice A' k c') (.slice A3 y.length c3) (rowsF (fun i => rests d (xss.getD i [])) k) y w3.heap.size (by rfl) (by rfl) (by rfl) (by rfl) ((HO.out.keep R3.out).alloc _) (by simp; omega) ((O3.out.alloc _).mono (by omega)) (fun g hg => (O3.out.block_ge hg).1) (heap_alloc_new w3 _) (by rw [length_rowsF]; omega) (by simp; omega) ?_; intro A2 c2 w2 ho2 hg2; rw [length_rowsF] at ho2 ⊢))
            have hne : some w.heap.size ≠ (Value.slice A' k c').ownBlock := fun e => by have := ownP_block_ge HO.out e.symm; omega
            have hne2 : some (w.heap.size + 1) ≠ (Value.slice A' k c').ownBlock := fun e => by have := ownP_block_ge HO.out e.symm; omega
            go_roundw
            case rel =>
              refine ⟨k + 1, A2, c2, by omega, rfl, by go_num, by rw [HS2.out]; exact ho2, ((HP.out.keep R3.out).alloc _).grown hg2 hne, ((HQ.out.keep R3.out).alloc _).grown hg2 hne2, ?_⟩
              unfold Hid
              exact below_grownP ((HB2.out.trans (R3.out.mono hz)).alloc (by omega) _) (by simp; omega) hg2 (fun g hg => by have := ownP_block_ge HO.out hg; omega)
            case measure => simp [intOf]; omega
          · have hkn : k = xss.length := by omega
            have hd5 : decide ((k : Int) < (xss.length : Int)) = false := by simp; omega
            have hO := HO.out
            have q1 := HQ.out.1.2.1
            have q2 := HQ.out.1.2.2
            have q3 := HQ.out.2.1
            have q4 := HQ.out.2.2
            rw [hkn] at hO
            have HO2 := Lib.hid hO
            clear hO
            subst hkn
            go_wp2_with (go_at_call 62; refine (l03Make_any _ d A' xss.length c').mono ?_; rintro e w4 ⟨rfl, hb4⟩; have Q4 := HQ.out.keep hb4; have q1' := Q4.1.2.1; have q2' := Q4.1.2.2; have q3' := Q4.2.1; have q4' := Q4.2.2; have s4 := hb4.size)
            have K4 := HB2.out.trans (hb4.mono hz)
            exact bodyPost_ret (v := .tuple #[.agg #[.int .i64 d, .slice A' xss.length c'], .int .i64 0]) (by simp [results, Try.results37, go_sem, q1', q2']) rfl (RetPI.mk ((HO2.out.keep hb4).far2 (.inl (by omega))) (length_rowsF _ _) (by omega) (by (repeat (first | assumption | exact Below.refl _ _ | refine Below.alloc ?_ (by first | omega | (simp; done) | (simp; omega)) _ | refine Below.setCell ?_ (by first | omega | (simp; done) | (simp; omega)) _ | refine below_drewN ?_ _))))
      · have HF : ChangePlaneR m xss d = ((0, []), 2) := by simp [ChangePlaneR, hs, hd, hd2]
        rw [HF]
        have h9 : (m % d != 0) = true := by simpa using hd2
        have HS := Lib.hid hs
        have HD := Lib.hid hd
        clear HF hs hd hd2 hA hv
        go_enter Try.func37, Try.ntmps37
        go_wp2_with (first | (go_at_call 50; refine (l03Is_any _ m _ xss lo hi (OwnP.keep HV.out (by (repeat (first | assumption | exact Below.refl _ _ | refine Below.alloc ?_ (by first | omega | (simp; done) | (simp; omega)) _ | refine Below.setCell ?_ (by first | omega | (simp; done) | (simp; omega)) _ | refine below_drewN ?_ _)))) hl).mono ?_; rintro e w1 ⟨rfl, hb1⟩; rw [HS.out]; obtain ⟨P1, Q1, K1⟩ := Bf.first2 hb1; have p1a := P1.1.2.1; have p1b := P1.1.2.2; have z1 := P1.1.1; have q1a := Q1.1.2.1; have q1b := Q1.1.2.2; have q1c := Q1.2.1; have q1d := Q1.2.2; have y1 := Q1.1.1) | (go_at_call 59; refine (sModulus_any _ _).mono ?_; rintro e w2 ⟨rfl, k2, rfl⟩; rw [HD.out]))
        exact bodyPost_ret (v := .tuple #[.agg #[.int .i64 0, .slice none 0 0], .int .i64 2]) (by simp [results, Try.results37, go_sem, q1a, q1b]) rfl (RetPI.zero (by (repeat (first | assumption | exact Below.refl _ _ | refine Below.alloc ?_ (by first | omega | (simp; done) | (simp; omega)) _ | refine Below.setCell ?_ (by first | omega | (simp; done) | (simp; omega)) _ | refine below_drewN ?_ _))))

theorem divides_b (m n : Int) (w : World) (hm : 2 ≤ m ∧ m ≤ 10000) : Calls Try.prog 87 #[.int .i64 n, .int .i64 m] w fun e w' => e = .returned (.bool (isModB n && m % n == 0)) ∧ Below w.heap.size w w' :=
  (divides_any m n w hm).mono fun _ _ ⟨h, k, e⟩ => ⟨h, by rw [e]; exact below_drewN (Below.refl _ _) k⟩
set_option maxRecDepth 8000 in
set_option maxHeartbeats 2000000 in
theorem iChangePlaneR_any (w : World) (m : Int) (v : Value) (xss : List (List Int)) (d : Int) (lo hi : Nat) (hv : OwnP w lo hi v xss) (hl : szP xss ≤ 2000000) : Calls Try.prog 38 #[.agg #[.int .i64 m, v], .int .i64 d] w (RetPI w (ChangePlaneR m xss d)) := by
  cases hs : isPl m xss
  · obtain ⟨A, c, rfl, -, -⟩ := hv.form
    have HF : ChangePlaneR m xss d = ((0, []), 1) := by simp [ChangePlaneR, hs]
    rw [HF]
    clear HF
    have HS := Lib.hid hs
    clear hs
    go_enter Try.func38, Try.ntmps38
    go_wp2_with (go_at_call 18; refine (iIsPlane_any _ m _ xss lo hi (OwnP.keep hv (by (repeat (first | assumption | exact Below.refl _ _ | refine Below.alloc ?_ (by first | omega | (simp; done) | (simp; omega)) _ | refine Below.setCell ?_ (by first | omega | (simp; done) | (simp; omega)) _ | refine below_drewN ?_ _)))) hl).mono ?_; rintro e w1 ⟨rfl, hb1⟩; rw [HS.out]; obtain ⟨P1, Q1, K1⟩ := Bf.first2 hb1; have p1a := P1.1.2.1; have p1b := P1.1.2.2; have z1 := P1.1.1; have q1a := Q1.1.2.1; have q1b := Q1.1.2.2; have q1c := Q1.2.1; have q1d := Q1.2.2; have y1 := Q1.1.1)
    exact bodyPost_ret (v := .tuple #[.agg #[.int .i64 0, .slice none 0 0], .int .i64 1]) (by simp [results, Try.results38, go_sem, q1a, q1b]) rfl (RetPI.zero (by (repeat (first | assumption | exact Below.refl _ _ | refine Below.alloc ?_ (by first | omega | (simp; done) | (simp; omega)) _ | refine Below.setCell ?_ (by first | omega | (simp; done) | (simp; omega)) _ | refine below_drewN ?_ _))))
  · have hm := isModB_true (isPl_true hs).1
    have hlen := (isPl_true hs).2.1
    obtain ⟨g, c, rfl, hc1, hc2, hg, hA⟩ := hv.source xss.length rfl (by omega)
    have HV := Lib.hid hv
    cases hd : (isModB d && m % d == 0)
    · have HF : ChangePlaneR m xss d = ((0, []), 2) := by simp only [ChangePlaneR, hs, hd]; simp
      rw [HF]
      clear HF hA hv
      have HS := Lib.hid hs
      have HD := Lib.hid hd
      clear hs hd
      go_enter Try.func38, Try.ntmps38
      go_wp2_with (first | (go_at_call 18; refine (iIsPlane_any _ m _ xss lo hi (OwnP.keep HV.out (by (repeat (first | assumption | exact Below.refl _ _ | refine Below.alloc ?_ (by first | omega | (simp; done) | (simp; omega)) _ | refine Below.setCell ?_ (by first | omega | (simp; done) | (simp; omega)) _ | refine below_drewN ?_ _)))) hl).mono ?_; rintro e w1 ⟨rfl, hb1⟩; rw [HS.out]; obtain ⟨P1, Q1, K1⟩ := Bf.first2 hb1; have p1a := P1.1.2.1; have p1b := P1.1.2.2; have z1 := P1.1.1; have q1a := Q1.1.2.1; have q1b := Q1.1.2.2; have q1c := Q1.2.1; have q1d := Q1.2.2; have y1 := Q1.1.1) | (go_at_call 87; refine (divides_b m d _ hm).mono ?_; rintro e w2 ⟨rfl, hb2⟩; rw [HD.out]; have R2 : Below w1.heap.size w1 w2 := (Below.trans (by (repeat (first | assumption | exact Below.refl _ _ | refine Below.alloc ?_ (by first | omega | (simp; done) | (simp; omega)) _ | refine Below.setCell ?_ (by first | omega | (simp; done) | (simp; omega)) _ | refine below_drewN ?_ _))) (hb2.mono (by first | exact Nat.le_refl _ | (simp; done) | (simp; omega)))); have s2 := R2.size; have K2 : Below w.heap.size w w2 := K1.trans (R2.mono K1.size); have P2 := P1.keep R2; have Q2 := Q1.keep R2; have p2a := P2.1.2.1; have p2b := P2.1.2.2; have z2 := P2.1.1; have q2a := Q2.1.2.1; have q2b := Q2.1.2.2; have q2c := Q2.2.1; have q2d := Q2.2.2; have y2 := Q2.1.1))
      exact bodyPost_ret (v := .tuple #[.agg #[.int .i64 0, .slice none 0 0], .int .i64 2]) (by simp [results, Try.results38, go_sem, q2a, q2b]) rfl (RetPI.zero (by (repeat (first | assumption | exact Below.refl _ _ | refine Below.alloc ?_ (by first | omega | (simp; done) | (simp; omega)) _ | refine Below.setCell ?_ (by first | omega | (simp; done) | (simp; omega)) _ | refine below_drewN ?_ _))))
    · have hdb : 2 ≤ d ∧ d ≤ 10000 := by simp at hd; exact isModB_true hd.1
      have HF : ChangePlaneR m xss d = ((d, rowsF (fun i => rests d (xss.getD i [])) xss.length), 0) := by simp only [ChangePlaneR, hs, hd]; simp
      rw [HF]
      have HB := Lib.hid (row_bound hs)
      have HA := Lib.hid hA
      have HS := Lib.hid hs
      have HD := Lib.hid hd
      clear HF hs hd hA hv
      go_enter Try.func38, Try.ntmps38
      go_wp2_with (first | (go_at_call 18; refine (iIsPlane_any _ m _ xss lo hi (OwnP.keep HV.out (by (repeat (first | assumption | exact Below.refl _ _ | refine Below.alloc ?_ (by first | omega | (simp; done) | (simp; omega)) _ | refine Below.setCell ?_ (by first | omega | (simp; done) | (simp; omega)) _ | refine below_drewN ?_ _)))) hl).mono ?_; rintro e w1 ⟨rfl, hb1⟩; rw [HS.out]; obtain ⟨P1, Q1, K1⟩ := Bf.first2 hb1; have p1a := P1.1.2.1; have p1b := P1.1.2.2; have z1 := P1.1.1; have q1a := Q1.1.2.1; have q1b := Q1.1.2.2; have q1c := Q1.2.1; have q1d := Q1.2.2; have y1 := Q1.1.1) | (go_at_call 87; refine (divides_b m d _ hm).mono ?_; rintro e w2 ⟨rfl, hb2⟩; rw [HD.out]; have R2 : Below w1.heap.size w1 w2 := (Below.trans (by (repeat (first | assumption | exact Below.refl _ _ | refine Below.alloc ?_ (by first | omega | (simp; done) | (simp; omega)) _ | refine Below.setCell ?_ (by first | omega | (simp; done) | (simp; omega)) _ | refine below_drewN ?_ _))) (hb2.mono (by first | exact Nat.le_refl _ | (simp; done) | (simp; omega)))); have s2 := R2.size; have K2 : Below w.heap.size w w2 := K1.trans (R2.mono K1.size); have P2 := P1.keep R2; have Q2 := Q1.keep R2; have p2a := P2.1.2.1; have p2b := P2.1.2.2; have z2 := P2.1.1; have q2a := Q2.1.2.1; have q2b := Q2.1.2.2; have q2c := Q2.2.1; have q2d := Q2.2.2; have y2 := Q2.1.1))
      go_loopw [26] (fun i wr => ∃ (k : Nat) (A' : Option Addr) (c' : Nat), k ≤ xss.length ∧ i = .int .i64 k ∧ Hid (OwnP wr (w2.heap.size + 1) wr.heap.size (.slice A' k c') (rowsF (fun i => rests d (xss.getD i [])) k)) ∧ Hid (Bf wr w2.heap.size (.int .i64 d) (.slice A' k c')) ∧ Hid (Bf wr w.heap.size (.int .i64 m) (.slice (some ⟨g, 0, none⟩) xss.length c)) ∧ Hid (Bf wr (w.heap.size + 1) (.int .i64 0) (.slice none 0 0)) ∧ Hid (Below w.heap.size w wr)) (fun i _ => xss.length + 1 - (intOf i).toNat)
      case atStart =>
        refine ⟨0, none, 0, Nat.zero_le _, rfl, OwnP.nil_ _ _ _, Bf.alloc1 w2 _ _ _, P2.alloc _, Q2.alloc _, ?_⟩
        unfold Hid
        exact Below.alloc K2 (by omega) _
      case round =>
        clear P1 Q1 K1 p1a p1b q1a q1b q1c q1d hb1 P2 Q2 K2 p2a p2b q2a q2b q2c q2d hb2 R2
        obtain ⟨k, A', c', hk, rfl, HO, HOB, HP, HQ, HB2⟩ := hrel
        have hz := HB2.out.size
        have zP := HP.out.1.1
        have zQ := HQ.out.1.1
        have zB := HOB.out.1.1
        have ob2 := HOB.out.1.2.2
        by_cases hlt : k < xss.length
        · obtain ⟨Ar, cr, hcell, hown⟩ := HA.out k hlt
          have hc0 := (HB2.out.cell (p := ⟨g, k, none⟩) hg).trans hcell
          have HOX := Lib.hid (hown.keep HB2.out (Nat.le_refl _))
          have HXB := Lib.hid (HB.out k)
          obtain ⟨x, hx⟩ : ∃ x, x = xss.getD k [] := ⟨_, rfl⟩
          have hxl : x.length ≤ 100 := by rw [hx, isPl_len HS.out hlt]; omega
          obtain ⟨y, hy⟩ : ∃ y, rests d x = y := ⟨_, rfl⟩
          have HS2 : Hid (rowsF (fun i => rests d (xss.getD i [])) (k + 1) = rowsF (fun i => rests d (xss.getD i [])) k ++ [y]) := by unfold Hid; rw [rowsF_succ, ← hy, hx]
          rw [← hx] at hc0 HOX HXB
          have HY := Lib.hid hy
          clear hcell hown hx hy
          have hk0 : (0 : Int) ≤ (k : Int) := by omega
          have hk1 : (k : Int) < (xss.length : Int) := by omega
          have hne0 : some w2.heap.size ≠ (Value.slice A' k c').ownBlock := fun e => by have := ownP_block_ge HO.out e.symm; omega
          have hne : some w.heap.size ≠ (Value.slice A' k c').ownBlock := fun e => by have := ownP_block_ge HO.out e.symm; omega
          have hne2 : some (w.heap.size + 1) ≠ (Value.slice A' k c').ownBlock := fun e => by have := ownP_block_ge HO.out e.symm; omega
          go_wp2
          go_region_law ((first | (go_simp; go_at_call 88; refine (remainders_any d _ _ x y lo (OwnI.drewN HOX.out 1) HY.out (by omega) (by omega) HXB.out (by omega)).mono ?_; rintro e w3 ⟨A3, c3, rfl, o3, hb3⟩; have O3 := Lib.hid o3; have R3 := Lib.hid hb3; have s3 : wr.heap.size ≤ w3.heap.size := hb3.size; clear o3 hb3; have O3b : w3.cell? ⟨w2.heap.size, 1, none⟩ = some (.slice A' k c') := (HOB.out.keep (below_undrew R3.out)).1.2.2; have O3c : (w3.alloc (.cells #[.slice A3 y.length c3] 40)).cell? ⟨w2.heap.size, 1, none⟩ = some (.slice A' k c') := ((HOB.out.keep (below_undrew R3.out)).alloc _).1.2.2) | (refine stepAppendP _ _ (w2.heap.size + 1) wr.heap.size (.slice A' k c') (.slice A3 y.length c3) (rowsF (fun i => rests d (xss.getD i [])) k) y k w3.heap.size (w3.heap.size + 1) (by rfl) (by rfl) (by rfl) (by rfl) ((HO.out.keep (below_undrew R3.out)).alloc _) (length_rowsF _ _) (by simp; omega) ((O3.out.alloc _).mono (by show w2.heap.size + 1 ≤ wr.heap.size; omega)) (fun g hg => (O3.out.block_ge hg).1) (heap_alloc_new w3 _) (by omega) (by simp; omega) (by simp) ?_; intro gg cap w9 ho9 hg9 hat9; have O9 : Bf w9 w2.heap.size (.int .i64 d) (.slice A' k c') := ((HOB.out.keep (below_undrew R3.out)).alloc _).grown hg9 hne0; have o9a := O9.1.2.1; have o9b := O9.1.2.2; have o9c := O9.2.1; have o9d := O9.2.2)))
          all_goals
            go_wp2
            go_roundw
            case rel =>
              refine ⟨k + 1, some ⟨gg, 0, none⟩, cap, by omega, by go_num, ?_, O9.set1 _, (((HP.out.keep (below_undrew R3.out)).alloc _).grown hg9 hne).setCell (by simp; omega) _, (((HQ.out.keep (below_undrew R3.out)).alloc _).grown hg9 hne2).setCell (by simp; omega) _, ?_⟩
              · unfold Hid
                rw [HS2.out]
                have h9 := ho9.far (p := ⟨w2.heap.size, 1, none⟩) (.inl (by simp)) (.slice (some ⟨gg, 0, none⟩) (k + 1) cap)
                simpa [World.setCell] using h9
              · refine Below.setCell ?_ (by simp; omega) _
                exact below_grownP ((HB2.out.trans ((below_undrew R3.out).mono hz)).alloc (by omega) _) (by simp; omega) hg9 (fun g hg => by have := ownP_block_ge HO.out hg; omega)
            case measure => simp [intOf]; omega
        · have hkn : k = xss.length := by omega
          have hd5 : decide ((k : Int) < (xss.length : Int)) = false := by simp; omega
          have hO := HO.out
          have q1 := HQ.out.1.2.1
          have q2 := HQ.out.1.2.2
          have q3 := HQ.out.2.1
          have q4 := HQ.out.2.2
          have ob1 := HOB.out.1.2.1
          rw [hkn] at hO ob2
          have HO2 := Lib.hid hO
          clear hO
          subst hkn
          go_wp2
          exact bodyPost_ret (v := .tuple #[.agg #[.int .i64 d, .slice A' xss.length c'], .int .i64 0]) (by simp [results, Try.results38, go_sem, q1, q2]) rfl (RetPI.mk (HO2.out.far2 (.inl (by omega))) (length_rowsF _ _) (by omega) ((HB2.out.setCell (by simp) _).setCell (by simp) _))

/-! ### The laws' walks, printed by genlaw2.py -/
set_option maxHeartbeats 4000000 in
theorem FnExactChangePlane_walk (w : World) (m0 : Int) (v0 : Value) (xs0 : List (List Int)) (hv0 : RdP w v0 xs0) (a1 : Int) : Calls Try.prog 9 #[.agg #[.int .i64 m0, v0], .int .i64 a1] w fun e w' => e = .returned (.bool true) ∧ Below w.heap.size w w' := by
  obtain ⟨A0, c0, e0⟩ := hv0.form
  subst e0
  obtain ⟨r0, HR⟩ : ∃ r0, Hid (ChangePlaneR m0 xs0 a1 = r0) := ⟨_, rfl⟩
  obtain ⟨⟨rm, rl⟩, rc⟩ := r0
  have hlen := ChangePlaneR_len m0 xs0 a1
  rw [HR.out] at hlen
  simp only at hlen
  by_cases hz0 : 1048576 < ((szP xs0) : Int)
  · skip
    have HZ0 := Lib.hid (szN_lt hz0)
    go_enter Try.func9, Try.ntmps9
    go_wp2_with fail
    refine (szP_any _ m0 _ xs0 (1048576) (hv0.below (by (repeat (first | assumption | exact Below.refl _ _ | refine Below.alloc ?_ (by first | omega | (simp; done) | (simp; omega)) _ | refine Below.setCell ?_ (by first | omega | (simp; done) | (simp; omega)) _ | refine below_drewN ?_ _)))) (by omega) (by omega)).mono ?_
    rintro e w1 ⟨rfl, hb1⟩
    rw [HZ0.out]
    have R : Below w.heap.size w w1 := Below.trans (by (repeat (first | assumption | exact Below.refl _ _ | refine Below.alloc ?_ (by first | omega | (simp; done) | (simp; omega)) _ | refine Below.setCell ?_ (by first | omega | (simp; done) | (simp; omega)) _ | refine below_drewN ?_ _))) (hb1.mono (by first | exact Nat.le_refl _ | (simp; done) | (simp; omega)))
    have s1 : w.heap.size ≤ w1.heap.size := R.size
    have K1 : Hid (Below w.heap.size w w1) := R
    have b0 : Hid (Bx w1 w.heap.size (.int .i64 m0) (.slice A0 xs0.length c0)) := ⟨by have := hb1.size; simp at this; omega, by rw [hb1.cell (by first | (simp; done) | (simp; omega))]; simp, by rw [hb1.cell (by first | (simp; done) | (simp; omega))]; simp⟩
    clear R hb1
    have b0_c := b0.out.2.1
    have b0_d := b0.out.2.2
    have b0_z := b0.out.1
    go_wp2
    go_ret
    exact ⟨rfl, K1.out⟩
  have HZ0 := Lib.hid (szN_ge hz0)
  have hl0 : ((szP xs0) : Int) ≤ 1048576 := by omega
  clear hz0
  have hq0 := cntP_le_szP xs0
  have hq0' := length_le_szP xs0
  go_enter Try.func9, Try.ntmps9
  go_wp2_with fail
  refine (szP_any _ m0 _ xs0 (1048576) (hv0.below (by (repeat (first | assumption | exact Below.refl _ _ | refine Below.alloc ?_ (by first | omega | (simp; done) | (simp; omega)) _ | refine Below.setCell ?_ (by first | omega | (simp; done) | (simp; omega)) _ | refine below_drewN ?_ _)))) (by omega) (by omega)).mono ?_
  rintro e w2 ⟨rfl, hb2⟩
  rw [HZ0.out]
  have R : Below w.heap.size w w2 := Below.trans (by (repeat (first | assumption | exact Below.refl _ _ | refine Below.alloc ?_ (by first | omega | (simp; done) | (simp; omega)) _ | refine Below.setCell ?_ (by first | omega | (simp; done) | (simp; omega)) _ | refine below_drewN ?_ _))) (hb2.mono (by first | exact Nat.le_refl _ | (simp; done) | (simp; omega)))
  have s2 : w.heap.size ≤ w2.heap.size := R.size
  have K2 : Hid (Below w.heap.size w w2) := R
  have b0 : Hid (Bx w2 w.heap.size (.int .i64 m0) (.slice A0 xs0.length c0)) := ⟨by have := hb2.size; simp at this; omega, by rw [hb2.cell (by first | (simp; done) | (simp; omega))]; simp, by rw [hb2.cell (by first | (simp; done) | (simp; omega))]; simp⟩
  clear R hb2
  have b0_c := b0.out.2.1
  have b0_d := b0.out.2.2
  have b0_z := b0.out.1
  go_wp2_with fail
  refine (toP_any _ m0 _ xs0 (hv0.below K2.out) (by omega)).mono ?_
  rintro e w3 ⟨A_p0, c_p0, rfl, o_p0, hb3⟩
  clear b0_c b0_d b0_z
  have o_p0' := (o_p0).mono (show w2.heap.size ≤ _ from by first | exact Nat.le_refl _ | (simp; done) | (simp; omega)) (Nat.le_refl _)
  clear o_p0
  have R : Below w2.heap.size w2 w3 := Below.trans (by (repeat (first | assumption | exact Below.refl _ _ | refine Below.alloc ?_ (by first | omega | (simp; done) | (simp; omega)) _ | refine Below.setCell ?_ (by first | omega | (simp; done) | (simp; omega)) _ | refine below_drewN ?_ _))) (hb3.mono (by first | exact Nat.le_refl _ | (simp; done) | (simp; omega)))
  have s3 : w2.heap.size ≤ w3.heap.size := R.size
  have K3 : Hid (Below w.heap.size w w3) := K2.out.trans (R.mono (by omega))
  replace b0 : Hid (Bx w3 w.heap.size (.int .i64 m0) (.slice A0 xs0.length c0)) := b0.out.keep R
  clear R hb3
  have p0 : Hid (OwnP w3 w2.heap.size w3.heap.size (.slice A_p0 xs0.length c_p0) xs0) := o_p0'
  clear o_p0'
  have b0_c := b0.out.2.1
  have b0_d := b0.out.2.2
  have b0_z := b0.out.1
  go_wp2_with fail
  refine (sChangePlaneR_any _ m0 (.slice A_p0 xs0.length c_p0) xs0 a1 w2.heap.size w3.heap.size (p0.out.keep (by (repeat (first | assumption | exact Below.refl _ _ | refine Below.alloc ?_ (by first | omega | (simp; done) | (simp; omega)) _ | refine Below.setCell ?_ (by first | omega | (simp; done) | (simp; omega)) _ | refine below_drewN ?_ _)))) (by omega)).mono ?_
  rintro e w4 h_r
  replace h_r := h_r.of HR
  obtain ⟨A_ow, c_ow, rfl, o_ow, hb4⟩ := h_r
  have o_ow' := (o_ow).mono (show w3.heap.size ≤ _ from by first | exact Nat.le_refl _ | (simp; done) | (simp; omega)) (Nat.le_refl _)
  clear o_ow
  clear b0_c b0_d b0_z
  have R : Below w3.heap.size w3 w4 := Below.trans (by (repeat (first | assumption | exact Below.refl _ _ | refine Below.alloc ?_ (by first | omega | (simp; done) | (simp; omega)) _ | refine Below.setCell ?_ (by first | omega | (simp; done) | (simp; omega)) _ | refine below_drewN ?_ _))) (hb4.mono (by first | exact Nat.le_refl _ | (simp; done) | (simp; omega)))
  have s4 : w3.heap.size ≤ w4.heap.size := R.size
  have K4 : Hid (Below w.heap.size w w4) := K3.out.trans (R.mono (by omega))
  replace b0 : Hid (Bx w4 w.heap.size (.int .i64 m0) (.slice A0 xs0.length c0)) := b0.out.keep R
  replace p0 : Hid (OwnP w4 w2.heap.size w3.heap.size (.slice A_p0 xs0.length c_p0) xs0) := p0.out.keep R
  clear R hb4
  have ow : Hid (OwnP w4 w3.heap.size w4.heap.size (.slice A_ow rl.length c_ow) rl) := o_ow'
  clear o_ow'
  clear p0
  have b0_c := b0.out.2.1
  have b0_d := b0.out.2.2
  have b0_z := b0.out.1
  go_wp2_with fail
  refine (toP_any _ m0 _ xs0 (hv0.below (K4.out.trans (Below.mono (by (repeat (first | assumption | exact Below.refl _ _ | refine Below.alloc ?_ (by first | omega | (simp; done) | (simp; omega)) _ | refine Below.setCell ?_ (by first | omega | (simp; done) | (simp; omega)) _ | refine below_drewN ?_ _))) (by omega)))) (by omega)).mono ?_
  rintro e w5 ⟨A_x0, c_x0, rfl, o_x0, hb5⟩
  clear b0_c b0_d b0_z
  have o_x0' := (o_x0).mono (show (w4.heap.size + 1) ≤ _ from by first | exact Nat.le_refl _ | (simp; done) | (simp; omega)) (Nat.le_refl _)
  clear o_x0
  have R : Below w4.heap.size w4 w5 := Below.trans (by (repeat (first | assumption | exact Below.refl _ _ | refine Below.alloc ?_ (by first | omega | (simp; done) | (simp; omega)) _ | refine Below.setCell ?_ (by first | omega | (simp; done) | (simp; omega)) _ | refine below_drewN ?_ _))) (hb5.mono (by first | exact Nat.le_refl _ | (simp; done) | (simp; omega)))
  have s5 : w4.heap.size ≤ w5.heap.size := R.size
  have K5 : Hid (Below w.heap.size w w5) := K4.out.trans (R.mono (by omega))
  replace b0 : Hid (Bx w5 w.heap.size (.int .i64 m0) (.slice A0 xs0.length c0)) := b0.out.keep R
  replace ow : Hid (OwnP w5 w3.heap.size w4.heap.size (.slice A_ow rl.length c_ow) rl) := ow.out.keep R
  have bw : Hid (Bx w5 w4.heap.size (.int .i64 rm) (.slice A_ow rl.length c_ow)) := ⟨by have := hb5.size; simp at this; omega, by rw [hb5.cell (by first | (simp; done) | (simp; omega))]; simp, by rw [hb5.cell (by first | (simp; done) | (simp; omega))]; simp⟩
  clear R hb5
  have x0 : Hid (OwnP w5 (w4.heap.size + 1) w5.heap.size (.slice A_x0 xs0.length c_x0) xs0) := o_x0'
  clear o_x0'
  have b0_c := b0.out.2.1
  have b0_d := b0.out.2.2
  have b0_z := b0.out.1
  have bw_c := bw.out.2.1
  have bw_d := bw.out.2.2
  have bw_z := bw.out.1
  go_wp2_with fail
  refine (iChangePlaneR_any _ m0 (.slice A_x0 xs0.length c_x0) xs0 a1 (w4.heap.size + 1) w5.heap.size (x0.out.keep (by (repeat (first | assumption | exact Below.refl _ _ | refine Below.alloc ?_ (by first | omega | (simp; done) | (simp; omega)) _ | refine Below.setCell ?_ (by first | omega | (simp; done) | (simp; omega)) _ | refine below_drewN ?_ _)))) (by omega)).mono ?_
  rintro e w6 h_r
  replace h_r := h_r.of HR
  obtain ⟨A_og, c_og, rfl, o_og, hb6⟩ := h_r
  have o_og' := (o_og).mono (show (w5.heap.size + 1) ≤ _ from by first | exact Nat.le_refl _ | (simp; done) | (simp; omega)) (Nat.le_refl _)
  clear o_og
  clear b0_c b0_d b0_z
  clear bw_c bw_d bw_z
  have R : Below w5.heap.size w5 w6 := Below.trans (by (repeat (first | assumption | exact Below.refl _ _ | refine Below.alloc ?_ (by first | omega | (simp; done) | (simp; omega)) _ | refine Below.setCell ?_ (by first | omega | (simp; done) | (simp; omega)) _ | refine below_drewN ?_ _))) (hb6.mono (by first | exact Nat.le_refl _ | (simp; done) | (simp; omega)))
  have s6 : w5.heap.size ≤ w6.heap.size := R.size
  have K6 : Hid (Below w.heap.size w w6) := K5.out.trans (R.mono (by omega))
  replace b0 : Hid (Bx w6 w.heap.size (.int .i64 m0) (.slice A0 xs0.length c0)) := b0.out.keep R
  replace bw : Hid (Bx w6 w4.heap.size (.int .i64 rm) (.slice A_ow rl.length c_ow)) := bw.out.keep R
  replace ow : Hid (OwnP w6 w3.heap.size w4.heap.size (.slice A_ow rl.length c_ow) rl) := ow.out.keep R
  replace x0 : Hid (OwnP w6 (w4.heap.size + 1) w5.heap.size (.slice A_x0 xs0.length c_x0) xs0) := x0.out.keep R
  have bx0 : Hid (Bx w6 w5.heap.size (.int .i64 m0) (.slice A_x0 xs0.length c_x0)) := ⟨by have := hb6.size; simp at this; omega, by rw [hb6.cell (by first | (simp; done) | (simp; omega))]; simp, by rw [hb6.cell (by first | (simp; done) | (simp; omega))]; simp⟩
  clear R hb6
  have og : Hid (OwnP w6 (w5.heap.size + 1) w6.heap.size (.slice A_og rl.length c_og) rl) := o_og'
  clear o_og'
  have b0_c := b0.out.2.1
  have b0_d := b0.out.2.2
  have b0_z := b0.out.1
  have bw_c := bw.out.2.1
  have bw_d := bw.out.2.2
  have bw_z := bw.out.1
  have bx0_c := bx0.out.2.1
  have bx0_d := bx0.out.2.2
  have bx0_z := bx0.out.1
  go_wp2_with fail
  refine (eqP_any _ rm rm _ _ _ _ (og.out.keep (by (repeat (first | assumption | exact Below.refl _ _ | refine Below.alloc ?_ (by first | omega | (simp; done) | (simp; omega)) _ | refine Below.setCell ?_ (by first | omega | (simp; done) | (simp; omega)) _ | refine below_drewN ?_ _)))).rd (ow.out.keep (by (repeat (first | assumption | exact Below.refl _ _ | refine Below.alloc ?_ (by first | omega | (simp; done) | (simp; omega)) _ | refine Below.setCell ?_ (by first | omega | (simp; done) | (simp; omega)) _ | refine below_drewN ?_ _)))).rd).mono ?_
  rintro e w7 ⟨rfl, hb7⟩
  clear b0_c b0_d b0_z
  clear bw_c bw_d bw_z
  clear bx0_c bx0_d bx0_z
  have R : Below w6.heap.size w6 w7 := Below.trans (by (repeat (first | assumption | exact Below.refl _ _ | refine Below.alloc ?_ (by first | omega | (simp; done) | (simp; omega)) _ | refine Below.setCell ?_ (by first | omega | (simp; done) | (simp; omega)) _ | refine below_drewN ?_ _))) (hb7.mono (by first | exact Nat.le_refl _ | (simp; done) | (simp; omega)))
  have s7 : w6.heap.size ≤ w7.heap.size := R.size
  have K7 : Hid (Below w.heap.size w w7) := K6.out.trans (R.mono (by omega))
  replace b0 : Hid (Bx w7 w.heap.size (.int .i64 m0) (.slice A0 xs0.length c0)) := b0.out.keep R
  replace bw : Hid (Bx w7 w4.heap.size (.int .i64 rm) (.slice A_ow rl.length c_ow)) := bw.out.keep R
  replace bx0 : Hid (Bx w7 w5.heap.size (.int .i64 m0) (.slice A_x0 xs0.length c_x0)) := bx0.out.keep R
  replace ow : Hid (OwnP w7 w3.heap.size w4.heap.size (.slice A_ow rl.length c_ow) rl) := ow.out.keep R
  replace x0 : Hid (OwnP w7 (w4.heap.size + 1) w5.heap.size (.slice A_x0 xs0.length c_x0) xs0) := x0.out.keep R
  replace og : Hid (OwnP w7 (w5.heap.size + 1) w6.heap.size (.slice A_og rl.length c_og) rl) := og.out.keep R
  have bg : Hid (Bx w7 w6.heap.size (.int .i64 rm) (.slice A_og rl.length c_og)) := ⟨by have := hb7.size; simp at this; omega, by rw [hb7.cell (by first | (simp; done) | (simp; omega))]; simp, by rw [hb7.cell (by first | (simp; done) | (simp; omega))]; simp⟩
  clear R hb7
  have b0_c := b0.out.2.1
  have b0_d := b0.out.2.2
  have b0_z := b0.out.1
  have bw_c := bw.out.2.1
  have bw_d := bw.out.2.2
  have bw_z := bw.out.1
  have bx0_c := bx0.out.2.1
  have bx0_d := bx0.out.2.2
  have bx0_z := bx0.out.1
  have bg_c := bg.out.2.1
  have bg_d := bg.out.2.2
  have bg_z := bg.out.1
  go_wp2
  clear b0_c b0_d b0_z
  clear bw_c bw_d bw_z
  clear bx0_c bx0_d bx0_z
  clear bg_c bg_d bg_z
  have L0 : Below w.heap.size w w7.drew := below_drew K7.out
  have T0 : Hid (Bx w7.drew w.heap.size (.int .i64 m0) (.slice A0 xs0.length c0) ∧ Bx w7.drew w4.heap.size (.int .i64 rm) (.slice A_ow rl.length c_ow) ∧ Bx w7.drew w5.heap.size (.int .i64 m0) (.slice A_x0 xs0.length c_x0) ∧ Bx w7.drew w6.heap.size (.int .i64 rm) (.slice A_og rl.length c_og) ∧ OwnP w7.drew w3.heap.size w4.heap.size (.slice A_ow rl.length c_ow) rl ∧ OwnP w7.drew (w4.heap.size + 1) w5.heap.size (.slice A_x0 xs0.length c_x0) xs0 ∧ OwnP w7.drew (w5.heap.size + 1) w6.heap.size (.slice A_og rl.length c_og) rl ∧ Below w.heap.size w w7.drew ∧ w7.heap.size ≤ w7.drew.heap.size) := ⟨b0.out, bw.out, bx0.out, bg.out, ow.out, x0.out, og.out, L0, Nat.le_refl _⟩
  go_region_held3 (fun w' => w'.cell? ⟨w.heap.size, 0, none⟩ = some (.int .i64 m0) ∧ w'.cell? ⟨w.heap.size, 1, none⟩ = some (.slice A0 xs0.length c0) ∧ w'.cell? ⟨w4.heap.size, 0, none⟩ = some (.int .i64 rm) ∧ w'.cell? ⟨w4.heap.size, 1, none⟩ = some (.slice A_ow rl.length c_ow) ∧ w'.cell? ⟨w5.heap.size, 0, none⟩ = some (.int .i64 m0) ∧ w'.cell? ⟨w5.heap.size, 1, none⟩ = some (.slice A_x0 xs0.length c_x0) ∧ w'.cell? ⟨w6.heap.size, 0, none⟩ = some (.int .i64 rm) ∧ w'.cell? ⟨w6.heap.size, 1, none⟩ = some (.slice A_og rl.length c_og) ∧ Hid (Bx w' w.heap.size (.int .i64 m0) (.slice A0 xs0.length c0) ∧ Bx w' w4.heap.size (.int .i64 rm) (.slice A_ow rl.length c_ow) ∧ Bx w' w5.heap.size (.int .i64 m0) (.slice A_x0 xs0.length c_x0) ∧ Bx w' w6.heap.size (.int .i64 rm) (.slice A_og rl.length c_og) ∧ OwnP w' w3.heap.size w4.heap.size (.slice A_ow rl.length c_ow) rl ∧ OwnP w' (w4.heap.size + 1) w5.heap.size (.slice A_x0 xs0.length c_x0) xs0 ∧ OwnP w' (w5.heap.size + 1) w6.heap.size (.slice A_og rl.length c_og) rl ∧ Below w.heap.size w w' ∧ w7.heap.size ≤ w'.heap.size))
    (first | exact ⟨(T0.out.1).2.1, (T0.out.1).2.2, (T0.out.2.1).2.1, (T0.out.2.1).2.2, (T0.out.2.2.1).2.1, (T0.out.2.2.1).2.2, (T0.out.2.2.2.1).2.1, (T0.out.2.2.2.1).2.2, T0⟩ | exact ⟨(T1.out.1).2.1, (T1.out.1).2.2, (T1.out.2.1).2.1, (T1.out.2.1).2.2, (T1.out.2.2.1).2.1, (T1.out.2.2.1).2.2, (T1.out.2.2.2.1).2.1, (T1.out.2.2.2.1).2.2, T1⟩ | exact ⟨(T2.out.1).2.1, (T2.out.1).2.2, (T2.out.2.1).2.1, (T2.out.2.1).2.2, (T2.out.2.2.1).2.1, (T2.out.2.2.1).2.2, (T2.out.2.2.2.1).2.1, (T2.out.2.2.2.1).2.2, T2⟩)
    (first
      | (go_at_call 17; refine (toP_any _ m0 _ xs0 (hv0.below L0) (by omega)).mono ?_; rintro e w8 ⟨A_t, c_t, rfl, o_t, hbA⟩; have T1 : Hid (Bx w8 w.heap.size (.int .i64 m0) (.slice A0 xs0.length c0) ∧ Bx w8 w4.heap.size (.int .i64 rm) (.slice A_ow rl.length c_ow) ∧ Bx w8 w5.heap.size (.int .i64 m0) (.slice A_x0 xs0.length c_x0) ∧ Bx w8 w6.heap.size (.int .i64 rm) (.slice A_og rl.length c_og) ∧ OwnP w8 w3.heap.size w4.heap.size (.slice A_ow rl.length c_ow) rl ∧ OwnP w8 (w4.heap.size + 1) w5.heap.size (.slice A_x0 xs0.length c_x0) xs0 ∧ OwnP w8 (w5.heap.size + 1) w6.heap.size (.slice A_og rl.length c_og) rl ∧ Below w.heap.size w w8 ∧ w7.heap.size ≤ w8.heap.size) := ⟨(T0.out.1).keep hbA, (T0.out.2.1).keep hbA, (T0.out.2.2.1).keep hbA, (T0.out.2.2.2.1).keep hbA, (T0.out.2.2.2.2.1).keep hbA, (T0.out.2.2.2.2.2.1).keep hbA, (T0.out.2.2.2.2.2.2.1).keep hbA, (T0.out.2.2.2.2.2.2.2.1).trans (hbA.mono (Nat.le_trans (show w.heap.size ≤ w7.heap.size from by omega) (T0.out.2.2.2.2.2.2.2.2))), Nat.le_trans (T0.out.2.2.2.2.2.2.2.2) hbA.size⟩)
      | (go_at_call 19; refine (eqP_any _ m0 m0 _ _ xs0 xs0 (T1.out.2.2.2.2.2.1).rd o_t.rd).mono ?_; rintro e w9 ⟨rfl, hbB⟩; have T2 : Hid (Bx w9 w.heap.size (.int .i64 m0) (.slice A0 xs0.length c0) ∧ Bx w9 w4.heap.size (.int .i64 rm) (.slice A_ow rl.length c_ow) ∧ Bx w9 w5.heap.size (.int .i64 m0) (.slice A_x0 xs0.length c_x0) ∧ Bx w9 w6.heap.size (.int .i64 rm) (.slice A_og rl.length c_og) ∧ OwnP w9 w3.heap.size w4.heap.size (.slice A_ow rl.length c_ow) rl ∧ OwnP w9 (w4.heap.size + 1) w5.heap.size (.slice A_x0 xs0.length c_x0) xs0 ∧ OwnP w9 (w5.heap.size + 1) w6.heap.size (.slice A_og rl.length c_og) rl ∧ Below w.heap.size w w9 ∧ w7.heap.size ≤ w9.heap.size) := ⟨(T1.out.1).keep hbB, (T1.out.2.1).keep hbB, (T1.out.2.2.1).keep hbB, (T1.out.2.2.2.1).keep hbB, (T1.out.2.2.2.2.1).keep hbB, (T1.out.2.2.2.2.2.1).keep hbB, (T1.out.2.2.2.2.2.2.1).keep hbB, (T1.out.2.2.2.2.2.2.2.1).trans (hbB.mono (Nat.le_trans (show w.heap.size ≤ w7.heap.size from by omega) (T1.out.2.2.2.2.2.2.2.2))), Nat.le_trans (T1.out.2.2.2.2.2.2.2.2) hbB.size⟩))
  have s9 : w7.heap.size ≤ w9.heap.size := T2.out.2.2.2.2.2.2.2.2
  have K9 : Hid (Below w.heap.size w w9) := T2.out.2.2.2.2.2.2.2.1
  replace b0 : Hid (Bx w9 w.heap.size (.int .i64 m0) (.slice A0 xs0.length c0)) := T2.out.1
  replace bw : Hid (Bx w9 w4.heap.size (.int .i64 rm) (.slice A_ow rl.length c_ow)) := T2.out.2.1
  replace bx0 : Hid (Bx w9 w5.heap.size (.int .i64 m0) (.slice A_x0 xs0.length c_x0)) := T2.out.2.2.1
  replace bg : Hid (Bx w9 w6.heap.size (.int .i64 rm) (.slice A_og rl.length c_og)) := T2.out.2.2.2.1
  replace ow : Hid (OwnP w9 w3.heap.size w4.heap.size (.slice A_ow rl.length c_ow) rl) := T2.out.2.2.2.2.1
  replace x0 : Hid (OwnP w9 (w4.heap.size + 1) w5.heap.size (.slice A_x0 xs0.length c_x0) xs0) := T2.out.2.2.2.2.2.1
  replace og : Hid (OwnP w9 (w5.heap.size + 1) w6.heap.size (.slice A_og rl.length c_og) rl) := T2.out.2.2.2.2.2.2.1
  clear T0 T1 T2 L0 o_t
  have b0_c := b0.out.2.1
  have b0_d := b0.out.2.2
  have b0_z := b0.out.1
  have bw_c := bw.out.2.1
  have bw_d := bw.out.2.2
  have bw_z := bw.out.1
  have bx0_c := bx0.out.2.1
  have bx0_d := bx0.out.2.2
  have bx0_z := bx0.out.1
  have bg_c := bg.out.2.1
  have bg_d := bg.out.2.2
  have bg_z := bg.out.1
  go_wp2_with fail
  refine (markPB_any _ (w4.heap.size + 1) w5.heap.size m0 _ xs0 (1) (x0.out.keep (by (repeat (first | assumption | exact Below.refl _ _ | refine Below.alloc ?_ (by first | omega | (simp; done) | (simp; omega)) _ | refine Below.setCell ?_ (by first | omega | (simp; done) | (simp; omega)) _ | refine below_drewN ?_ _)))) (by omega) (by omega) (by omega)).mono ?_
  rintro e w10 ⟨rfl, o_m, hg10⟩
  clear b0_c b0_d b0_z
  clear bw_c bw_d bw_z
  clear bx0_c bx0_d bx0_z
  clear bg_c bg_d bg_z
  have R : Within (w4.heap.size + 1) w5.heap.size w9 w10 := Within.behind (by (repeat (first | assumption | exact Below.refl _ _ | refine Below.alloc ?_ (by first | omega | (simp; done) | (simp; omega)) _ | refine Below.setCell ?_ (by first | omega | (simp; done) | (simp; omega)) _ | refine below_drewN ?_ _))) hg10
  have s10 : w9.heap.size ≤ w10.heap.size := R.2.2.2.1
  have K10 : Hid (Below w.heap.size w w10) := R.below K9.out (by omega) (by omega)
  replace b0 : Hid (Bx w10 w.heap.size (.int .i64 m0) (.slice A0 xs0.length c0)) := b0.out.within R (by omega)
  replace bw : Hid (Bx w10 w4.heap.size (.int .i64 rm) (.slice A_ow rl.length c_ow)) := bw.out.within R (by omega)
  replace bx0 : Hid (Bx w10 w5.heap.size (.int .i64 m0) (.slice A_x0 xs0.length c_x0)) := bx0.out.within R (by omega)
  replace bg : Hid (Bx w10 w6.heap.size (.int .i64 rm) (.slice A_og rl.length c_og)) := bg.out.within R (by omega)
  replace ow : Hid (OwnP w10 w3.heap.size w4.heap.size (.slice A_ow rl.length c_ow) rl) := ow.out.within R (by omega)
  replace og : Hid (OwnP w10 (w5.heap.size + 1) w6.heap.size (.slice A_og rl.length c_og) rl) := og.out.within R (by omega)
  clear R hg10
  replace x0 : Hid (OwnP w10 (w4.heap.size + 1) w5.heap.size (.slice A_x0 xs0.length c_x0) (mkP (1) xs0)) := o_m
  clear o_m
  have b0_c := b0.out.2.1
  have b0_d := b0.out.2.2
  have b0_z := b0.out.1
  have bw_c := bw.out.2.1
  have bw_d := bw.out.2.2
  have bw_z := bw.out.1
  have bx0_c := bx0.out.2.1
  have bx0_d := bx0.out.2.2
  have bx0_z := bx0.out.1
  have bg_c := bg.out.2.1
  have bg_d := bg.out.2.2
  have bg_z := bg.out.1
  go_wp2_with fail
  refine (eqP_any _ rm rm _ _ _ _ (og.out.keep (by (repeat (first | assumption | exact Below.refl _ _ | refine Below.alloc ?_ (by first | omega | (simp; done) | (simp; omega)) _ | refine Below.setCell ?_ (by first | omega | (simp; done) | (simp; omega)) _ | refine below_drewN ?_ _)))).rd (ow.out.keep (by (repeat (first | assumption | exact Below.refl _ _ | refine Below.alloc ?_ (by first | omega | (simp; done) | (simp; omega)) _ | refine Below.setCell ?_ (by first | omega | (simp; done) | (simp; omega)) _ | refine below_drewN ?_ _)))).rd).mono ?_
  rintro e w11 ⟨rfl, hb11⟩
  clear b0_c b0_d b0_z
  clear bw_c bw_d bw_z
  clear bx0_c bx0_d bx0_z
  clear bg_c bg_d bg_z
  have R : Below w10.heap.size w10 w11 := Below.trans (by (repeat (first | assumption | exact Below.refl _ _ | refine Below.alloc ?_ (by first | omega | (simp; done) | (simp; omega)) _ | refine Below.setCell ?_ (by first | omega | (simp; done) | (simp; omega)) _ | refine below_drewN ?_ _))) (hb11.mono (by first | exact Nat.le_refl _ | (simp; done) | (simp; omega)))
  have s11 : w10.heap.size ≤ w11.heap.size := R.size
  have K11 : Hid (Below w.heap.size w w11) := K10.out.trans (R.mono (by omega))
  replace b0 : Hid (Bx w11 w.heap.size (.int .i64 m0) (.slice A0 xs0.length c0)) := b0.out.keep R
  replace bw : Hid (Bx w11 w4.heap.size (.int .i64 rm) (.slice A_ow rl.length c_ow)) := bw.out.keep R
  replace bx0 : Hid (Bx w11 w5.heap.size (.int .i64 m0) (.slice A_x0 xs0.length c_x0)) := bx0.out.keep R
  replace bg : Hid (Bx w11 w6.heap.size (.int .i64 rm) (.slice A_og rl.length c_og)) := bg.out.keep R
  replace ow : Hid (OwnP w11 w3.heap.size w4.heap.size (.slice A_ow rl.length c_ow) rl) := ow.out.keep R
  replace x0 : Hid (OwnP w11 (w4.heap.size + 1) w5.heap.size (.slice A_x0 xs0.length c_x0) (mkP (1) xs0)) := x0.out.keep R
  replace og : Hid (OwnP w11 (w5.heap.size + 1) w6.heap.size (.slice A_og rl.length c_og) rl) := og.out.keep R
  clear R hb11
  have b0_c := b0.out.2.1
  have b0_d := b0.out.2.2
  have b0_z := b0.out.1
  have bw_c := bw.out.2.1
  have bw_d := bw.out.2.2
  have bw_z := bw.out.1
  have bx0_c := bx0.out.2.1
  have bx0_d := bx0.out.2.2
  have bx0_z := bx0.out.1
  have bg_c := bg.out.2.1
  have bg_d := bg.out.2.2
  have bg_z := bg.out.1
  go_wp2_with fail
  refine (markPB_any _ (w5.heap.size + 1) w6.heap.size rm _ rl (1) (og.out.keep (by (repeat (first | assumption | exact Below.refl _ _ | refine Below.alloc ?_ (by first | omega | (simp; done) | (simp; omega)) _ | refine Below.setCell ?_ (by first | omega | (simp; done) | (simp; omega)) _ | refine below_drewN ?_ _)))) (by omega) (by omega) (by omega)).mono ?_
  rintro e w12 ⟨rfl, o_m, hg12⟩
  clear b0_c b0_d b0_z
  clear bw_c bw_d bw_z
  clear bx0_c bx0_d bx0_z
  clear bg_c bg_d bg_z
  have R : Within (w5.heap.size + 1) w6.heap.size w11 w12 := Within.behind (by (repeat (first | assumption | exact Below.refl _ _ | refine Below.alloc ?_ (by first | omega | (simp; done) | (simp; omega)) _ | refine Below.setCell ?_ (by first | omega | (simp; done) | (simp; omega)) _ | refine below_drewN ?_ _))) hg12
  have s12 : w11.heap.size ≤ w12.heap.size := R.2.2.2.1
  have K12 : Hid (Below w.heap.size w w12) := R.below K11.out (by omega) (by omega)
  replace b0 : Hid (Bx w12 w.heap.size (.int .i64 m0) (.slice A0 xs0.length c0)) := b0.out.within R (by omega)
  replace bw : Hid (Bx w12 w4.heap.size (.int .i64 rm) (.slice A_ow rl.length c_ow)) := bw.out.within R (by omega)
  replace bx0 : Hid (Bx w12 w5.heap.size (.int .i64 m0) (.slice A_x0 xs0.length c_x0)) := bx0.out.within R (by omega)
  replace bg : Hid (Bx w12 w6.heap.size (.int .i64 rm) (.slice A_og rl.length c_og)) := bg.out.within R (by omega)
  replace ow : Hid (OwnP w12 w3.heap.size w4.heap.size (.slice A_ow rl.length c_ow) rl) := ow.out.within R (by omega)
  replace x0 : Hid (OwnP w12 (w4.heap.size + 1) w5.heap.size (.slice A_x0 xs0.length c_x0) (mkP (1) xs0)) := x0.out.within R (by omega)
  clear R hg12
  replace og : Hid (OwnP w12 (w5.heap.size + 1) w6.heap.size (.slice A_og rl.length c_og) (mkP (1) rl)) := o_m
  clear o_m
  have b0_c := b0.out.2.1
  have b0_d := b0.out.2.2
  have b0_z := b0.out.1
  have bw_c := bw.out.2.1
  have bw_d := bw.out.2.2
  have bw_z := bw.out.1
  have bx0_c := bx0.out.2.1
  have bx0_d := bx0.out.2.2
  have bx0_z := bx0.out.1
  have bg_c := bg.out.2.1
  have bg_d := bg.out.2.2
  have bg_z := bg.out.1
  go_wp2_with fail
  refine (heldPB_any _ (w5.heap.size + 1) w6.heap.size rm _ rl (1) (og.out.keep (by (repeat (first | assumption | exact Below.refl _ _ | refine Below.alloc ?_ (by first | omega | (simp; done) | (simp; omega)) _ | refine Below.setCell ?_ (by first | omega | (simp; done) | (simp; omega)) _ | refine below_drewN ?_ _)))) (by omega) (by omega) (by omega)).mono ?_
  rintro e w13 ⟨rfl, hb13⟩
  clear b0_c b0_d b0_z
  clear bw_c bw_d bw_z
  clear bx0_c bx0_d bx0_z
  clear bg_c bg_d bg_z
  have R : Below w12.heap.size w12 w13 := Below.trans (by (repeat (first | assumption | exact Below.refl _ _ | refine Below.alloc ?_ (by first | omega | (simp; done) | (simp; omega)) _ | refine Below.setCell ?_ (by first | omega | (simp; done) | (simp; omega)) _ | refine below_drewN ?_ _))) (hb13.mono (by first | exact Nat.le_refl _ | (simp; done) | (simp; omega)))
  have s13 : w12.heap.size ≤ w13.heap.size := R.size
  have K13 : Hid (Below w.heap.size w w13) := K12.out.trans (R.mono (by omega))
  replace b0 : Hid (Bx w13 w.heap.size (.int .i64 m0) (.slice A0 xs0.length c0)) := b0.out.keep R
  replace bw : Hid (Bx w13 w4.heap.size (.int .i64 rm) (.slice A_ow rl.length c_ow)) := bw.out.keep R
  replace bx0 : Hid (Bx w13 w5.heap.size (.int .i64 m0) (.slice A_x0 xs0.length c_x0)) := bx0.out.keep R
  replace bg : Hid (Bx w13 w6.heap.size (.int .i64 rm) (.slice A_og rl.length c_og)) := bg.out.keep R
  replace ow : Hid (OwnP w13 w3.heap.size w4.heap.size (.slice A_ow rl.length c_ow) rl) := ow.out.keep R
  replace x0 : Hid (OwnP w13 (w4.heap.size + 1) w5.heap.size (.slice A_x0 xs0.length c_x0) (mkP (1) xs0)) := x0.out.keep R
  replace og : Hid (OwnP w13 (w5.heap.size + 1) w6.heap.size (.slice A_og rl.length c_og) (mkP (1) rl)) := og.out.keep R
  clear R hb13
  have b0_c := b0.out.2.1
  have b0_d := b0.out.2.2
  have b0_z := b0.out.1
  have bw_c := bw.out.2.1
  have bw_d := bw.out.2.2
  have bw_z := bw.out.1
  have bx0_c := bx0.out.2.1
  have bx0_d := bx0.out.2.2
  have bx0_z := bx0.out.1
  have bg_c := bg.out.2.1
  have bg_d := bg.out.2.2
  have bg_z := bg.out.1
  go_wp2_with fail
  refine (toP_any _ m0 _ xs0 (hv0.below K13.out) (by omega)).mono ?_
  rintro e w14 ⟨A_y0, c_y0, rfl, o_y0, hb14⟩
  clear b0_c b0_d b0_z
  clear bw_c bw_d bw_z
  clear bx0_c bx0_d bx0_z
  clear bg_c bg_d bg_z
  have o_y0' := (o_y0).mono (show w13.heap.size ≤ _ from by first | exact Nat.le_refl _ | (simp; done) | (simp; omega)) (Nat.le_refl _)
  clear o_y0
  have R : Below w13.heap.size w13 w14 := Below.trans (by (repeat (first | assumption | exact Below.refl _ _ | refine Below.alloc ?_ (by first | omega | (simp; done) | (simp; omega)) _ | refine Below.setCell ?_ (by first | omega | (simp; done) | (simp; omega)) _ | refine below_drewN ?_ _))) (hb14.mono (by first | exact Nat.le_refl _ | (simp; done) | (simp; omega)))
  have s14 : w13.heap.size ≤ w14.heap.size := R.size
  have K14 : Hid (Below w.heap.size w w14) := K13.out.trans (R.mono (by omega))
  replace b0 : Hid (Bx w14 w.heap.size (.int .i64 m0) (.slice A0 xs0.length c0)) := b0.out.keep R
  replace bw : Hid (Bx w14 w4.heap.size (.int .i64 rm) (.slice A_ow rl.length c_ow)) := bw.out.keep R
  replace bx0 : Hid (Bx w14 w5.heap.size (.int .i64 m0) (.slice A_x0 xs0.length c_x0)) := bx0.out.keep R
  replace bg : Hid (Bx w14 w6.heap.size (.int .i64 rm) (.slice A_og rl.length c_og)) := bg.out.keep R
  replace ow : Hid (OwnP w14 w3.heap.size w4.heap.size (.slice A_ow rl.length c_ow) rl) := ow.out.keep R
  replace x0 : Hid (OwnP w14 (w4.heap.size + 1) w5.heap.size (.slice A_x0 xs0.length c_x0) (mkP (1) xs0)) := x0.out.keep R
  replace og : Hid (OwnP w14 (w5.heap.size + 1) w6.heap.size (.slice A_og rl.length c_og) (mkP (1) rl)) := og.out.keep R
  clear R hb14
  have y0 : Hid (OwnP w14 w13.heap.size w14.heap.size (.slice A_y0 xs0.length c_y0) xs0) := o_y0'
  clear o_y0'
  have b0_c := b0.out.2.1
  have b0_d := b0.out.2.2
  have b0_z := b0.out.1
  have bw_c := bw.out.2.1
  have bw_d := bw.out.2.2
  have bw_z := bw.out.1
  have bx0_c := bx0.out.2.1
  have bx0_d := bx0.out.2.2
  have bx0_z := bx0.out.1
  have bg_c := bg.out.2.1
  have bg_d := bg.out.2.2
  have bg_z := bg.out.1
  go_wp2_with fail
  refine (iChangePlaneR_any _ m0 (.slice A_y0 xs0.length c_y0) xs0 a1 w13.heap.size w14.heap.size (y0.out.keep (by (repeat (first | assumption | exact Below.refl _ _ | refine Below.alloc ?_ (by first | omega | (simp; done) | (simp; omega)) _ | refine Below.setCell ?_ (by first | omega | (simp; done) | (simp; omega)) _ | refine below_drewN ?_ _)))) (by omega)).mono ?_
  rintro e w15 h_r
  replace h_r := h_r.of HR
  obtain ⟨A_oh, c_oh, rfl, o_oh, hb15⟩ := h_r
  have o_oh' := (o_oh).mono (show w14.heap.size ≤ _ from by first | exact Nat.le_refl _ | (simp; done) | (simp; omega)) (Nat.le_refl _)
  clear o_oh
  clear b0_c b0_d b0_z
  clear bw_c bw_d bw_z
  clear bx0_c bx0_d bx0_z
  clear bg_c bg_d bg_z
  have R : Below w14.heap.size w14 w15 := Below.trans (by (repeat (first | assumption | exact Below.refl _ _ | refine Below.alloc ?_ (by first | omega | (simp; done) | (simp; omega)) _ | refine Below.setCell ?_ (by first | omega | (simp; done) | (simp; omega)) _ | refine below_drewN ?_ _))) (hb15.mono (by first | exact Nat.le_refl _ | (simp; done) | (simp; omega)))
  have s15 : w14.heap.size ≤ w15.heap.size := R.size
  have K15 : Hid (Below w.heap.size w w15) := K14.out.trans (R.mono (by omega))
  replace b0 : Hid (Bx w15 w.heap.size (.int .i64 m0) (.slice A0 xs0.length c0)) := b0.out.keep R
  replace bw : Hid (Bx w15 w4.heap.size (.int .i64 rm) (.slice A_ow rl.length c_ow)) := bw.out.keep R
  replace bx0 : Hid (Bx w15 w5.heap.size (.int .i64 m0) (.slice A_x0 xs0.length c_x0)) := bx0.out.keep R
  replace bg : Hid (Bx w15 w6.heap.size (.int .i64 rm) (.slice A_og rl.length c_og)) := bg.out.keep R
  replace ow : Hid (OwnP w15 w3.heap.size w4.heap.size (.slice A_ow rl.length c_ow) rl) := ow.out.keep R
  replace x0 : Hid (OwnP w15 (w4.heap.size + 1) w5.heap.size (.slice A_x0 xs0.length c_x0) (mkP (1) xs0)) := x0.out.keep R
  replace og : Hid (OwnP w15 (w5.heap.size + 1) w6.heap.size (.slice A_og rl.length c_og) (mkP (1) rl)) := og.out.keep R
  replace y0 : Hid (OwnP w15 w13.heap.size w14.heap.size (.slice A_y0 xs0.length c_y0) xs0) := y0.out.keep R
  clear R hb15
  have oh : Hid (OwnP w15 w14.heap.size w15.heap.size (.slice A_oh rl.length c_oh) rl) := o_oh'
  clear o_oh'
  have b0_c := b0.out.2.1
  have b0_d := b0.out.2.2
  have b0_z := b0.out.1
  have bw_c := bw.out.2.1
  have bw_d := bw.out.2.2
  have bw_z := bw.out.1
  have bx0_c := bx0.out.2.1
  have bx0_d := bx0.out.2.2
  have bx0_z := bx0.out.1
  have bg_c := bg.out.2.1
  have bg_d := bg.out.2.2
  have bg_z := bg.out.1
  go_wp2_with fail
  refine (eqP_any _ rm rm _ _ _ _ (oh.out.keep (by (repeat (first | assumption | exact Below.refl _ _ | refine Below.alloc ?_ (by first | omega | (simp; done) | (simp; omega)) _ | refine Below.setCell ?_ (by first | omega | (simp; done) | (simp; omega)) _ | refine below_drewN ?_ _)))).rd (ow.out.keep (by (repeat (first | assumption | exact Below.refl _ _ | refine Below.alloc ?_ (by first | omega | (simp; done) | (simp; omega)) _ | refine Below.setCell ?_ (by first | omega | (simp; done) | (simp; omega)) _ | refine below_drewN ?_ _)))).rd).mono ?_
  rintro e w16 ⟨rfl, hb16⟩
  clear b0_c b0_d b0_z
  clear bw_c bw_d bw_z
  clear bx0_c bx0_d bx0_z
  clear bg_c bg_d bg_z
  have R : Below w15.heap.size w15 w16 := Below.trans (by (repeat (first | assumption | exact Below.refl _ _ | refine Below.alloc ?_ (by first | omega | (simp; done) | (simp; omega)) _ | refine Below.setCell ?_ (by first | omega | (simp; done) | (simp; omega)) _ | refine below_drewN ?_ _))) (hb16.mono (by first | exact Nat.le_refl _ | (simp; done) | (simp; omega)))
  have s16 : w15.heap.size ≤ w16.heap.size := R.size
  have K16 : Hid (Below w.heap.size w w16) := K15.out.trans (R.mono (by omega))
  replace b0 : Hid (Bx w16 w.heap.size (.int .i64 m0) (.slice A0 xs0.length c0)) := b0.out.keep R
  replace bw : Hid (Bx w16 w4.heap.size (.int .i64 rm) (.slice A_ow rl.length c_ow)) := bw.out.keep R
  replace bx0 : Hid (Bx w16 w5.heap.size (.int .i64 m0) (.slice A_x0 xs0.length c_x0)) := bx0.out.keep R
  replace bg : Hid (Bx w16 w6.heap.size (.int .i64 rm) (.slice A_og rl.length c_og)) := bg.out.keep R
  replace ow : Hid (OwnP w16 w3.heap.size w4.heap.size (.slice A_ow rl.length c_ow) rl) := ow.out.keep R
  replace x0 : Hid (OwnP w16 (w4.heap.size + 1) w5.heap.size (.slice A_x0 xs0.length c_x0) (mkP (1) xs0)) := x0.out.keep R
  replace og : Hid (OwnP w16 (w5.heap.size + 1) w6.heap.size (.slice A_og rl.length c_og) (mkP (1) rl)) := og.out.keep R
  replace y0 : Hid (OwnP w16 w13.heap.size w14.heap.size (.slice A_y0 xs0.length c_y0) xs0) := y0.out.keep R
  replace oh : Hid (OwnP w16 w14.heap.size w15.heap.size (.slice A_oh rl.length c_oh) rl) := oh.out.keep R
  have bh : Hid (Bx w16 w15.heap.size (.int .i64 rm) (.slice A_oh rl.length c_oh)) := ⟨by have := hb16.size; simp at this; omega, by rw [hb16.cell (by first | (simp; done) | (simp; omega))]; simp, by rw [hb16.cell (by first | (simp; done) | (simp; omega))]; simp⟩
  clear R hb16
  have b0_c := b0.out.2.1
  have b0_d := b0.out.2.2
  have b0_z := b0.out.1
  have bw_c := bw.out.2.1
  have bw_d := bw.out.2.2
  have bw_z := bw.out.1
  have bx0_c := bx0.out.2.1
  have bx0_d := bx0.out.2.2
  have bx0_z := bx0.out.1
  have bg_c := bg.out.2.1
  have bg_d := bg.out.2.2
  have bg_z := bg.out.1
  have bh_c := bh.out.2.1
  have bh_d := bh.out.2.2
  have bh_z := bh.out.1
  go_wp2_with fail
  refine (heldPB_any _ (w5.heap.size + 1) w6.heap.size rm _ rl (1) (og.out.keep (by (repeat (first | assumption | exact Below.refl _ _ | refine Below.alloc ?_ (by first | omega | (simp; done) | (simp; omega)) _ | refine Below.setCell ?_ (by first | omega | (simp; done) | (simp; omega)) _ | refine below_drewN ?_ _)))) (by omega) (by omega) (by omega)).mono ?_
  rintro e w17 ⟨rfl, hb17⟩
  clear b0_c b0_d b0_z
  clear bw_c bw_d bw_z
  clear bx0_c bx0_d bx0_z
  clear bg_c bg_d bg_z
  clear bh_c bh_d bh_z
  have R : Below w16.heap.size w16 w17 := Below.trans (by (repeat (first | assumption | exact Below.refl _ _ | refine Below.alloc ?_ (by first | omega | (simp; done) | (simp; omega)) _ | refine Below.setCell ?_ (by first | omega | (simp; done) | (simp; omega)) _ | refine below_drewN ?_ _))) (hb17.mono (by first | exact Nat.le_refl _ | (simp; done) | (simp; omega)))
  have s17 : w16.heap.size ≤ w17.heap.size := R.size
  have K17 : Hid (Below w.heap.size w w17) := K16.out.trans (R.mono (by omega))
  replace b0 : Hid (Bx w17 w.heap.size (.int .i64 m0) (.slice A0 xs0.length c0)) := b0.out.keep R
  replace bw : Hid (Bx w17 w4.heap.size (.int .i64 rm) (.slice A_ow rl.length c_ow)) := bw.out.keep R
  replace bx0 : Hid (Bx w17 w5.heap.size (.int .i64 m0) (.slice A_x0 xs0.length c_x0)) := bx0.out.keep R
  replace bg : Hid (Bx w17 w6.heap.size (.int .i64 rm) (.slice A_og rl.length c_og)) := bg.out.keep R
  replace bh : Hid (Bx w17 w15.heap.size (.int .i64 rm) (.slice A_oh rl.length c_oh)) := bh.out.keep R
  replace ow : Hid (OwnP w17 w3.heap.size w4.heap.size (.slice A_ow rl.length c_ow) rl) := ow.out.keep R
  replace x0 : Hid (OwnP w17 (w4.heap.size + 1) w5.heap.size (.slice A_x0 xs0.length c_x0) (mkP (1) xs0)) := x0.out.keep R
  replace og : Hid (OwnP w17 (w5.heap.size + 1) w6.heap.size (.slice A_og rl.length c_og) (mkP (1) rl)) := og.out.keep R
  replace y0 : Hid (OwnP w17 w13.heap.size w14.heap.size (.slice A_y0 xs0.length c_y0) xs0) := y0.out.keep R
  replace oh : Hid (OwnP w17 w14.heap.size w15.heap.size (.slice A_oh rl.length c_oh) rl) := oh.out.keep R
  clear R hb17
  have b0_c := b0.out.2.1
  have b0_d := b0.out.2.2
  have b0_z := b0.out.1
  have bw_c := bw.out.2.1
  have bw_d := bw.out.2.2
  have bw_z := bw.out.1
  have bx0_c := bx0.out.2.1
  have bx0_d := bx0.out.2.2
  have bx0_z := bx0.out.1
  have bg_c := bg.out.2.1
  have bg_d := bg.out.2.2
  have bg_z := bg.out.1
  have bh_c := bh.out.2.1
  have bh_d := bh.out.2.2
  have bh_z := bh.out.1
  go_wp2
  go_ret
  exact ⟨rfl, K17.out⟩


end Go.Proofs.Ytenofgofcioffaa
