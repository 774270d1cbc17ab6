/- Contracts over this seat's translation. Condition: each contract's own. -/
import Derived.Test.YtglbccikdglcgaaGreatDoorY
import Derived.ProofKit
import Derived.Laws.Bits64b
import Derived.Lib.Mul64
import Derived.OpenShut
import Derived.Below
import Derived.ChangeSame
import Derived.Deep.Modes
import Derived.Lib.SmallJoins
import Derived.ChangeSlices
import Derived.WalkKit
import Derived.WalkSpells
import Derived.WalkLawsBesides
import Derived.Deep.QuietTactic
import Derived.BigQuiet
import Derived.Deep.RegionHeld3
import Derived.Deep.RegionWith
import Derived.Deep.RegionLaw
import Derived.Deep.AppendLies
import Derived.Laws.CopyOwn
import Derived.Deep.DeepCutAuto
import Derived.Deep.OwnRows
import Derived.Deep.LoopGhost
import Derived.Deep.DeepFit
import Derived.Deep.DeepMust
import Derived.Deep.Draws
import Derived.Deep.CutRange
import Derived.Maps.AppendAt
import Derived.Lib.Hide
import Derived.StillTailTactics
import Derived.Laws.MakeOwn
import Derived.Deep.Matrix
import Derived.ChangeAgain
import Derived.SizedLaws
import Derived.Handed
import Derived.Lib.SplitLaws
import Derived.Lib.ParseIntB
import Derived.Lib.ItoaMem
import Derived.Lib.ItoaLen
import Derived.Laws.BytesArg
import Derived.Lib.Join
import Derived.Lib.IndexBytes
set_option linter.unusedVariables false
open Go Go.RowKit
namespace Go.Proofs.YtglbccikdglcgaaGreatDoor
/-! ### A slice of bytes as an argument -/
section
open Go.ChangeShapes Go.WideShapes
variable {H : Type} {enc : TypeId × Value → H} {w : World}
theorem rdB_of_trod {fuel : Nat} {v : Value} {x : DataW H × List MemPlace} (h : DataW.trod enc Tryz.prog w 0 (fun _ => true) true fuel 22 [v] = some x) : ∃ n, RdY w w.heap.size v n := by
  have hlt := DataW.trod_lt _ _ _ _ h
  rcases open_ints Tryz.underlying22 Tryz.underlying5 (by kernel_rfl) h with ⟨h1, _⟩ | ⟨a, len, cap, zs, h1, _, h2, h3, h4, rfl, h5, h6⟩
  · obtain rfl : v = .slice none 0 0 := by simpa using h1
    exact ⟨0, none, 0, rfl, Nat.le_refl _, by unfold maxLen; omega, fun k hk => by simp at hk⟩
  · obtain rfl : v = .slice (some a) len cap := by simpa using h1
    simp only [if_true] at h4
    refine ⟨len, some a, cap, rfl, by omega, h3, fun k hk => ?_⟩
    have hc := h5 k (by omega)
    have hsp : a.spot = none := by
      have hc0 := h5 0 (by omega)
      have e0 : a.add 0 = a := by simp [Addr.add]
      rw [e0] at hc0
      unfold World.cell? at hc0
      cases hs : a.spot with
      | none => rfl
      | some _ =>
        split at hc0
        · simp [hs] at hc0
        · cases hc0
    obtain ⟨b, off, sp⟩ := a
    simp only at hsp
    subst hsp
    have hb : b < w.heap.size := hlt (.cell b (off + k)) (MemPlace.mem_row.2 ⟨k, by omega, rfl⟩)
    rw [add_plain] at hc
    have hw := h6 (zs.getD k 0) (by rw [List.getD_eq_getElem?_getD, List.getElem?_eq_getElem (show k < zs.length by omega)]; exact List.getElem_mem _)
    have hz : 0 ≤ zs.getD k 0 ∧ zs.getD k 0 < 256 := by
      simp only [Lit.wf, Bool.and_eq_true, decide_eq_true_eq] at hw
      have m1 : IntKind.u8.min = 0 := by decide
      have m2 : IntKind.u8.max = 255 := by decide
      omega
    exact ⟨b, off, zs.getD k 0, rfl, hb, by omega, hc, hz⟩
end

/-! ### The law FnTexts -/
theorem RdY.at_ {w w' : World} {v : Value} {n : Nat} (h : RdY w w.heap.size v n) (hb : Below w.heap.size w w') : RdY w' w'.heap.size v n := by
  obtain ⟨A, c, h1, h2, h3, h4⟩ := h
  refine ⟨A, c, h1, h2, h3, fun k hk => ?_⟩
  obtain ⟨g, off, x, e, hg, _, hc, hx⟩ := h4 k hk
  have := hb.size
  exact ⟨g, off, x, e, by omega, by omega, (hb.cell (p := ⟨g, off + k, none⟩) hg).trans hc, hx⟩
theorem serT_short {m : Int} {xs : List Int} (h : isSer m xs = true) : (serT m xs).length ≤ 900000000 := by
  obtain ⟨hm, hx, hl⟩ := isSer_nums h
  have h1 := listT_len (xs := xs) hx
  have h2 := itoa_len (n := m) hm.1 hm.2
  unfold serT
  simp only [List.length_append, List.length_cons]
  omega
theorem plT_short {m : Int} {xss : List (List Int)} (h : isPl m xss = true) : (plT m xss).length ≤ 900000000 := by
  obtain ⟨hm, hn, h2, h11⟩ := isPl_nums h
  have h3 := plT_len_take (m := m) hm hn h2 (by omega) xss.length
  rw [List.take_length] at h3
  unfold plT
  omega
theorem isPl_PlB {m : Int} {xss : List (List Int)} (h : isPl m xss = true) : PlB xss := by
  have h1 := isPl_true h
  refine ⟨by omega, by omega, fun k => ?_⟩
  by_cases hk : k < xss.length
  · have := (h1.2.2 k hk).1
    omega
  · rw [List.getD_eq_getElem?_getD, List.getElem?_eq_none (by omega)]
    simp
theorem sIsPlane_z (w : World) (m : Int) (v : Value) (xss : List (List Int)) (B0 : Nat) (hv : RdQ w B0 v xss) (hp : PlB xss) : Calls Tryz.prog 16 #[.agg #[.int .i64 m, v]] w fun e w' => e = .returned (.bool (isPl m xss)) ∧ Below w.heap.size w w' := by
  obtain ⟨A, c, e0⟩ := hv.form
  subst e0
  go_enter Tryz.func16, Tryz.ntmps16
  go_wp2_with (go_at_call 44; refine (l03Is_z _ _ _ xss B0 (hv.keep (below_alloc1 w _)) hp.len hp.cnt).mono ?_; rintro e w1 ⟨rfl, hb1⟩)
  go_ret
  exact ⟨rfl, (below_alloc1 w _).trans (hb1.mono (by simp))⟩
set_option maxRecDepth 8000 in
set_option maxHeartbeats 16000000 in
theorem FnTexts_walk (w : World) (v : Value) (n : Nat) (hv : RdY w w.heap.size v n) (hS : Std w) : Calls Tryz.prog 3 #[v] w fun e w' => e = .returned (.bool true) ∧ Below w.heap.size w w' := by
  obtain ⟨A, c, e0, hc1, hc2, _⟩ := id hv
  subst e0
  unfold maxLen at hc2
  have HV := Lib.hid hv
  have HSTD := Lib.hid hS
  clear hv hS
  by_cases hbig : 4096 < n
  · have HBG : Hid (decide (4096 < n) = true) := by unfold Hid; simpa using hbig
    clear hbig
    go_enter Tryz.func3, Tryz.ntmps3
    go_wp2_with (fail)
    refine (big_any _ A n c (by omega)).mono ?_
    rintro e w0 ⟨rfl, k0, rfl⟩
    rw [HBG.out]
    go_wp2_with (fail)
    go_ret
    exact ⟨rfl, below_drewN (Below.refl _ _) _⟩
  · have HBG : Hid (decide (4096 < n) = false) := by unfold Hid; simpa using hbig
    have hn4 : n ≤ 4096 := by omega
    clear hbig
    go_enter Tryz.func3, Tryz.ntmps3
    go_wp2_with (fail)
    refine (big_any _ A n c (by omega)).mono ?_
    rintro e w0 ⟨rfl, k0, rfl⟩
    rw [HBG.out]
    go_wp2_with (fail)
    have B0 : Below w.heap.size w (w.drewN k0) := below_drewN (Below.refl _ _) _
    refine (DrawSeriesText_any _ _ n (HV.out.at_ B0) hn4).mono ?_
    rintro e w1 ⟨m, A1, c1, xs, rfl, hx1, ox1, hb1⟩
    have K1 : Hid (Below w.heap.size w w1) := ⟨hb1.os, hb1.tape, hb1.output, hb1.size, hb1.block⟩
    have O1 : Hid (OwnI w1 w.heap.size (.slice A1 xs.length c1) xs) := ox1
    clear hb1 ox1 B0
    obtain ⟨S1, hS1⟩ : ∃ S1 : ByteArray, (⟨(SeriesTextR m xs).1.toArray⟩ : ByteArray) = S1 := ⟨_, rfl⟩
    obtain ⟨C1, hC1⟩ : ∃ C1 : Int, (SeriesTextR m xs).2 = C1 := ⟨_, rfl⟩
    have HI1 : Hid (∀ W, Below w1.heap.size w1 W → Calls Tryz.prog 6 #[.agg #[.int .i64 m, .slice A1 xs.length c1]] W fun e w' => e = .returned (.tuple #[.string S1, .int .i64 C1]) ∧ Below W.heap.size W w') := fun W hW => by
      have h := iSeriesTextR_any W m _ xs _ (O1.out.keep hW (Nat.le_refl _)) (by omega) ((HSTD.out.keep (K1.out.trans (hW.mono K1.out.size))).2.1)
      unfold RetTI at h
      rwa [hS1, hC1] at h
    have HJ1 : Hid (∀ W, Below w1.heap.size w1 W → Calls Tryz.prog 7 #[.agg #[.int .i64 m, .slice A1 xs.length c1]] W fun e w' => e = .returned (.tuple #[.string S1, .int .i64 C1]) ∧ Below W.heap.size W w') := fun W hW => by
      have h := sSeriesTextR_any W m _ xs _ (O1.out.keep hW (Nat.le_refl _)) (by omega)
      unfold RetTI at h
      rwa [hS1, hC1] at h
    have HS1 := Lib.hid hS1
    have HC1 := Lib.hid hC1
    clear hS1 hC1
    have HA1 : Hid (Bf (w1.alloc (.cells #[.int .i64 m, .slice A1 xs.length c1] 26)) w1.heap.size (.int .i64 m) (.slice A1 xs.length c1)) := Bf.alloc1 w1 _ _ _
    go_wp2_with (fail)
    refine (HI1.out _ (below_alloc1 w1 _)).mono ?_
    rintro e w2 ⟨rfl, hb2⟩
    have HA2 := Lib.hid (HA1.out.keep hb2)
    have L2 := Lib.hid ((below_alloc1 w1 _).trans (hb2.mono (by simp)))
    have a0 := HA2.out.1.2.1
    have a1 := HA2.out.1.2.2
    clear hb2 HA1 HI1
    go_wp2_with (fail)
    refine (HJ1.out _ L2.out).mono ?_
    rintro e w3 ⟨rfl, hb3⟩
    have HA3 := Lib.hid (HA2.out.keep hb3)
    have L3 := Lib.hid (L2.out.trans (hb3.mono L2.out.size))
    clear hb3 HA2 L2 HJ1 a0 a1
    have K3 := Lib.hid (K1.out.trans (L3.out.mono K1.out.size))
    by_cases hC : C1 = 0
    · have hCb : (C1 == 0) = true := by simpa using hC
      have HSR : Hid (isSer m xs = true) := by
        unfold Hid
        cases h : isSer m xs
        · have := HC1.out
          unfold SeriesTextR at this
          rw [h] at this
          simp at this
          omega
        · rfl
      have HST : Hid (S1.data.toList = serT m xs) := by
        unfold Hid
        have := HS1.out
        unfold SeriesTextR at this
        rw [HSR.out] at this
        rw [← this]
        rfl
      have HP1 : Hid (∀ W, Below w3.heap.size w3 W → Calls Tryz.prog 8 #[.string S1] W (RetSI W ((m, xs), 0))) := fun W hW => by
        have hz : S1.size ≤ 900000000 := by
          have h := serT_short HSR.out
          rw [← HST.out, Array.length_toList] at h
          exact h
        have h := iParseSeriesR_any W S1 hz (HSTD.out.keep (K3.out.trans (hW.mono K3.out.size)))
        rwa [HST.out, parse_serT HSR.out] at h
      subst hC
      go_wp2_with (fail)
      refine (HP1.out _ (Below.refl _ _)).mono ?_
      rintro e w4 ⟨A4, c4, rfl, o4, hb4⟩
      have HA4 := Lib.hid (HA3.out.keep hb4)
      have L4 := Lib.hid (L3.out.trans (hb4.mono L3.out.size))
      have K4 := Lib.hid (K3.out.trans (hb4.mono K3.out.size))
      have O4 := Lib.hid o4
      have HB4 : Hid (Bf (w4.alloc (.cells #[.int .i64 m, .slice A4 xs.length c4] 26)) w4.heap.size (.int .i64 m) (.slice A4 xs.length c4)) := Bf.alloc1 w4 _ _ _
      have HA5 := Lib.hid (HA4.out.al (.cells #[.int .i64 m, .slice A4 xs.length c4] 26))
      have HQ5 : Hid (∀ W, Below w4.heap.size w4 W → Calls Tryz.prog 9 #[.agg #[.int .i64 m, .slice A4 xs.length c4], .agg #[.int .i64 m, .slice A1 xs.length c1]] W fun e w' => e = .returned (.bool true) ∧ Below W.heap.size W w') := fun W hW => by
        have h := series5_any W m m _ _ xs xs (O4.out.keep hW (Nat.le_refl _)).rd (O1.out.keep (L4.out.trans (hW.mono L4.out.size)) (Nat.le_refl _)).rd
        simpa using h
      have a0 := HA5.out.1.2.1
      have a1 := HA5.out.1.2.2
      have b0 := HB4.out.1.2.1
      have b1 := HB4.out.1.2.2
      clear o4 hb4 HP1 HA3 HA4
      go_wp2_with (fail)
      refine (HQ5.out _ (below_alloc1 w4 _)).mono ?_
      rintro e w5 ⟨rfl, hb5⟩
      have K5 := Lib.hid (K4.out.trans (((below_alloc1 w4 _).trans (hb5.mono (by simp))).mono K4.out.size))
      clear HQ5 hb5 a0 a1 b0 b1 HA5 HB4 L4 L3 HST HSR
      go_wp2_with (fail)
      clear O1 HS1 HC1
      refine (DrawParseSeries_any _ _ n (HV.out.at_ K5.out) hn4).mono ?_
      rintro e w6 ⟨S3, rfl, hz3, hb6⟩
      have K6 := Lib.hid (K5.out.trans (hb6.mono K5.out.size))
      clear hb6
      obtain ⟨⟨⟨m3, ys⟩, C3⟩, hR3⟩ : ∃ r, ParseSeriesR S3.data.toList = r := ⟨_, rfl⟩
      have HI3 : Hid (∀ W, Below w6.heap.size w6 W → Calls Tryz.prog 8 #[.string S3] W (RetSI W ((m3, ys), C3))) := fun W hW => by
        have h := iParseSeriesR_any W S3 hz3 (HSTD.out.keep (K6.out.trans (hW.mono K6.out.size)))
        rwa [hR3] at h
      have HJ3 : Hid (∀ W, Below w6.heap.size w6 W → Calls Tryz.prog 11 #[.string S3] W (RetSI W ((m3, ys), C3))) := fun W hW => by
        have h := sParseSeriesR_any W S3 hz3
        rwa [hR3] at h
      clear hR3
      go_wp2_with (fail)
      refine (HI3.out _ (Below.refl _ _)).mono ?_
      rintro e w7 ⟨A7, c7, rfl, o7, hb7⟩
      have O7 := Lib.hid o7
      have L7 := Lib.hid hb7
      have K7 := Lib.hid (K6.out.trans (hb7.mono K6.out.size))
      have HA7 : Hid (Bf (w7.alloc (.cells #[.int .i64 m3, .slice A7 ys.length c7] 26)) w7.heap.size (.int .i64 m3) (.slice A7 ys.length c7)) := Bf.alloc1 w7 _ _ _
      clear o7 hb7 HI3
      go_wp2_with (fail)
      refine (HJ3.out _ (L7.out.trans ((below_alloc1 w7 _).mono L7.out.size))).mono ?_
      rintro e w8 ⟨A8, c8, rfl, o8, hb8⟩
      have O8 := Lib.hid o8
      have HA8 := Lib.hid ((HA7.out.keep hb8).al (.cells #[.int .i64 m3, .slice A8 ys.length c8] 26))
      have L8 : Hid (Below w7.heap.size w7 w8) := (below_alloc1 w7 _).trans (hb8.mono (by simp))
      have K8 := Lib.hid (K7.out.trans (L8.out.mono K7.out.size))
      have HB8 : Hid (Bf (w8.alloc (.cells #[.int .i64 m3, .slice A8 ys.length c8] 26)) w8.heap.size (.int .i64 m3) (.slice A8 ys.length c8)) := Bf.alloc1 w8 _ _ _
      have HQ8 : Hid (∀ W, Below w8.heap.size w8 W → Calls Tryz.prog 9 #[.agg #[.int .i64 m3, .slice A7 ys.length c7], .agg #[.int .i64 m3, .slice A8 ys.length c8]] W fun e w' => e = .returned (.bool true) ∧ Below W.heap.size W w') := fun W hW => by
        have h := series5_any W m3 m3 _ _ ys ys (O7.out.keep (L8.out.trans (hW.mono L8.out.size)) (Nat.le_refl _)).rd (O8.out.keep hW (Nat.le_refl _)).rd
        simpa using h
      have a0 := HA8.out.1.2.1
      have a1 := HA8.out.1.2.2
      have b0 := HB8.out.1.2.1
      have b1 := HB8.out.1.2.2
      clear o8 hb8 HJ3 HA7
      go_wp2_with (fail)
      refine (HQ8.out _ (below_alloc1 w8 _)).mono ?_
      rintro e w9 ⟨rfl, hb9⟩
      have K9 := Lib.hid (K8.out.trans (((below_alloc1 w8 _).trans (hb9.mono (by simp))).mono K8.out.size))
      clear HQ8 hb9 a0 a1 b0 b1 HA8 HB8 L8 L7 O7 O8 K8 K7 K6
      go_wp2_with (fail)
      refine (DrawPlaneText_any _ _ n (HV.out.at_ K9.out) hn4).mono ?_
      rintro e w10 ⟨m4, A10, c10, fs, rfl, hpl, of, hb10⟩
      have K10 := Lib.hid (K9.out.trans (hb10.mono K9.out.size))
      have OF := Lib.hid of
      have HPB := Lib.hid hpl
      clear hb10 of hpl K9
      obtain ⟨S4, hS4⟩ : ∃ S4 : ByteArray, (⟨(PlaneTextR m4 fs).1.toArray⟩ : ByteArray) = S4 := ⟨_, rfl⟩
      obtain ⟨C4, hC4⟩ : ∃ C4 : Int, (PlaneTextR m4 fs).2 = C4 := ⟨_, rfl⟩
      obtain ⟨P4, hP4⟩ : ∃ P4 : Bool, isPl m4 fs = P4 := ⟨_, rfl⟩
      have HI4 : Hid (∀ W, Below w10.heap.size w10 W → Calls Tryz.prog 13 #[.agg #[.int .i64 m4, .slice A10 fs.length c10]] W fun e w' => e = .returned (.tuple #[.string S4, .int .i64 C4]) ∧ Below W.heap.size W w') := fun W hW => by
        have h := iPlaneTextR_z W m4 _ fs _ (OF.out.keep hW) HPB.out ((HSTD.out.keep (K10.out.trans (hW.mono K10.out.size))).2.1)
        unfold RetTI at h
        rwa [hS4, hC4] at h
      have HJ4 : Hid (∀ W, Below w10.heap.size w10 W → Calls Tryz.prog 14 #[.agg #[.int .i64 m4, .slice A10 fs.length c10]] W fun e w' => e = .returned (.tuple #[.string S4, .int .i64 C4]) ∧ Below W.heap.size W w') := fun W hW => by
        have h := sPlaneTextR_z W m4 _ fs _ (OF.out.keep hW) HPB.out
        unfold RetTI at h
        rwa [hS4, hC4] at h
      have HPI : Hid (∀ W, Below w10.heap.size w10 W → Calls Tryz.prog 15 #[.agg #[.int .i64 m4, .slice A10 fs.length c10]] W fun e w' => e = .returned (.bool P4) ∧ Below W.heap.size W w') := fun W hW => by
        have h := iIsPlane_z W m4 _ fs _ (OF.out.keep hW) HPB.out.len HPB.out.cnt
        rwa [hP4] at h
      have HPS : Hid (∀ W, Below w10.heap.size w10 W → Calls Tryz.prog 16 #[.agg #[.int .i64 m4, .slice A10 fs.length c10]] W fun e w' => e = .returned (.bool P4) ∧ Below W.heap.size W w') := fun W hW => by
        have h := sIsPlane_z W m4 _ fs _ (OF.out.keep hW) HPB.out
        rwa [hP4] at h
      have HS4 := Lib.hid hS4
      have HC4 := Lib.hid hC4
      clear hS4 hC4 hP4
      have HF10 : Hid (Bf (w10.alloc (.cells #[.int .i64 m4, .slice A10 fs.length c10] 36)) w10.heap.size (.int .i64 m4) (.slice A10 fs.length c10)) := Bf.alloc1 w10 _ _ _
      go_wp2_with (fail)
      refine (HI4.out _ (below_alloc1 w10 _)).mono ?_
      rintro e w11 ⟨rfl, hb11⟩
      have HF11 := Lib.hid (HF10.out.keep hb11)
      have L11 := Lib.hid ((below_alloc1 w10 _).trans (hb11.mono (by simp)))
      have f0 := HF11.out.1.2.1
      have f1 := HF11.out.1.2.2
      clear hb11 HF10 HI4
      go_wp2_with (fail)
      refine (HJ4.out _ L11.out).mono ?_
      rintro e w12 ⟨rfl, hb12⟩
      have HF12 := Lib.hid (HF11.out.keep hb12)
      have L12 := Lib.hid (L11.out.trans (hb12.mono L11.out.size))
      clear hb12 HF11 L11 HJ4 f0 f1
      have f0 := HF12.out.1.2.1
      have f1 := HF12.out.1.2.2
      have hPP : (P4 != P4) = false := by simp
      have LD : Hid (Below w10.heap.size w10 w12.drew) := below_drew L12.out
      have HFD : Hid (Bf w12.drew w10.heap.size (.int .i64 m4) (.slice A10 fs.length c10)) := HF12.out
      have T0 : Hid (Bf w12.drew w10.heap.size (.int .i64 m4) (.slice A10 fs.length c10) ∧ Below w10.heap.size w10 w12.drew) := ⟨HFD.out, LD.out⟩
      clear f0 f1
      go_upto_region 20 with fail
      go_region_held3 (fun w' => w'.cell? ⟨w10.heap.size, 0, none⟩ = some (.int .i64 m4) ∧ w'.cell? ⟨w10.heap.size, 1, none⟩ = some (.slice A10 fs.length c10) ∧ Hid (Bf w' w10.heap.size (.int .i64 m4) (.slice A10 fs.length c10) ∧ Below w10.heap.size w10 w'))
        (first | exact ⟨(T2.out.1).1.2.1, (T2.out.1).1.2.2, T2⟩ | exact ⟨(T1.out.1).1.2.1, (T1.out.1).1.2.2, T1⟩ | exact ⟨(T0.out.1).1.2.1, (T0.out.1).1.2.2, T0⟩)
        (first
          | (go_at_call 15; have _h := T1; refine (HPI.out _ T1.out.2).mono ?_; rintro e wE ⟨rfl, hbE⟩; have T2 : Hid (Bf wE w10.heap.size (.int .i64 m4) (.slice A10 fs.length c10) ∧ Below w10.heap.size w10 wE) := ⟨T1.out.1.keep hbE, T1.out.2.trans (hbE.mono T1.out.2.size)⟩)
          | (go_at_call 16; have _h := T1; refine (HPS.out _ T1.out.2).mono ?_; rintro e wE ⟨rfl, hbE⟩; have T2 : Hid (Bf wE w10.heap.size (.int .i64 m4) (.slice A10 fs.length c10) ∧ Below w10.heap.size w10 wE) := ⟨T1.out.1.keep hbE, T1.out.2.trans (hbE.mono T1.out.2.size)⟩)
          | (go_at_call 15; refine (HPI.out _ T0.out.2).mono ?_; rintro e wD ⟨rfl, hbD⟩; have T1 : Hid (Bf wD w10.heap.size (.int .i64 m4) (.slice A10 fs.length c10) ∧ Below w10.heap.size w10 wD) := ⟨T0.out.1.keep hbD, T0.out.2.trans (hbD.mono T0.out.2.size)⟩)
          | (go_at_call 16; refine (HPS.out _ T0.out.2).mono ?_; rintro e wD ⟨rfl, hbD⟩; have T1 : Hid (Bf wD w10.heap.size (.int .i64 m4) (.slice A10 fs.length c10) ∧ Below w10.heap.size w10 wD) := ⟨T0.out.1.keep hbD, T0.out.2.trans (hbD.mono T0.out.2.size)⟩))
      all_goals
        have L2 := Lib.hid T2.out.2
        have HF2 := Lib.hid T2.out.1
        have KE := Lib.hid (K10.out.trans (L2.out.mono K10.out.size))
        clear L12 HF12 HPI HPS T0 T1 T2 LD HFD
        by_cases hC : C4 = 0
        · have hCb : (C4 == 0) = true := by simpa using hC
          have HPR : Hid (isPl m4 fs = true) := by
            unfold Hid
            cases h : isPl m4 fs
            · have := HC4.out
              unfold PlaneTextR at this
              rw [h] at this
              simp at this
              omega
            · rfl
          have HPT : Hid (S4.data.toList = plT m4 fs) := by
            unfold Hid
            have := HS4.out
            unfold PlaneTextR at this
            rw [HPR.out] at this
            rw [← this]
            rfl
          have HP5 : Hid (∀ W, Below wE.heap.size wE W → Calls Tryz.prog 17 #[.string S4] W (RetPI W ((m4, fs), 0))) := fun W hW => by
            have hz : S4.size ≤ 900000000 := by
              have h := plT_short HPR.out
              rw [← HPT.out, Array.length_toList] at h
              exact h
            have h := iParsePlaneR_any W S4 hz (HSTD.out.keep (KE.out.trans (hW.mono KE.out.size)))
            rwa [HPT.out, parse_plT HPR.out] at h
          subst hC
          go_wp2_with (fail)
          refine (HP5.out _ (Below.refl _ _)).mono ?_
          rintro e w13 ⟨A13, c13, rfl, o13, hb13⟩
          have HF13 := Lib.hid ((HF2.out.keep hb13).al (.cells #[.int .i64 m4, .slice A13 fs.length c13] 36))
          have L13 := Lib.hid (L2.out.trans (hb13.mono L2.out.size))
          have K13 := Lib.hid (KE.out.trans (hb13.mono KE.out.size))
          have O13 := Lib.hid o13
          have HG13 : Hid (Bf (w13.alloc (.cells #[.int .i64 m4, .slice A13 fs.length c13] 36)) w13.heap.size (.int .i64 m4) (.slice A13 fs.length c13)) := Bf.alloc1 w13 _ _ _
          have HQ13 : Hid (∀ W, Below w13.heap.size w13 W → Calls Tryz.prog 18 #[.agg #[.int .i64 m4, .slice A13 fs.length c13], .agg #[.int .i64 m4, .slice A10 fs.length c10]] W fun e w' => e = .returned (.bool true) ∧ Below W.heap.size W w') := fun W hW => by
            have h := plane5_any W m4 m4 _ _ fs fs (O13.out.rd.below hW) ((OF.out.keep (L13.out.trans (hW.mono L13.out.size))).rd)
            simpa using h
          have f0 := HF13.out.1.2.1
          have f1 := HF13.out.1.2.2
          have g0 := HG13.out.1.2.1
          have g1 := HG13.out.1.2.2
          clear o13 hb13 HP5 HF2
          go_wp2_with (fail)
          refine (HQ13.out _ (below_alloc1 w13 _)).mono ?_
          rintro e w14 ⟨rfl, hb14⟩
          have K14 := Lib.hid (K13.out.trans (((below_alloc1 w13 _).trans (hb14.mono (by simp))).mono K13.out.size))
          clear HQ13 hb14 f0 f1 g0 g1 HF13 HG13 L13 L2 HPT HPR
          go_wp2_with (fail)
          clear OF HS4 HC4
          refine (DrawParsePlane_any _ _ n (HV.out.at_ K14.out) hn4).mono ?_
          rintro e w16 ⟨S5, rfl, hz5, hb16⟩
          have K16 := Lib.hid (K14.out.trans (hb16.mono K14.out.size))
          clear hb16
          obtain ⟨⟨⟨m5, gs⟩, C5⟩, hR5⟩ : ∃ r, ParsePlaneR S5.data.toList = r := ⟨_, rfl⟩
          have HI5 : Hid (∀ W, Below w16.heap.size w16 W → Calls Tryz.prog 17 #[.string S5] W (RetPI W ((m5, gs), C5))) := fun W hW => by
            have h := iParsePlaneR_any W S5 hz5 (HSTD.out.keep (K16.out.trans (hW.mono K16.out.size)))
            rwa [hR5] at h
          have HJ5 : Hid (∀ W, Below w16.heap.size w16 W → Calls Tryz.prog 20 #[.string S5] W (RetPI W ((m5, gs), C5))) := fun W hW => by
            have h := sParsePlaneR_any W S5 hz5
            rwa [hR5] at h
          have HR5 := Lib.hid hR5
          clear hR5
          go_wp2_with (fail)
          refine (HI5.out _ (Below.refl _ _)).mono ?_
          rintro e w17 ⟨A17, c17, rfl, o17, hb17⟩
          have O17 := Lib.hid o17
          have L17 := Lib.hid hb17
          have K17 := Lib.hid (K16.out.trans (hb17.mono K16.out.size))
          have HA17 : Hid (Bf (w17.alloc (.cells #[.int .i64 m5, .slice A17 gs.length c17] 36)) w17.heap.size (.int .i64 m5) (.slice A17 gs.length c17)) := Bf.alloc1 w17 _ _ _
          clear o17 hb17 HI5
          go_wp2_with (fail)
          refine (HJ5.out _ (L17.out.trans ((below_alloc1 w17 _).mono L17.out.size))).mono ?_
          rintro e w18 ⟨A18, c18, rfl, o18, hb18⟩
          have O18 := Lib.hid o18
          have HA18 := Lib.hid ((HA17.out.keep hb18).al (.cells #[.int .i64 m5, .slice A18 gs.length c18] 36))
          have L18 : Hid (Below w17.heap.size w17 w18) := (below_alloc1 w17 _).trans (hb18.mono (by simp))
          have K18 := Lib.hid (K17.out.trans (L18.out.mono K17.out.size))
          have HB18 : Hid (Bf (w18.alloc (.cells #[.int .i64 m5, .slice A18 gs.length c18] 36)) w18.heap.size (.int .i64 m5) (.slice A18 gs.length c18)) := Bf.alloc1 w18 _ _ _
          have HQ18 : Hid (∀ W, Below w18.heap.size w18 W → Calls Tryz.prog 18 #[.agg #[.int .i64 m5, .slice A17 gs.length c17], .agg #[.int .i64 m5, .slice A18 gs.length c18]] W fun e w' => e = .returned (.bool true) ∧ Below W.heap.size W w') := fun W hW => by
            have h := plane5_any W m5 m5 _ _ gs gs (O17.out.rd.below (L18.out.trans (hW.mono L18.out.size))) (O18.out.rd.below hW)
            simpa using h
          have a0 := HA18.out.1.2.1
          have a1 := HA18.out.1.2.2
          have b0 := HB18.out.1.2.1
          have b1 := HB18.out.1.2.2
          clear o18 hb18 HJ5 HA17
          go_wp2_with (fail)
          refine (HQ18.out _ (below_alloc1 w18 _)).mono ?_
          rintro e w19 ⟨rfl, hb19⟩
          have L19 := Lib.hid (L18.out.trans (((below_alloc1 w18 _).trans (hb19.mono (by simp))).mono L18.out.size))
          have K19 := Lib.hid (K17.out.trans (L19.out.mono K17.out.size))
          have HA19 := Lib.hid (HA18.out.keep hb19)
          clear HQ18 hb19 a0 a1 b0 b1 HA18 HB18 L18 L17 O18 K18 K16
          by_cases hC5 : C5 = 0
          · have hCb5 : (C5 == 0) = true := by simpa using hC5
            subst hC5
            have hpp := plT_parse HR5.out
            have HT5 : Hid (∀ W, Below w17.heap.size w17 W → Calls Tryz.prog 13 #[.agg #[.int .i64 m5, .slice A17 gs.length c17]] W fun e w' => e = .returned (.tuple #[.string S5, .int .i64 0]) ∧ Below W.heap.size W w') := fun W hW => by
              have h := iPlaneTextR_z W m5 _ gs _ (O17.out.rdq.keep hW) (isPl_PlB hpp.1) ((HSTD.out.keep (K17.out.trans (hW.mono K17.out.size))).2.1)
              unfold RetTI PlaneTextR at h
              rw [hpp.1, if_pos rfl, hpp.2] at h
              exact h
            have a0 := HA19.out.1.2.1
            have a1 := HA19.out.1.2.2
            clear hpp
            go_wp2_with (fail)
            refine (HT5.out _ L19.out).mono ?_
            rintro e w20 ⟨rfl, hb20⟩
            have K20 := Lib.hid (K19.out.trans (hb20.mono K19.out.size))
            clear hb20 HT5 a0 a1
            go_wp2_with (fail)
            refine (DrawOrderOfSeries_any _ _ n (HV.out.at_ K20.out) hn4).mono ?_
            rintro e w21 ⟨m6, A21, c21, zs, rfl, hx6, ox6, hb21⟩
            have K21 := Lib.hid (K20.out.trans (hb21.mono K20.out.size))
            have O21 := Lib.hid ox6
            clear hb21 ox6
            obtain ⟨⟨q1, q2⟩, hQ6⟩ : ∃ r, OrderOfSeriesR m6 zs = r := ⟨_, rfl⟩
            have HI6 : Hid (∀ W, Below w21.heap.size w21 W → Calls Tryz.prog 22 #[.agg #[.int .i64 m6, .slice A21 zs.length c21]] W (RetII W (q1, q2))) := fun W hW => by
              have h := iOrderOfSeriesR_any W m6 _ zs _ (O21.out.keep hW (Nat.le_refl _)) (by omega)
              rwa [hQ6] at h
            have HJ6 : Hid (∀ W, Below w21.heap.size w21 W → Calls Tryz.prog 23 #[.agg #[.int .i64 m6, .slice A21 zs.length c21]] W (RetII W (q1, q2))) := fun W hW => by
              have h := sOrderOfSeriesR_any W m6 _ zs _ (O21.out.keep hW (Nat.le_refl _)) (by omega)
              rwa [hQ6] at h
            have HA21 : Hid (Bf (w21.alloc (.cells #[.int .i64 m6, .slice A21 zs.length c21] 26)) w21.heap.size (.int .i64 m6) (.slice A21 zs.length c21)) := Bf.alloc1 w21 _ _ _
            clear hQ6
            go_wp2_with (fail)
            refine (HI6.out _ (below_alloc1 w21 _)).mono ?_
            rintro e w22 ⟨rfl, hb22⟩
            have HA22 := Lib.hid (HA21.out.keep hb22)
            have L22 := Lib.hid ((below_alloc1 w21 _).trans (hb22.mono (by simp)))
            have a0 := HA22.out.1.2.1
            have a1 := HA22.out.1.2.2
            clear hb22
            go_wp2_with (fail)
            refine (HJ6.out _ L22.out).mono ?_
            rintro e w23 ⟨rfl, hb23⟩
            have K23 := Lib.hid (K21.out.trans ((L22.out.trans (hb23.mono L22.out.size)).mono K21.out.size))
            clear hb23 a0 a1
            go_wp2_with (fail)
            go_ret
            exact ⟨rfl, K23.out⟩
          · have hCb5 : (C5 == 0) = false := by simpa using hC5
            go_wp2_with (fail)
            refine (DrawOrderOfSeries_any _ _ n (HV.out.at_ K19.out) hn4).mono ?_
            rintro e w21 ⟨m6, A21, c21, zs, rfl, hx6, ox6, hb21⟩
            have K21 := Lib.hid (K19.out.trans (hb21.mono K19.out.size))
            have O21 := Lib.hid ox6
            clear hb21 ox6
            obtain ⟨⟨q1, q2⟩, hQ6⟩ : ∃ r, OrderOfSeriesR m6 zs = r := ⟨_, rfl⟩
            have HI6 : Hid (∀ W, Below w21.heap.size w21 W → Calls Tryz.prog 22 #[.agg #[.int .i64 m6, .slice A21 zs.length c21]] W (RetII W (q1, q2))) := fun W hW => by
              have h := iOrderOfSeriesR_any W m6 _ zs _ (O21.out.keep hW (Nat.le_refl _)) (by omega)
              rwa [hQ6] at h
            have HJ6 : Hid (∀ W, Below w21.heap.size w21 W → Calls Tryz.prog 23 #[.agg #[.int .i64 m6, .slice A21 zs.length c21]] W (RetII W (q1, q2))) := fun W hW => by
              have h := sOrderOfSeriesR_any W m6 _ zs _ (O21.out.keep hW (Nat.le_refl _)) (by omega)
              rwa [hQ6] at h
            have HA21 : Hid (Bf (w21.alloc (.cells #[.int .i64 m6, .slice A21 zs.length c21] 26)) w21.heap.size (.int .i64 m6) (.slice A21 zs.length c21)) := Bf.alloc1 w21 _ _ _
            clear hQ6
            go_wp2_with (fail)
            refine (HI6.out _ (below_alloc1 w21 _)).mono ?_
            rintro e w22 ⟨rfl, hb22⟩
            have HA22 := Lib.hid (HA21.out.keep hb22)
            have L22 := Lib.hid ((below_alloc1 w21 _).trans (hb22.mono (by simp)))
            have a0 := HA22.out.1.2.1
            have a1 := HA22.out.1.2.2
            clear hb22
            go_wp2_with (fail)
            refine (HJ6.out _ L22.out).mono ?_
            rintro e w23 ⟨rfl, hb23⟩
            have K23 := Lib.hid (K21.out.trans ((L22.out.trans (hb23.mono L22.out.size)).mono K21.out.size))
            clear hb23 a0 a1
            go_wp2_with (fail)
            go_ret
            exact ⟨rfl, K23.out⟩
        · have hCb : (C4 == 0) = false := by simpa using hC
          go_wp2_with (fail)
          clear OF HS4 HC4
          refine (DrawParsePlane_any _ _ n (HV.out.at_ KE.out) hn4).mono ?_
          rintro e w16 ⟨S5, rfl, hz5, hb16⟩
          have K16 := Lib.hid (KE.out.trans (hb16.mono KE.out.size))
          clear hb16
          obtain ⟨⟨⟨m5, gs⟩, C5⟩, hR5⟩ : ∃ r, ParsePlaneR S5.data.toList = r := ⟨_, rfl⟩
          have HI5 : Hid (∀ W, Below w16.heap.size w16 W → Calls Tryz.prog 17 #[.string S5] W (RetPI W ((m5, gs), C5))) := fun W hW => by
            have h := iParsePlaneR_any W S5 hz5 (HSTD.out.keep (K16.out.trans (hW.mono K16.out.size)))
            rwa [hR5] at h
          have HJ5 : Hid (∀ W, Below w16.heap.size w16 W → Calls Tryz.prog 20 #[.string S5] W (RetPI W ((m5, gs), C5))) := fun W hW => by
            have h := sParsePlaneR_any W S5 hz5
            rwa [hR5] at h
          have HR5 := Lib.hid hR5
          clear hR5
          go_wp2_with (fail)
          refine (HI5.out _ (Below.refl _ _)).mono ?_
          rintro e w17 ⟨A17, c17, rfl, o17, hb17⟩
          have O17 := Lib.hid o17
          have L17 := Lib.hid hb17
          have K17 := Lib.hid (K16.out.trans (hb17.mono K16.out.size))
          have HA17 : Hid (Bf (w17.alloc (.cells #[.int .i64 m5, .slice A17 gs.length c17] 36)) w17.heap.size (.int .i64 m5) (.slice A17 gs.length c17)) := Bf.alloc1 w17 _ _ _
          clear o17 hb17 HI5
          go_wp2_with (fail)
          refine (HJ5.out _ (L17.out.trans ((below_alloc1 w17 _).mono L17.out.size))).mono ?_
          rintro e w18 ⟨A18, c18, rfl, o18, hb18⟩
          have O18 := Lib.hid o18
          have HA18 := Lib.hid ((HA17.out.keep hb18).al (.cells #[.int .i64 m5, .slice A18 gs.length c18] 36))
          have L18 : Hid (Below w17.heap.size w17 w18) := (below_alloc1 w17 _).trans (hb18.mono (by simp))
          have K18 := Lib.hid (K17.out.trans (L18.out.mono K17.out.size))
          have HB18 : Hid (Bf (w18.alloc (.cells #[.int .i64 m5, .slice A18 gs.length c18] 36)) w18.heap.size (.int .i64 m5) (.slice A18 gs.length c18)) := Bf.alloc1 w18 _ _ _
          have HQ18 : Hid (∀ W, Below w18.heap.size w18 W → Calls Tryz.prog 18 #[.agg #[.int .i64 m5, .slice A17 gs.length c17], .agg #[.int .i64 m5, .slice A18 gs.length c18]] W fun e w' => e = .returned (.bool true) ∧ Below W.heap.size W w') := fun W hW => by
            have h := plane5_any W m5 m5 _ _ gs gs (O17.out.rd.below (L18.out.trans (hW.mono L18.out.size))) (O18.out.rd.below hW)
            simpa using h
          have a0 := HA18.out.1.2.1
          have a1 := HA18.out.1.2.2
          have b0 := HB18.out.1.2.1
          have b1 := HB18.out.1.2.2
          clear o18 hb18 HJ5 HA17
          go_wp2_with (fail)
          refine (HQ18.out _ (below_alloc1 w18 _)).mono ?_
          rintro e w19 ⟨rfl, hb19⟩
          have L19 := Lib.hid (L18.out.trans (((below_alloc1 w18 _).trans (hb19.mono (by simp))).mono L18.out.size))
          have K19 := Lib.hid (K17.out.trans (L19.out.mono K17.out.size))
          have HA19 := Lib.hid (HA18.out.keep hb19)
          clear HQ18 hb19 a0 a1 b0 b1 HA18 HB18 L18 L17 O18 K18 K16
          by_cases hC5 : C5 = 0
          · have hCb5 : (C5 == 0) = true := by simpa using hC5
            subst hC5
            have hpp := plT_parse HR5.out
            have HT5 : Hid (∀ W, Below w17.heap.size w17 W → Calls Tryz.prog 13 #[.agg #[.int .i64 m5, .slice A17 gs.length c17]] W fun e w' => e = .returned (.tuple #[.string S5, .int .i64 0]) ∧ Below W.heap.size W w') := fun W hW => by
              have h := iPlaneTextR_z W m5 _ gs _ (O17.out.rdq.keep hW) (isPl_PlB hpp.1) ((HSTD.out.keep (K17.out.trans (hW.mono K17.out.size))).2.1)
              unfold RetTI PlaneTextR at h
              rw [hpp.1, if_pos rfl, hpp.2] at h
              exact h
            have a0 := HA19.out.1.2.1
            have a1 := HA19.out.1.2.2
            clear hpp
            go_wp2_with (fail)
            refine (HT5.out _ L19.out).mono ?_
            rintro e w20 ⟨rfl, hb20⟩
            have K20 := Lib.hid (K19.out.trans (hb20.mono K19.out.size))
            clear hb20 HT5 a0 a1
            go_wp2_with (fail)
            refine (DrawOrderOfSeries_any _ _ n (HV.out.at_ K20.out) hn4).mono ?_
            rintro e w21 ⟨m6, A21, c21, zs, rfl, hx6, ox6, hb21⟩
            have K21 := Lib.hid (K20.out.trans (hb21.mono K20.out.size))
            have O21 := Lib.hid ox6
            clear hb21 ox6
            obtain ⟨⟨q1, q2⟩, hQ6⟩ : ∃ r, OrderOfSeriesR m6 zs = r := ⟨_, rfl⟩
            have HI6 : Hid (∀ W, Below w21.heap.size w21 W → Calls Tryz.prog 22 #[.agg #[.int .i64 m6, .slice A21 zs.length c21]] W (RetII W (q1, q2))) := fun W hW => by
              have h := iOrderOfSeriesR_any W m6 _ zs _ (O21.out.keep hW (Nat.le_refl _)) (by omega)
              rwa [hQ6] at h
            have HJ6 : Hid (∀ W, Below w21.heap.size w21 W → Calls Tryz.prog 23 #[.agg #[.int .i64 m6, .slice A21 zs.length c21]] W (RetII W (q1, q2))) := fun W hW => by
              have h := sOrderOfSeriesR_any W m6 _ zs _ (O21.out.keep hW (Nat.le_refl _)) (by omega)
              rwa [hQ6] at h
            have HA21 : Hid (Bf (w21.alloc (.cells #[.int .i64 m6, .slice A21 zs.length c21] 26)) w21.heap.size (.int .i64 m6) (.slice A21 zs.length c21)) := Bf.alloc1 w21 _ _ _
            clear hQ6
            go_wp2_with (fail)
            refine (HI6.out _ (below_alloc1 w21 _)).mono ?_
            rintro e w22 ⟨rfl, hb22⟩
            have HA22 := Lib.hid (HA21.out.keep hb22)
            have L22 := Lib.hid ((below_alloc1 w21 _).trans (hb22.mono (by simp)))
            have a0 := HA22.out.1.2.1
            have a1 := HA22.out.1.2.2
            clear hb22
            go_wp2_with (fail)
            refine (HJ6.out _ L22.out).mono ?_
            rintro e w23 ⟨rfl, hb23⟩
            have K23 := Lib.hid (K21.out.trans ((L22.out.trans (hb23.mono L22.out.size)).mono K21.out.size))
            clear hb23 a0 a1
            go_wp2_with (fail)
            go_ret
            exact ⟨rfl, K23.out⟩
          · have hCb5 : (C5 == 0) = false := by simpa using hC5
            go_wp2_with (fail)
            refine (DrawOrderOfSeries_any _ _ n (HV.out.at_ K19.out) hn4).mono ?_
            rintro e w21 ⟨m6, A21, c21, zs, rfl, hx6, ox6, hb21⟩
            have K21 := Lib.hid (K19.out.trans (hb21.mono K19.out.size))
            have O21 := Lib.hid ox6
            clear hb21 ox6
            obtain ⟨⟨q1, q2⟩, hQ6⟩ : ∃ r, OrderOfSeriesR m6 zs = r := ⟨_, rfl⟩
            have HI6 : Hid (∀ W, Below w21.heap.size w21 W → Calls Tryz.prog 22 #[.agg #[.int .i64 m6, .slice A21 zs.length c21]] W (RetII W (q1, q2))) := fun W hW => by
              have h := iOrderOfSeriesR_any W m6 _ zs _ (O21.out.keep hW (Nat.le_refl _)) (by omega)
              rwa [hQ6] at h
            have HJ6 : Hid (∀ W, Below w21.heap.size w21 W → Calls Tryz.prog 23 #[.agg #[.int .i64 m6, .slice A21 zs.length c21]] W (RetII W (q1, q2))) := fun W hW => by
              have h := sOrderOfSeriesR_any W m6 _ zs _ (O21.out.keep hW (Nat.le_refl _)) (by omega)
              rwa [hQ6] at h
            have HA21 : Hid (Bf (w21.alloc (.cells #[.int .i64 m6, .slice A21 zs.length c21] 26)) w21.heap.size (.int .i64 m6) (.slice A21 zs.length c21)) := Bf.alloc1 w21 _ _ _
            clear hQ6
            go_wp2_with (fail)
            refine (HI6.out _ (below_alloc1 w21 _)).mono ?_
            rintro e w22 ⟨rfl, hb22⟩
            have HA22 := Lib.hid (HA21.out.keep hb22)
            have L22 := Lib.hid ((below_alloc1 w21 _).trans (hb22.mono (by simp)))
            have a0 := HA22.out.1.2.1
            have a1 := HA22.out.1.2.2
            clear hb22
            go_wp2_with (fail)
            refine (HJ6.out _ L22.out).mono ?_
            rintro e w23 ⟨rfl, hb23⟩
            have K23 := Lib.hid (K21.out.trans ((L22.out.trans (hb23.mono L22.out.size)).mono K21.out.size))
            clear hb23 a0 a1
            go_wp2_with (fail)
            go_ret
            exact ⟨rfl, K23.out⟩
    · have hCb : (C1 == 0) = false := by simpa using hC
      go_wp2_with (fail)
      clear O1 HS1 HC1
      refine (DrawParseSeries_any _ _ n (HV.out.at_ K3.out) hn4).mono ?_
      rintro e w6 ⟨S3, rfl, hz3, hb6⟩
      have K6 := Lib.hid (K3.out.trans (hb6.mono K3.out.size))
      clear hb6
      obtain ⟨⟨⟨m3, ys⟩, C3⟩, hR3⟩ : ∃ r, ParseSeriesR S3.data.toList = r := ⟨_, rfl⟩
      have HI3 : Hid (∀ W, Below w6.heap.size w6 W → Calls Tryz.prog 8 #[.string S3] W (RetSI W ((m3, ys), C3))) := fun W hW => by
        have h := iParseSeriesR_any W S3 hz3 (HSTD.out.keep (K6.out.trans (hW.mono K6.out.size)))
        rwa [hR3] at h
      have HJ3 : Hid (∀ W, Below w6.heap.size w6 W → Calls Tryz.prog 11 #[.string S3] W (RetSI W ((m3, ys), C3))) := fun W hW => by
        have h := sParseSeriesR_any W S3 hz3
        rwa [hR3] at h
      clear hR3
      go_wp2_with (fail)
      refine (HI3.out _ (Below.refl _ _)).mono ?_
      rintro e w7 ⟨A7, c7, rfl, o7, hb7⟩
      have O7 := Lib.hid o7
      have L7 := Lib.hid hb7
      have K7 := Lib.hid (K6.out.trans (hb7.mono K6.out.size))
      have HA7 : Hid (Bf (w7.alloc (.cells #[.int .i64 m3, .slice A7 ys.length c7] 26)) w7.heap.size (.int .i64 m3) (.slice A7 ys.length c7)) := Bf.alloc1 w7 _ _ _
      clear o7 hb7 HI3
      go_wp2_with (fail)
      refine (HJ3.out _ (L7.out.trans ((below_alloc1 w7 _).mono L7.out.size))).mono ?_
      rintro e w8 ⟨A8, c8, rfl, o8, hb8⟩
      have O8 := Lib.hid o8
      have HA8 := Lib.hid ((HA7.out.keep hb8).al (.cells #[.int .i64 m3, .slice A8 ys.length c8] 26))
      have L8 : Hid (Below w7.heap.size w7 w8) := (below_alloc1 w7 _).trans (hb8.mono (by simp))
      have K8 := Lib.hid (K7.out.trans (L8.out.mono K7.out.size))
      have HB8 : Hid (Bf (w8.alloc (.cells #[.int .i64 m3, .slice A8 ys.length c8] 26)) w8.heap.size (.int .i64 m3) (.slice A8 ys.length c8)) := Bf.alloc1 w8 _ _ _
      have HQ8 : Hid (∀ W, Below w8.heap.size w8 W → Calls Tryz.prog 9 #[.agg #[.int .i64 m3, .slice A7 ys.length c7], .agg #[.int .i64 m3, .slice A8 ys.length c8]] W fun e w' => e = .returned (.bool true) ∧ Below W.heap.size W w') := fun W hW => by
        have h := series5_any W m3 m3 _ _ ys ys (O7.out.keep (L8.out.trans (hW.mono L8.out.size)) (Nat.le_refl _)).rd (O8.out.keep hW (Nat.le_refl _)).rd
        simpa using h
      have a0 := HA8.out.1.2.1
      have a1 := HA8.out.1.2.2
      have b0 := HB8.out.1.2.1
      have b1 := HB8.out.1.2.2
      clear o8 hb8 HJ3 HA7
      go_wp2_with (fail)
      refine (HQ8.out _ (below_alloc1 w8 _)).mono ?_
      rintro e w9 ⟨rfl, hb9⟩
      have K9 := Lib.hid (K8.out.trans (((below_alloc1 w8 _).trans (hb9.mono (by simp))).mono K8.out.size))
      clear HQ8 hb9 a0 a1 b0 b1 HA8 HB8 L8 L7 O7 O8 K8 K7 K6
      go_wp2_with (fail)
      refine (DrawPlaneText_any _ _ n (HV.out.at_ K9.out) hn4).mono ?_
      rintro e w10 ⟨m4, A10, c10, fs, rfl, hpl, of, hb10⟩
      have K10 := Lib.hid (K9.out.trans (hb10.mono K9.out.size))
      have OF := Lib.hid of
      have HPB := Lib.hid hpl
      clear hb10 of hpl K9
      obtain ⟨S4, hS4⟩ : ∃ S4 : ByteArray, (⟨(PlaneTextR m4 fs).1.toArray⟩ : ByteArray) = S4 := ⟨_, rfl⟩
      obtain ⟨C4, hC4⟩ : ∃ C4 : Int, (PlaneTextR m4 fs).2 = C4 := ⟨_, rfl⟩
      obtain ⟨P4, hP4⟩ : ∃ P4 : Bool, isPl m4 fs = P4 := ⟨_, rfl⟩
      have HI4 : Hid (∀ W, Below w10.heap.size w10 W → Calls Tryz.prog 13 #[.agg #[.int .i64 m4, .slice A10 fs.length c10]] W fun e w' => e = .returned (.tuple #[.string S4, .int .i64 C4]) ∧ Below W.heap.size W w') := fun W hW => by
        have h := iPlaneTextR_z W m4 _ fs _ (OF.out.keep hW) HPB.out ((HSTD.out.keep (K10.out.trans (hW.mono K10.out.size))).2.1)
        unfold RetTI at h
        rwa [hS4, hC4] at h
      have HJ4 : Hid (∀ W, Below w10.heap.size w10 W → Calls Tryz.prog 14 #[.agg #[.int .i64 m4, .slice A10 fs.length c10]] W fun e w' => e = .returned (.tuple #[.string S4, .int .i64 C4]) ∧ Below W.heap.size W w') := fun W hW => by
        have h := sPlaneTextR_z W m4 _ fs _ (OF.out.keep hW) HPB.out
        unfold RetTI at h
        rwa [hS4, hC4] at h
      have HPI : Hid (∀ W, Below w10.heap.size w10 W → Calls Tryz.prog 15 #[.agg #[.int .i64 m4, .slice A10 fs.length c10]] W fun e w' => e = .returned (.bool P4) ∧ Below W.heap.size W w') := fun W hW => by
        have h := iIsPlane_z W m4 _ fs _ (OF.out.keep hW) HPB.out.len HPB.out.cnt
        rwa [hP4] at h
      have HPS : Hid (∀ W, Below w10.heap.size w10 W → Calls Tryz.prog 16 #[.agg #[.int .i64 m4, .slice A10 fs.length c10]] W fun e w' => e = .returned (.bool P4) ∧ Below W.heap.size W w') := fun W hW => by
        have h := sIsPlane_z W m4 _ fs _ (OF.out.keep hW) HPB.out
        rwa [hP4] at h
      have HS4 := Lib.hid hS4
      have HC4 := Lib.hid hC4
      clear hS4 hC4 hP4
      have HF10 : Hid (Bf (w10.alloc (.cells #[.int .i64 m4, .slice A10 fs.length c10] 36)) w10.heap.size (.int .i64 m4) (.slice A10 fs.length c10)) := Bf.alloc1 w10 _ _ _
      go_wp2_with (fail)
      refine (HI4.out _ (below_alloc1 w10 _)).mono ?_
      rintro e w11 ⟨rfl, hb11⟩
      have HF11 := Lib.hid (HF10.out.keep hb11)
      have L11 := Lib.hid ((below_alloc1 w10 _).trans (hb11.mono (by simp)))
      have f0 := HF11.out.1.2.1
      have f1 := HF11.out.1.2.2
      clear hb11 HF10 HI4
      go_wp2_with (fail)
      refine (HJ4.out _ L11.out).mono ?_
      rintro e w12 ⟨rfl, hb12⟩
      have HF12 := Lib.hid (HF11.out.keep hb12)
      have L12 := Lib.hid (L11.out.trans (hb12.mono L11.out.size))
      clear hb12 HF11 L11 HJ4 f0 f1
      have f0 := HF12.out.1.2.1
      have f1 := HF12.out.1.2.2
      have hPP : (P4 != P4) = false := by simp
      have LD : Hid (Below w10.heap.size w10 w12.drew) := below_drew L12.out
      have HFD : Hid (Bf w12.drew w10.heap.size (.int .i64 m4) (.slice A10 fs.length c10)) := HF12.out
      have T0 : Hid (Bf w12.drew w10.heap.size (.int .i64 m4) (.slice A10 fs.length c10) ∧ Below w10.heap.size w10 w12.drew) := ⟨HFD.out, LD.out⟩
      clear f0 f1
      go_upto_region 20 with fail
      go_region_held3 (fun w' => w'.cell? ⟨w10.heap.size, 0, none⟩ = some (.int .i64 m4) ∧ w'.cell? ⟨w10.heap.size, 1, none⟩ = some (.slice A10 fs.length c10) ∧ Hid (Bf w' w10.heap.size (.int .i64 m4) (.slice A10 fs.length c10) ∧ Below w10.heap.size w10 w'))
        (first | exact ⟨(T2.out.1).1.2.1, (T2.out.1).1.2.2, T2⟩ | exact ⟨(T1.out.1).1.2.1, (T1.out.1).1.2.2, T1⟩ | exact ⟨(T0.out.1).1.2.1, (T0.out.1).1.2.2, T0⟩)
        (first
          | (go_at_call 15; have _h := T1; refine (HPI.out _ T1.out.2).mono ?_; rintro e wE ⟨rfl, hbE⟩; have T2 : Hid (Bf wE w10.heap.size (.int .i64 m4) (.slice A10 fs.length c10) ∧ Below w10.heap.size w10 wE) := ⟨T1.out.1.keep hbE, T1.out.2.trans (hbE.mono T1.out.2.size)⟩)
          | (go_at_call 16; have _h := T1; refine (HPS.out _ T1.out.2).mono ?_; rintro e wE ⟨rfl, hbE⟩; have T2 : Hid (Bf wE w10.heap.size (.int .i64 m4) (.slice A10 fs.length c10) ∧ Below w10.heap.size w10 wE) := ⟨T1.out.1.keep hbE, T1.out.2.trans (hbE.mono T1.out.2.size)⟩)
          | (go_at_call 15; refine (HPI.out _ T0.out.2).mono ?_; rintro e wD ⟨rfl, hbD⟩; have T1 : Hid (Bf wD w10.heap.size (.int .i64 m4) (.slice A10 fs.length c10) ∧ Below w10.heap.size w10 wD) := ⟨T0.out.1.keep hbD, T0.out.2.trans (hbD.mono T0.out.2.size)⟩)
          | (go_at_call 16; refine (HPS.out _ T0.out.2).mono ?_; rintro e wD ⟨rfl, hbD⟩; have T1 : Hid (Bf wD w10.heap.size (.int .i64 m4) (.slice A10 fs.length c10) ∧ Below w10.heap.size w10 wD) := ⟨T0.out.1.keep hbD, T0.out.2.trans (hbD.mono T0.out.2.size)⟩))
      all_goals
        have L2 := Lib.hid T2.out.2
        have HF2 := Lib.hid T2.out.1
        have KE := Lib.hid (K10.out.trans (L2.out.mono K10.out.size))
        clear L12 HF12 HPI HPS T0 T1 T2 LD HFD
        by_cases hC : C4 = 0
        · have hCb : (C4 == 0) = true := by simpa using hC
          have HPR : Hid (isPl m4 fs = true) := by
            unfold Hid
            cases h : isPl m4 fs
            · have := HC4.out
              unfold PlaneTextR at this
              rw [h] at this
              simp at this
              omega
            · rfl
          have HPT : Hid (S4.data.toList = plT m4 fs) := by
            unfold Hid
            have := HS4.out
            unfold PlaneTextR at this
            rw [HPR.out] at this
            rw [← this]
            rfl
          have HP5 : Hid (∀ W, Below wE.heap.size wE W → Calls Tryz.prog 17 #[.string S4] W (RetPI W ((m4, fs), 0))) := fun W hW => by
            have hz : S4.size ≤ 900000000 := by
              have h := plT_short HPR.out
              rw [← HPT.out, Array.length_toList] at h
              exact h
            have h := iParsePlaneR_any W S4 hz (HSTD.out.keep (KE.out.trans (hW.mono KE.out.size)))
            rwa [HPT.out, parse_plT HPR.out] at h
          subst hC
          go_wp2_with (fail)
          refine (HP5.out _ (Below.refl _ _)).mono ?_
          rintro e w13 ⟨A13, c13, rfl, o13, hb13⟩
          have HF13 := Lib.hid ((HF2.out.keep hb13).al (.cells #[.int .i64 m4, .slice A13 fs.length c13] 36))
          have L13 := Lib.hid (L2.out.trans (hb13.mono L2.out.size))
          have K13 := Lib.hid (KE.out.trans (hb13.mono KE.out.size))
          have O13 := Lib.hid o13
          have HG13 : Hid (Bf (w13.alloc (.cells #[.int .i64 m4, .slice A13 fs.length c13] 36)) w13.heap.size (.int .i64 m4) (.slice A13 fs.length c13)) := Bf.alloc1 w13 _ _ _
          have HQ13 : Hid (∀ W, Below w13.heap.size w13 W → Calls Tryz.prog 18 #[.agg #[.int .i64 m4, .slice A13 fs.length c13], .agg #[.int .i64 m4, .slice A10 fs.length c10]] W fun e w' => e = .returned (.bool true) ∧ Below W.heap.size W w') := fun W hW => by
            have h := plane5_any W m4 m4 _ _ fs fs (O13.out.rd.below hW) ((OF.out.keep (L13.out.trans (hW.mono L13.out.size))).rd)
            simpa using h
          have f0 := HF13.out.1.2.1
          have f1 := HF13.out.1.2.2
          have g0 := HG13.out.1.2.1
          have g1 := HG13.out.1.2.2
          clear o13 hb13 HP5 HF2
          go_wp2_with (fail)
          refine (HQ13.out _ (below_alloc1 w13 _)).mono ?_
          rintro e w14 ⟨rfl, hb14⟩
          have K14 := Lib.hid (K13.out.trans (((below_alloc1 w13 _).trans (hb14.mono (by simp))).mono K13.out.size))
          clear HQ13 hb14 f0 f1 g0 g1 HF13 HG13 L13 L2 HPT HPR
          go_wp2_with (fail)
          clear OF HS4 HC4
          refine (DrawParsePlane_any _ _ n (HV.out.at_ K14.out) hn4).mono ?_
          rintro e w16 ⟨S5, rfl, hz5, hb16⟩
          have K16 := Lib.hid (K14.out.trans (hb16.mono K14.out.size))
          clear hb16
          obtain ⟨⟨⟨m5, gs⟩, C5⟩, hR5⟩ : ∃ r, ParsePlaneR S5.data.toList = r := ⟨_, rfl⟩
          have HI5 : Hid (∀ W, Below w16.heap.size w16 W → Calls Tryz.prog 17 #[.string S5] W (RetPI W ((m5, gs), C5))) := fun W hW => by
            have h := iParsePlaneR_any W S5 hz5 (HSTD.out.keep (K16.out.trans (hW.mono K16.out.size)))
            rwa [hR5] at h
          have HJ5 : Hid (∀ W, Below w16.heap.size w16 W → Calls Tryz.prog 20 #[.string S5] W (RetPI W ((m5, gs), C5))) := fun W hW => by
            have h := sParsePlaneR_any W S5 hz5
            rwa [hR5] at h
          have HR5 := Lib.hid hR5
          clear hR5
          go_wp2_with (fail)
          refine (HI5.out _ (Below.refl _ _)).mono ?_
          rintro e w17 ⟨A17, c17, rfl, o17, hb17⟩
          have O17 := Lib.hid o17
          have L17 := Lib.hid hb17
          have K17 := Lib.hid (K16.out.trans (hb17.mono K16.out.size))
          have HA17 : Hid (Bf (w17.alloc (.cells #[.int .i64 m5, .slice A17 gs.length c17] 36)) w17.heap.size (.int .i64 m5) (.slice A17 gs.length c17)) := Bf.alloc1 w17 _ _ _
          clear o17 hb17 HI5
          go_wp2_with (fail)
          refine (HJ5.out _ (L17.out.trans ((below_alloc1 w17 _).mono L17.out.size))).mono ?_
          rintro e w18 ⟨A18, c18, rfl, o18, hb18⟩
          have O18 := Lib.hid o18
          have HA18 := Lib.hid ((HA17.out.keep hb18).al (.cells #[.int .i64 m5, .slice A18 gs.length c18] 36))
          have L18 : Hid (Below w17.heap.size w17 w18) := (below_alloc1 w17 _).trans (hb18.mono (by simp))
          have K18 := Lib.hid (K17.out.trans (L18.out.mono K17.out.size))
          have HB18 : Hid (Bf (w18.alloc (.cells #[.int .i64 m5, .slice A18 gs.length c18] 36)) w18.heap.size (.int .i64 m5) (.slice A18 gs.length c18)) := Bf.alloc1 w18 _ _ _
          have HQ18 : Hid (∀ W, Below w18.heap.size w18 W → Calls Tryz.prog 18 #[.agg #[.int .i64 m5, .slice A17 gs.length c17], .agg #[.int .i64 m5, .slice A18 gs.length c18]] W fun e w' => e = .returned (.bool true) ∧ Below W.heap.size W w') := fun W hW => by
            have h := plane5_any W m5 m5 _ _ gs gs (O17.out.rd.below (L18.out.trans (hW.mono L18.out.size))) (O18.out.rd.below hW)
            simpa using h
          have a0 := HA18.out.1.2.1
          have a1 := HA18.out.1.2.2
          have b0 := HB18.out.1.2.1
          have b1 := HB18.out.1.2.2
          clear o18 hb18 HJ5 HA17
          go_wp2_with (fail)
          refine (HQ18.out _ (below_alloc1 w18 _)).mono ?_
          rintro e w19 ⟨rfl, hb19⟩
          have L19 := Lib.hid (L18.out.trans (((below_alloc1 w18 _).trans (hb19.mono (by simp))).mono L18.out.size))
          have K19 := Lib.hid (K17.out.trans (L19.out.mono K17.out.size))
          have HA19 := Lib.hid (HA18.out.keep hb19)
          clear HQ18 hb19 a0 a1 b0 b1 HA18 HB18 L18 L17 O18 K18 K16
          by_cases hC5 : C5 = 0
          · have hCb5 : (C5 == 0) = true := by simpa using hC5
            subst hC5
            have hpp := plT_parse HR5.out
            have HT5 : Hid (∀ W, Below w17.heap.size w17 W → Calls Tryz.prog 13 #[.agg #[.int .i64 m5, .slice A17 gs.length c17]] W fun e w' => e = .returned (.tuple #[.string S5, .int .i64 0]) ∧ Below W.heap.size W w') := fun W hW => by
              have h := iPlaneTextR_z W m5 _ gs _ (O17.out.rdq.keep hW) (isPl_PlB hpp.1) ((HSTD.out.keep (K17.out.trans (hW.mono K17.out.size))).2.1)
              unfold RetTI PlaneTextR at h
              rw [hpp.1, if_pos rfl, hpp.2] at h
              exact h
            have a0 := HA19.out.1.2.1
            have a1 := HA19.out.1.2.2
            clear hpp
            go_wp2_with (fail)
            refine (HT5.out _ L19.out).mono ?_
            rintro e w20 ⟨rfl, hb20⟩
            have K20 := Lib.hid (K19.out.trans (hb20.mono K19.out.size))
            clear hb20 HT5 a0 a1
            go_wp2_with (fail)
            refine (DrawOrderOfSeries_any _ _ n (HV.out.at_ K20.out) hn4).mono ?_
            rintro e w21 ⟨m6, A21, c21, zs, rfl, hx6, ox6, hb21⟩
            have K21 := Lib.hid (K20.out.trans (hb21.mono K20.out.size))
            have O21 := Lib.hid ox6
            clear hb21 ox6
            obtain ⟨⟨q1, q2⟩, hQ6⟩ : ∃ r, OrderOfSeriesR m6 zs = r := ⟨_, rfl⟩
            have HI6 : Hid (∀ W, Below w21.heap.size w21 W → Calls Tryz.prog 22 #[.agg #[.int .i64 m6, .slice A21 zs.length c21]] W (RetII W (q1, q2))) := fun W hW => by
              have h := iOrderOfSeriesR_any W m6 _ zs _ (O21.out.keep hW (Nat.le_refl _)) (by omega)
              rwa [hQ6] at h
            have HJ6 : Hid (∀ W, Below w21.heap.size w21 W → Calls Tryz.prog 23 #[.agg #[.int .i64 m6, .slice A21 zs.length c21]] W (RetII W (q1, q2))) := fun W hW => by
              have h := sOrderOfSeriesR_any W m6 _ zs _ (O21.out.keep hW (Nat.le_refl _)) (by omega)
              rwa [hQ6] at h
            have HA21 : Hid (Bf (w21.alloc (.cells #[.int .i64 m6, .slice A21 zs.length c21] 26)) w21.heap.size (.int .i64 m6) (.slice A21 zs.length c21)) := Bf.alloc1 w21 _ _ _
            clear hQ6
            go_wp2_with (fail)
            refine (HI6.out _ (below_alloc1 w21 _)).mono ?_
            rintro e w22 ⟨rfl, hb22⟩
            have HA22 := Lib.hid (HA21.out.keep hb22)
            have L22 := Lib.hid ((below_alloc1 w21 _).trans (hb22.mono (by simp)))
            have a0 := HA22.out.1.2.1
            have a1 := HA22.out.1.2.2
            clear hb22
            go_wp2_with (fail)
            refine (HJ6.out _ L22.out).mono ?_
            rintro e w23 ⟨rfl, hb23⟩
            have K23 := Lib.hid (K21.out.trans ((L22.out.trans (hb23.mono L22.out.size)).mono K21.out.size))
            clear hb23 a0 a1
            go_wp2_with (fail)
            go_ret
            exact ⟨rfl, K23.out⟩
          · have hCb5 : (C5 == 0) = false := by simpa using hC5
            go_wp2_with (fail)
            refine (DrawOrderOfSeries_any _ _ n (HV.out.at_ K19.out) hn4).mono ?_
            rintro e w21 ⟨m6, A21, c21, zs, rfl, hx6, ox6, hb21⟩
            have K21 := Lib.hid (K19.out.trans (hb21.mono K19.out.size))
            have O21 := Lib.hid ox6
            clear hb21 ox6
            obtain ⟨⟨q1, q2⟩, hQ6⟩ : ∃ r, OrderOfSeriesR m6 zs = r := ⟨_, rfl⟩
            have HI6 : Hid (∀ W, Below w21.heap.size w21 W → Calls Tryz.prog 22 #[.agg #[.int .i64 m6, .slice A21 zs.length c21]] W (RetII W (q1, q2))) := fun W hW => by
              have h := iOrderOfSeriesR_any W m6 _ zs _ (O21.out.keep hW (Nat.le_refl _)) (by omega)
              rwa [hQ6] at h
            have HJ6 : Hid (∀ W, Below w21.heap.size w21 W → Calls Tryz.prog 23 #[.agg #[.int .i64 m6, .slice A21 zs.length c21]] W (RetII W (q1, q2))) := fun W hW => by
              have h := sOrderOfSeriesR_any W m6 _ zs _ (O21.out.keep hW (Nat.le_refl _)) (by omega)
              rwa [hQ6] at h
            have HA21 : Hid (Bf (w21.alloc (.cells #[.int .i64 m6, .slice A21 zs.length c21] 26)) w21.heap.size (.int .i64 m6) (.slice A21 zs.length c21)) := Bf.alloc1 w21 _ _ _
            clear hQ6
            go_wp2_with (fail)
            refine (HI6.out _ (below_alloc1 w21 _)).mono ?_
            rintro e w22 ⟨rfl, hb22⟩
            have HA22 := Lib.hid (HA21.out.keep hb22)
            have L22 := Lib.hid ((below_alloc1 w21 _).trans (hb22.mono (by simp)))
            have a0 := HA22.out.1.2.1
            have a1 := HA22.out.1.2.2
            clear hb22
            go_wp2_with (fail)
            refine (HJ6.out _ L22.out).mono ?_
            rintro e w23 ⟨rfl, hb23⟩
            have K23 := Lib.hid (K21.out.trans ((L22.out.trans (hb23.mono L22.out.size)).mono K21.out.size))
            clear hb23 a0 a1
            go_wp2_with (fail)
            go_ret
            exact ⟨rfl, K23.out⟩
        · have hCb : (C4 == 0) = false := by simpa using hC
          go_wp2_with (fail)
          clear OF HS4 HC4
          refine (DrawParsePlane_any _ _ n (HV.out.at_ KE.out) hn4).mono ?_
          rintro e w16 ⟨S5, rfl, hz5, hb16⟩
          have K16 := Lib.hid (KE.out.trans (hb16.mono KE.out.size))
          clear hb16
          obtain ⟨⟨⟨m5, gs⟩, C5⟩, hR5⟩ : ∃ r, ParsePlaneR S5.data.toList = r := ⟨_, rfl⟩
          have HI5 : Hid (∀ W, Below w16.heap.size w16 W → Calls Tryz.prog 17 #[.string S5] W (RetPI W ((m5, gs), C5))) := fun W hW => by
            have h := iParsePlaneR_any W S5 hz5 (HSTD.out.keep (K16.out.trans (hW.mono K16.out.size)))
            rwa [hR5] at h
          have HJ5 : Hid (∀ W, Below w16.heap.size w16 W → Calls Tryz.prog 20 #[.string S5] W (RetPI W ((m5, gs), C5))) := fun W hW => by
            have h := sParsePlaneR_any W S5 hz5
            rwa [hR5] at h
          have HR5 := Lib.hid hR5
          clear hR5
          go_wp2_with (fail)
          refine (HI5.out _ (Below.refl _ _)).mono ?_
          rintro e w17 ⟨A17, c17, rfl, o17, hb17⟩
          have O17 := Lib.hid o17
          have L17 := Lib.hid hb17
          have K17 := Lib.hid (K16.out.trans (hb17.mono K16.out.size))
          have HA17 : Hid (Bf (w17.alloc (.cells #[.int .i64 m5, .slice A17 gs.length c17] 36)) w17.heap.size (.int .i64 m5) (.slice A17 gs.length c17)) := Bf.alloc1 w17 _ _ _
          clear o17 hb17 HI5
          go_wp2_with (fail)
          refine (HJ5.out _ (L17.out.trans ((below_alloc1 w17 _).mono L17.out.size))).mono ?_
          rintro e w18 ⟨A18, c18, rfl, o18, hb18⟩
          have O18 := Lib.hid o18
          have HA18 := Lib.hid ((HA17.out.keep hb18).al (.cells #[.int .i64 m5, .slice A18 gs.length c18] 36))
          have L18 : Hid (Below w17.heap.size w17 w18) := (below_alloc1 w17 _).trans (hb18.mono (by simp))
          have K18 := Lib.hid (K17.out.trans (L18.out.mono K17.out.size))
          have HB18 : Hid (Bf (w18.alloc (.cells #[.int .i64 m5, .slice A18 gs.length c18] 36)) w18.heap.size (.int .i64 m5) (.slice A18 gs.length c18)) := Bf.alloc1 w18 _ _ _
          have HQ18 : Hid (∀ W, Below w18.heap.size w18 W → Calls Tryz.prog 18 #[.agg #[.int .i64 m5, .slice A17 gs.length c17], .agg #[.int .i64 m5, .slice A18 gs.length c18]] W fun e w' => e = .returned (.bool true) ∧ Below W.heap.size W w') := fun W hW => by
            have h := plane5_any W m5 m5 _ _ gs gs (O17.out.rd.below (L18.out.trans (hW.mono L18.out.size))) (O18.out.rd.below hW)
            simpa using h
          have a0 := HA18.out.1.2.1
          have a1 := HA18.out.1.2.2
          have b0 := HB18.out.1.2.1
          have b1 := HB18.out.1.2.2
          clear o18 hb18 HJ5 HA17
          go_wp2_with (fail)
          refine (HQ18.out _ (below_alloc1 w18 _)).mono ?_
          rintro e w19 ⟨rfl, hb19⟩
          have L19 := Lib.hid (L18.out.trans (((below_alloc1 w18 _).trans (hb19.mono (by simp))).mono L18.out.size))
          have K19 := Lib.hid (K17.out.trans (L19.out.mono K17.out.size))
          have HA19 := Lib.hid (HA18.out.keep hb19)
          clear HQ18 hb19 a0 a1 b0 b1 HA18 HB18 L18 L17 O18 K18 K16
          by_cases hC5 : C5 = 0
          · have hCb5 : (C5 == 0) = true := by simpa using hC5
            subst hC5
            have hpp := plT_parse HR5.out
            have HT5 : Hid (∀ W, Below w17.heap.size w17 W → Calls Tryz.prog 13 #[.agg #[.int .i64 m5, .slice A17 gs.length c17]] W fun e w' => e = .returned (.tuple #[.string S5, .int .i64 0]) ∧ Below W.heap.size W w') := fun W hW => by
              have h := iPlaneTextR_z W m5 _ gs _ (O17.out.rdq.keep hW) (isPl_PlB hpp.1) ((HSTD.out.keep (K17.out.trans (hW.mono K17.out.size))).2.1)
              unfold RetTI PlaneTextR at h
              rw [hpp.1, if_pos rfl, hpp.2] at h
              exact h
            have a0 := HA19.out.1.2.1
            have a1 := HA19.out.1.2.2
            clear hpp
            go_wp2_with (fail)
            refine (HT5.out _ L19.out).mono ?_
            rintro e w20 ⟨rfl, hb20⟩
            have K20 := Lib.hid (K19.out.trans (hb20.mono K19.out.size))
            clear hb20 HT5 a0 a1
            go_wp2_with (fail)
            refine (DrawOrderOfSeries_any _ _ n (HV.out.at_ K20.out) hn4).mono ?_
            rintro e w21 ⟨m6, A21, c21, zs, rfl, hx6, ox6, hb21⟩
            have K21 := Lib.hid (K20.out.trans (hb21.mono K20.out.size))
            have O21 := Lib.hid ox6
            clear hb21 ox6
            obtain ⟨⟨q1, q2⟩, hQ6⟩ : ∃ r, OrderOfSeriesR m6 zs = r := ⟨_, rfl⟩
            have HI6 : Hid (∀ W, Below w21.heap.size w21 W → Calls Tryz.prog 22 #[.agg #[.int .i64 m6, .slice A21 zs.length c21]] W (RetII W (q1, q2))) := fun W hW => by
              have h := iOrderOfSeriesR_any W m6 _ zs _ (O21.out.keep hW (Nat.le_refl _)) (by omega)
              rwa [hQ6] at h
            have HJ6 : Hid (∀ W, Below w21.heap.size w21 W → Calls Tryz.prog 23 #[.agg #[.int .i64 m6, .slice A21 zs.length c21]] W (RetII W (q1, q2))) := fun W hW => by
              have h := sOrderOfSeriesR_any W m6 _ zs _ (O21.out.keep hW (Nat.le_refl _)) (by omega)
              rwa [hQ6] at h
            have HA21 : Hid (Bf (w21.alloc (.cells #[.int .i64 m6, .slice A21 zs.length c21] 26)) w21.heap.size (.int .i64 m6) (.slice A21 zs.length c21)) := Bf.alloc1 w21 _ _ _
            clear hQ6
            go_wp2_with (fail)
            refine (HI6.out _ (below_alloc1 w21 _)).mono ?_
            rintro e w22 ⟨rfl, hb22⟩
            have HA22 := Lib.hid (HA21.out.keep hb22)
            have L22 := Lib.hid ((below_alloc1 w21 _).trans (hb22.mono (by simp)))
            have a0 := HA22.out.1.2.1
            have a1 := HA22.out.1.2.2
            clear hb22
            go_wp2_with (fail)
            refine (HJ6.out _ L22.out).mono ?_
            rintro e w23 ⟨rfl, hb23⟩
            have K23 := Lib.hid (K21.out.trans ((L22.out.trans (hb23.mono L22.out.size)).mono K21.out.size))
            clear hb23 a0 a1
            go_wp2_with (fail)
            go_ret
            exact ⟨rfl, K23.out⟩
          · have hCb5 : (C5 == 0) = false := by simpa using hC5
            go_wp2_with (fail)
            refine (DrawOrderOfSeries_any _ _ n (HV.out.at_ K19.out) hn4).mono ?_
            rintro e w21 ⟨m6, A21, c21, zs, rfl, hx6, ox6, hb21⟩
            have K21 := Lib.hid (K19.out.trans (hb21.mono K19.out.size))
            have O21 := Lib.hid ox6
            clear hb21 ox6
            obtain ⟨⟨q1, q2⟩, hQ6⟩ : ∃ r, OrderOfSeriesR m6 zs = r := ⟨_, rfl⟩
            have HI6 : Hid (∀ W, Below w21.heap.size w21 W → Calls Tryz.prog 22 #[.agg #[.int .i64 m6, .slice A21 zs.length c21]] W (RetII W (q1, q2))) := fun W hW => by
              have h := iOrderOfSeriesR_any W m6 _ zs _ (O21.out.keep hW (Nat.le_refl _)) (by omega)
              rwa [hQ6] at h
            have HJ6 : Hid (∀ W, Below w21.heap.size w21 W → Calls Tryz.prog 23 #[.agg #[.int .i64 m6, .slice A21 zs.length c21]] W (RetII W (q1, q2))) := fun W hW => by
              have h := sOrderOfSeriesR_any W m6 _ zs _ (O21.out.keep hW (Nat.le_refl _)) (by omega)
              rwa [hQ6] at h
            have HA21 : Hid (Bf (w21.alloc (.cells #[.int .i64 m6, .slice A21 zs.length c21] 26)) w21.heap.size (.int .i64 m6) (.slice A21 zs.length c21)) := Bf.alloc1 w21 _ _ _
            clear hQ6
            go_wp2_with (fail)
            refine (HI6.out _ (below_alloc1 w21 _)).mono ?_
            rintro e w22 ⟨rfl, hb22⟩
            have HA22 := Lib.hid (HA21.out.keep hb22)
            have L22 := Lib.hid ((below_alloc1 w21 _).trans (hb22.mono (by simp)))
            have a0 := HA22.out.1.2.1
            have a1 := HA22.out.1.2.2
            clear hb22
            go_wp2_with (fail)
            refine (HJ6.out _ L22.out).mono ?_
            rintro e w23 ⟨rfl, hb23⟩
            have K23 := Lib.hid (K21.out.trans ((L22.out.trans (hb23.mono L22.out.size)).mono K21.out.size))
            clear hb23 a0 a1
            go_wp2_with (fail)
            go_ret
            exact ⟨rfl, K23.out⟩

end Go.Proofs.YtglbccikdglcgaaGreatDoor
