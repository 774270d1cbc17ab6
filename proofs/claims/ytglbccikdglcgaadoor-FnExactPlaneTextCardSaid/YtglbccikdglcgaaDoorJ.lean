/- Contracts over this seat's translation. Condition: each contract's own. -/
import Derived.Test.YtglbccikdglcgaaDoorH
import Derived.ProofKit
import Derived.Laws.Bits64b
import Derived.Lib.Mul64
import Derived.OpenShut
import Derived.Below
import Derived.ChangeSame
import Derived.Deep.Modes
import Derived.Lib.SmallJoins
import Derived.ChangeSlices
import Derived.WalkKit
import Derived.WalkSpells
import Derived.WalkLawsBesides
import Derived.Deep.QuietTactic
import Derived.BigQuiet
import Derived.Deep.RegionHeld3
import Derived.Deep.RegionWith
import Derived.Deep.RegionLaw
import Derived.Deep.AppendLies
import Derived.Laws.CopyOwn
import Derived.Deep.DeepCutAuto
import Derived.Deep.OwnRows
import Derived.Deep.LoopGhost
import Derived.Deep.DeepFit
import Derived.Deep.DeepMust
import Derived.Deep.Draws
import Derived.Deep.CutRange
import Derived.Maps.AppendAt
import Derived.Lib.Hide
import Derived.StillTailTactics
import Derived.Laws.MakeOwn
import Derived.Deep.Matrix
import Derived.ChangeAgain
import Derived.SizedLaws
import Derived.Handed
import Derived.Lib.SplitLaws
import Derived.Lib.ParseIntB
import Derived.Lib.ItoaMem
import Derived.Lib.ItoaLen
import Derived.Laws.BytesArg
import Derived.Lib.Join
import Derived.Lib.IndexBytes
set_option linter.unusedVariables false
open Go Go.RowKit
namespace Go.Proofs.YtglbccikdglcgaaDoor
/-! ### PlaneText -/
theorem plT_step {m : Int} {xss : List (List Int)} {k : Nat} (hk : k < xss.length) :
    Lib.itoa m ++ 58 :: Lib.join ((xss.take (k + 1)).map listT) [47] = if k = 0 then Lib.itoa m ++ 58 :: listT (xss.getD k []) else (Lib.itoa m ++ 58 :: Lib.join ((xss.take k).map listT) [47]) ++ [47] ++ listT (xss.getD k []) := by
  rw [List.take_succ_eq_append_getElem hk, List.map_append, List.map_cons, List.map_nil, join_snoc, List.getD_eq_getElem?_getD, List.getElem?_eq_getElem hk]
  have : (xss.take k).map listT = [] ↔ k = 0 := by
    rw [List.map_eq_nil_iff, List.take_eq_nil_iff]
    constructor
    · rintro (h | h)
      · exact h
      · rw [h] at hk; simp at hk
    · exact fun h => .inl h
  simp only [this, Option.getD_some]
  split <;> simp
theorem plT_len {m : Int} {xss : List (List Int)} (hm : 0 ≤ m ∧ m ≤ 1000000) (h : ∀ k j, 0 ≤ (xss.getD k []).getD j 0 ∧ (xss.getD k []).getD j 0 ≤ 1000000) (h2 : ∀ k, (xss.getD k []).length ≤ 100) : (Lib.itoa m ++ 58 :: Lib.join (xss.map listT) [47]).length ≤ 21 + xss.length * 2101 := by
  have h1 := itoa_len hm.1 hm.2
  have h3 := join_len 47 (xss.map listT)
  have h4 : lenSum (xss.map listT) ≤ (xss.map listT).length * (2100 + 1) := lenSum_le fun w hw => by
    obtain ⟨x, hx, rfl⟩ := List.mem_map.1 hw
    obtain ⟨i, hi, rfl⟩ := List.mem_iff_getElem.1 hx
    have := listT_len (h i)
    have h5 := h2 i
    rw [List.getD_eq_getElem?_getD, List.getElem?_eq_getElem hi, Option.getD_some] at this h5
    omega
  rw [List.length_map] at h4
  simp only [List.length_append, List.length_cons]
  omega
theorem isPl_nums {m : Int} {xss : List (List Int)} (h : isPl m xss = true) : (0 ≤ m ∧ m ≤ 1000000) ∧ (∀ k j, 0 ≤ (xss.getD k []).getD j 0 ∧ (xss.getD k []).getD j 0 ≤ 1000000) ∧ (∀ k, (xss.getD k []).length ≤ 100) ∧ xss.length ≤ 11 := by
  have h1 := isPl_true h
  have hm := isModB_true h1.1
  refine ⟨by omega, fun k j => ?_, fun k => ?_, by omega⟩
  · have := isPl_num h k j
    unfold co2 co at this
    omega
  · by_cases hk : k < xss.length
    · rw [(h1.2.2 k hk).1]; omega
    · rw [List.getD_eq_getElem?_getD, List.getElem?_eq_none (by omega)]; simp
theorem takeD (xss : List (List Int)) (k i : Nat) : (xss.take k).getD i [] = xss.getD i [] ∨ (xss.take k).getD i [] = [] := by
  rw [List.getD_eq_getElem?_getD, List.getD_eq_getElem?_getD, List.getElem?_take]
  split
  · exact .inl rfl
  · exact .inr rfl
theorem plT_len_take {m : Int} {xss : List (List Int)} (hm : 0 ≤ m ∧ m ≤ 1000000) (h : ∀ k j, 0 ≤ (xss.getD k []).getD j 0 ∧ (xss.getD k []).getD j 0 ≤ 1000000) (h2 : ∀ k, (xss.getD k []).length ≤ 100) (hl : xss.length ≤ 1000) (k : Nat) : (Lib.itoa m ++ 58 :: Lib.join ((xss.take k).map listT) [47]).length ≤ 2200000 := by
  have := plT_len (m := m) (xss := xss.take k) hm (fun i j => by
    rcases takeD xss k i with e | e <;> rw [e]
    · exact h i j
    · simp) (fun i => by
    rcases takeD xss k i with e | e <;> rw [e]
    · exact h2 i
    · simp)
  have h3 : (xss.take k).length ≤ 1000 := by simp; omega
  omega
set_option maxRecDepth 4000 in
set_option maxHeartbeats 1000000 in
theorem l03Text_any (w : World) (m : Int) (v : Value) (xss : List (List Int)) (hv : RdP w v xss) (hm : 0 ≤ m ∧ m ≤ 1000000) (hn : ∀ k j, 0 ≤ (xss.getD k []).getD j 0 ∧ (xss.getD k []).getD j 0 ≤ 1000000) (h2 : ∀ k, (xss.getD k []).length ≤ 100) (hl : xss.length ≤ 1000) :
    Calls Tryd.prog 50 #[.agg #[.int .i64 m, v]] w fun e w' => e = .returned (.string ⟨(plT m xss).toArray⟩) ∧ Below w.heap.size w w' := by
  obtain ⟨A, c, e0, hc1, hc2, hA⟩ := hv
  subst e0
  unfold maxLen at hc2
  have HN := Lib.hid hn
  have H2 := Lib.hid h2
  obtain ⟨X, HX⟩ : ∃ X : ByteArray, Hid ((⟨(Lib.itoa m).toArray⟩ : ByteArray) = X) := ⟨_, rfl⟩
  have hxs : X.size ≤ 20 := by rw [← HX.out, size_mk]; exact itoa_len hm.1 hm.2
  have HDC : Hid (∀ W, Calls Tryd.prog 67 #[.int .i64 m] W fun e w' => e = .returned (.string X) ∧ Below W.heap.size W w') := fun W => by
    have := dec_any m W hm.1 hm.2
    rwa [HX.out] at this
  have HXC : Hid (X ++ ⟨#[58]⟩ = ⟨(Lib.itoa m ++ 58 :: Lib.join ((xss.take 0).map listT) [47]).toArray⟩) := by
    unfold Hid
    rw [← HX.out, show (⟨#[58]⟩ : ByteArray) = ⟨([58] : List UInt8).toArray⟩ from rfl, app_mk]
    simp [Lib.join, List.intercalate]
  have HLEN : Hid (∀ k, (Lib.itoa m ++ 58 :: Lib.join ((xss.take k).map listT) [47]).length ≤ 2200000) := plT_len_take hm hn h2 hl
  clear hn h2
  go_enter Tryd.func50, Tryd.ntmps50
  go_wp2_with (go_at_call 67; refine (HDC.out _).mono ?_; rintro e w1 ⟨rfl, hb1⟩; obtain ⟨P1, K1⟩ := Bf.first1 hb1; have p1a := P1.1.2.1; have p1b := P1.1.2.2; have z1 := P1.1.1)
  go_loopw [3, 4] (fun q i wr => ∃ (k : Nat) (S : ByteArray), k ≤ xss.length ∧ i = .int .i64 k ∧ q = .string S ∧ Hid (S = ⟨(Lib.itoa m ++ 58 :: Lib.join ((xss.take k).map listT) [47]).toArray⟩) ∧ S.size ≤ 2200000 ∧ Hid (Bf wr w.heap.size (.int .i64 m) (.slice A xss.length c)) ∧ Hid (Below w.heap.size w wr)) (fun _ i _ => xss.length - (intOf i).toNat)
  case atStart => exact ⟨0, _, Nat.zero_le _, rfl, rfl, HXC.out, by rw [HXC.out, size_mk]; have := HLEN.out 0; omega, P1, K1⟩
  case round =>
    clear P1 K1 p1a p1b hb1
    obtain ⟨k, S, hk, rfl, rfl, HS, hsz, HB, hb⟩ := hrel
    have hz := hb.out.size
    have b1 := HB.out.1.2.1
    have b2 := HB.out.1.2.2
    by_cases hlt : k < xss.length
    · obtain ⟨b, off, rowv, rfl, hb1, hcell, hrow⟩ := hA k hlt
      clear hA
      have hcell' : wr.cell? ⟨b, off + k, none⟩ = some rowv := (hb.out.cell (p := ⟨b, off + k, none⟩) hb1).trans hcell
      clear hcell
      have HST := Lib.hid (plT_step (m := m) hlt)
      have hnk := HN.out k
      have h2k := H2.out k
      obtain ⟨x, hx⟩ : ∃ x, x = xss.getD k [] := ⟨_, rfl⟩
      rw [← hx] at hrow HST hnk h2k
      clear hx
      obtain ⟨Ar, cr, er⟩ := hrow.form
      subst er
      obtain ⟨X2, HX2⟩ : ∃ X2 : ByteArray, Hid ((⟨(listT x).toArray⟩ : ByteArray) = X2) := ⟨_, rfl⟩
      have hxs2 : X2.size ≤ 2100 := by rw [← HX2.out, size_mk]; have := listT_len hnk; omega
      have HLI : Hid (∀ W, Below w.heap.size w W → Calls Tryd.prog 68 #[.slice Ar x.length cr] W fun e w' => e = .returned (.string X2) ∧ Below W.heap.size W w') := fun W hW => by
        have := l02List_any W _ x (hrow.below hW) (by omega) hnk
        rwa [HX2.out] at this
      clear hrow hnk
      have hk0 : (0 : Int) ≤ (k : Int) := by omega
      have hk1 : (k : Int) < (xss.length : Int) := by omega
      by_cases h0 : k = 0
      · subst h0
        rw [Nat.add_zero] at hcell'
        have HR : Hid (S ++ X2 = ⟨(Lib.itoa m ++ 58 :: Lib.join ((xss.take 1).map listT) [47]).toArray⟩) := by
          have e1 := HST.out
          rw [if_pos rfl] at e1
          unfold Hid
          rw [e1, HS.out, ← HX2.out, app_mk]
          simp [Lib.join, List.intercalate]
        go_wp2_with (go_at_call 68; refine (HLI.out _ hb.out).mono ?_; rintro e w3 ⟨rfl, hb3⟩)
        go_roundw
        case rel =>
          refine ⟨1, S ++ X2, by omega, by go_num, rfl, HR.out, ?_, HB.out.keep hb3, hb.out.trans (hb3.mono hz)⟩
          rw [HR.out, size_mk]; have := HLEN.out 1; omega
        case measure => simp [intOf]; omega
      · have HR : Hid (S ++ ⟨#[47]⟩ ++ X2 = ⟨(Lib.itoa m ++ 58 :: Lib.join ((xss.take (k + 1)).map listT) [47]).toArray⟩) := by
          have e1 := HST.out
          rw [if_neg h0] at e1
          unfold Hid
          rw [e1, HS.out, ← HX2.out, show (⟨#[47]⟩ : ByteArray) = ⟨([47] : List UInt8).toArray⟩ from rfl, app_mk, app_mk]
        have hg0 : (0 : Int) < (k : Int) := by omega
        go_wp2_with (go_at_call 68; refine (HLI.out _ hb.out).mono ?_; rintro e w3 ⟨rfl, hb3⟩)
        go_roundw
        case rel =>
          refine ⟨k + 1, _, by omega, by go_num, rfl, HR.out, ?_, HB.out.keep hb3, hb.out.trans (hb3.mono hz)⟩
          rw [HR.out, size_mk]; have := HLEN.out (k + 1); omega
        case measure => simp [intOf]; omega
    · obtain rfl : k = xss.length := by omega
      have HR : Hid (S = ⟨(plT m xss).toArray⟩) := by have := HS.out; rwa [List.take_length] at this
      go_wp2
      go_ret
      exact ⟨by rw [← HR.out]; rfl, hb.out⟩
set_option maxRecDepth 4000 in
set_option maxHeartbeats 1000000 in
theorem sPlaneTextR_any (w : World) (m : Int) (v : Value) (xss : List (List Int)) (lo hi : Nat) (hv : OwnP w lo hi v xss) (hl : szP xss ≤ 2000000) :
    Calls Tryd.prog 22 #[.agg #[.int .i64 m, v]] w (RetTI w (PlaneTextR m xss)) := by
  obtain ⟨A, c, e0, _, _⟩ := hv.form
  subst e0
  cases hS : isPl m xss
  · have HS := Lib.hid hS
    have HR : Hid (PlaneTextR m xss = ([], 1)) := by unfold Hid PlaneTextR; rw [hS]; rfl
    clear hS
    go_enter Tryd.func22, Tryd.ntmps22
    go_wp2_with (go_at_call 38; refine (l03Is_any _ _ _ xss lo hi (hv.keep (below_alloc1 w _)) hl).mono ?_; rintro e w1 ⟨rfl, hb1⟩; rw [HS.out])
    exact bodyPost_ret (v := .tuple #[.string ⟨#[]⟩, .int .i64 1]) (by simp [results, Tryd.results22, go_sem]) rfl (by rw [HR.out]; exact ⟨rfl, (below_alloc1 w _).trans (hb1.mono (by simp))⟩)
  · obtain ⟨hm, hn, h2, h11⟩ := isPl_nums hS
    have HS := Lib.hid hS
    have HR : Hid (PlaneTextR m xss = (plT m xss, 0)) := by unfold Hid PlaneTextR; rw [hS]; rfl
    have HTX : Hid (∀ W, Below w.heap.size w W → Calls Tryd.prog 50 #[.agg #[.int .i64 m, .slice A xss.length c]] W fun e w' => e = .returned (.string ⟨(plT m xss).toArray⟩) ∧ Below W.heap.size W w') :=
      fun W hW => l03Text_any W m _ xss (hv.rd.below hW) hm hn h2 (by omega)
    obtain ⟨S, hSS⟩ : ∃ S : ByteArray, (⟨(plT m xss).toArray⟩ : ByteArray) = S := ⟨_, rfl⟩
    rw [hSS] at HTX
    have HSS := Lib.hid hSS
    clear hS hm hn h2 h11 hSS
    go_enter Tryd.func22, Tryd.ntmps22
    go_wp2_with (first | (go_at_call 38; refine (l03Is_any _ _ _ xss lo hi (hv.keep (below_alloc1 w _)) hl).mono ?_; rintro e w1 ⟨rfl, hb1⟩; rw [HS.out]; obtain ⟨P1, K1⟩ := Bf.first1 hb1; have p1a := P1.1.2.1; have p1b := P1.1.2.2; have z1 := P1.1.1) | (go_at_call 50; refine (HTX.out _ K1).mono ?_; rintro e w2 ⟨rfl, hb2⟩))
    exact bodyPost_ret (v := .tuple #[.string S, .int .i64 0]) (by simp [results, Tryd.results22, go_sem]) rfl (by rw [HR.out]; exact ⟨by rw [← HSS.out], K1.trans (hb2.mono K1.size)⟩)
theorem mapListT_step {xss : List (List Int)} {k : Nat} (hk : k < xss.length) : (xss.take (k + 1)).map listT = (xss.take k).map listT ++ [listT (xss.getD k [])] := by
  rw [List.take_succ_eq_append_getElem hk, List.map_append, List.map_cons, List.map_nil, List.getD_eq_getElem?_getD, List.getElem?_eq_getElem hk]
  rfl
set_option maxRecDepth 4000 in
set_option maxHeartbeats 2000000 in
theorem iPlaneTextR_any (w : World) (m : Int) (v : Value) (xss : List (List Int)) (lo hi : Nat) (hv : OwnP w lo hi v xss) (hl : szP xss ≤ 2000000) (hT : Tab w) :
    Calls Tryd.prog 24 #[.agg #[.int .i64 m, v]] w (RetTI w (PlaneTextR m xss)) := by
  cases hS : isPl m xss
  · obtain ⟨A, c, e0, _, _⟩ := hv.form
    subst e0
    have HS := Lib.hid hS
    have HR : Hid (PlaneTextR m xss = ([], 1)) := by unfold Hid PlaneTextR; rw [hS]; rfl
    clear hS
    go_enter Tryd.func24, Tryd.ntmps24
    go_wp2_with (go_at_call 40; refine (iIsPlane_any _ _ _ xss lo hi (hv.keep (below_alloc1 w _)) hl).mono ?_; rintro e w1 ⟨rfl, hb1⟩; rw [HS.out])
    exact bodyPost_ret (v := .tuple #[.string ⟨#[]⟩, .int .i64 1]) (by simp [results, Tryd.results24, go_sem]) rfl (by rw [HR.out]; exact ⟨rfl, (below_alloc1 w _).trans (hb1.mono (by simp))⟩)
  · obtain ⟨hm, hn, h2, h11⟩ := isPl_nums hS
    have hlen2 := (isPl_true hS).2.1
    have HV := Lib.hid hv
    obtain ⟨A, c, e0, hc1, hc2, hA⟩ := hv.rd
    subst e0
    unfold maxLen at hc2
    have HN := Lib.hid hn
    have H2 := Lib.hid h2
    have HS := Lib.hid hS
    have HT := Lib.hid hT
    have HA := Lib.hid hA
    have HR : Hid (PlaneTextR m xss = (plT m xss, 0)) := by unfold Hid PlaneTextR; rw [hS]; rfl
    have HLN := Lib.hid (plT_len_take (m := m) hm hn h2 (by omega) xss.length)
    rw [List.take_length] at HLN
    obtain ⟨X, HX⟩ : ∃ X : ByteArray, Hid ((⟨(Lib.itoa m).toArray⟩ : ByteArray) = X) := ⟨_, rfl⟩
    have hxs : X.size ≤ 20 := by rw [← HX.out, size_mk]; exact itoa_len hm.1 hm.2
    have HDC : Hid (∀ W, Below w.heap.size w W → Calls Tryd.prog 47 #[.int .i64 m] W fun e w' => e = .returned (.string X) ∧ Below W.heap.size W w') := fun W hW => by
      have := decimal_any m (by omega) (by omega) W (HT.out.keep hW)
      rwa [HX.out] at this
    clear hS hn h2 hT hv hA
    go_enter Tryd.func24, Tryd.ntmps24
    go_wp2_with (go_at_call 40; refine (iIsPlane_any _ _ _ xss lo hi (HV.out.keep (below_alloc1 w _)) hl).mono ?_; rintro e w1 ⟨rfl, hb1⟩; rw [HS.out]; obtain ⟨P1, K1⟩ := Bf.first1 hb1; have p1a := P1.1.2.1; have p1b := P1.1.2.2; have z1 := P1.1.1)
    go_loopw [4, 6, 14] (fun q _ i wr => ∃ (k : Nat) (A' : Option Addr) (cc : Nat) (ts : List ByteArray), k ≤ xss.length ∧ i = .int .i64 k ∧ q = .slice A' ts.length cc ∧ Hid (ts.length = k) ∧ Hid (OwnT wr (w.heap.size + 1) (.slice A' ts.length cc) ts) ∧ Hid (ts.map (fun t : ByteArray => t.data.toList) = (xss.take k).map listT) ∧ Hid (Bf wr w.heap.size (.int .i64 m) (.slice A xss.length c)) ∧ Hid (Below w.heap.size w wr)) (fun _ _ i _ => xss.length - (intOf i).toNat)
    case atStart => exact ⟨0, _, _, [], Nat.zero_le _, rfl, rfl, rfl, OwnT.lit0 w1 (by omega), by unfold Hid; simp, P1.al _, K1.alloc K1.size _⟩
    case round =>
      clear P1 K1 p1a p1b hb1
      obtain ⟨k, A', cc, ts, hk, rfl, rfl, HTL, HO, HTS, HB, hb⟩ := hrel
      have hz := hb.out.size
      have zB := HB.out.1.1
      have b1 := HB.out.1.2.1
      have b2 := HB.out.1.2.2
      have htl : ts.length ≤ 1000000 := by rw [HTL.out]; omega
      by_cases hlt : k < xss.length
      · obtain ⟨b, off, rowv, rfl, hb1, hcell, hrow⟩ := HA.out k hlt
        have hcell' : wr.cell? ⟨b, off + k, none⟩ = some rowv := (hb.out.cell (p := ⟨b, off + k, none⟩) hb1).trans hcell
        clear hcell
        have HM := Lib.hid (mapListT_step hlt)
        have hnk := HN.out k
        have h2k := H2.out k
        obtain ⟨x, hx⟩ : ∃ x, x = xss.getD k [] := ⟨_, rfl⟩
        rw [← hx] at hrow HM hnk h2k
        clear hx
        obtain ⟨Ar, cr, er⟩ := hrow.form
        subst er
        obtain ⟨X2, HX2⟩ : ∃ X2 : ByteArray, Hid ((⟨(listT x).toArray⟩ : ByteArray) = X2) := ⟨_, rfl⟩
        have HLI : Hid (∀ W, Below w.heap.size w W → Calls Tryd.prog 48 #[.slice Ar x.length cr] W fun e w' => e = .returned (.string X2) ∧ Below W.heap.size W w') := fun W hW => by
          have := numbersText_any W _ x (hrow.below hW) (by omega) hnk (HT.out.keep hW)
          rwa [HX2.out] at this
        clear hrow hnk
        have hk0 : (0 : Int) ≤ (k : Int) := by omega
        have hk1 : (k : Int) < (xss.length : Int) := by omega
        go_wp2_with (first | (go_at_call 48; refine (HLI.out _ hb.out).mono ?_; rintro e w2 ⟨rfl, hb2⟩; have HB2 := Lib.hid hb2; have z2 := hb2.size; clear hb2) | (at_builtin; refine appendT _ _ (w.heap.size + 1) (.slice A' ts.length cc) ts X2 w2.heap.size (by rfl) (by rfl) (by rfl) (by rfl) ((HO.out.keep HB2.out (Nat.le_refl _)).alloc _) (heap_own _ _) (by omega) (by simp; omega) ?_; intro v' w3 ho3 hg3; obtain ⟨A3, c3, e3⟩ := ho3.form; subst e3))
        go_roundw
        case rel =>
          refine ⟨k + 1, A3, c3, ts ++ [X2], by omega, by go_num, by simp, by unfold Hid; rw [List.length_append, HTL.out]; rfl, ho3, ?_, ?_, ?_⟩
          · unfold Hid
            rw [HM.out, List.map_append, HTS.out, ← HX2.out]
            simp
          · refine ((HB.out.keep HB2.out).al _).grown hg3 fun e => ?_
            have := (HO.out.block_ge e.symm).1
            omega
          · exact ((HO.out.keep HB2.out (Nat.le_refl _)).alloc _).grown_below ((hb.out.trans (HB2.out.mono hz)).alloc (by omega) _) hg3 (by omega) (by simp; omega)
        case measure => simp [intOf]; omega
      · obtain rfl : k = xss.length := by omega
        have HTS2 : Hid (ts.map (fun t : ByteArray => t.data.toList) = xss.map listT) := by have := HTS.out; rwa [List.take_length] at this
        obtain ⟨g, rfl, hg1, hg2, hn, hcc, hcc'⟩ := HO.out.some_ (by rw [HTL.out]; omega)
        have HJL : Hid ((Lib.join (ts.map (fun t : ByteArray => t.data.toList)) [47]).length ≤ 2200000) := by
          have := HLN.out
          unfold Hid
          rw [HTS2.out]
          simp only [List.length_append, List.length_cons] at this
          omega
        obtain ⟨Y, HY⟩ : ∃ Y : ByteArray, Hid ((⟨(Lib.join (ts.map (fun t : ByteArray => t.data.toList)) [47]).toArray⟩ : ByteArray) = Y) := ⟨_, rfl⟩
        have hys : Y.size ≤ 2200000 := by rw [← HY.out, size_mk]; exact HJL.out
        have HR2 : Hid (X ++ ⟨#[58]⟩ ++ Y = ⟨(plT m xss).toArray⟩) := by
          unfold Hid plT
          rw [← HX.out, ← HY.out, HTS2.out, show (⟨#[58]⟩ : ByteArray) = ⟨([58] : List UInt8).toArray⟩ from rfl, app_mk, app_mk]
          simp
        have HJC : Hid (∀ W, Below wr.heap.size wr W → Calls Tryd.prog 52 #[.slice (some ⟨g, 0, none⟩) ts.length cc, .string ⟨#[47]⟩] W fun e w' => e = .returned (.string Y) ∧ Below W.heap.size W w') := by
          intro W hW
          have HO4 := HO.out.keep hW (Nat.le_refl _)
          have := Tryd.strings_Join g 0 cc ts ⟨#[47]⟩ W (fun j x hj => by
            have hlt2 : j < ts.length := (List.getElem?_eq_some_iff.1 hj).1
            have h5 := (HO4.cell hlt2).1
            rw [List.getD_eq_getElem?_getD, hj] at h5
            rw [Nat.zero_add]; exact h5) (Nat.lt_of_lt_of_le hg2 hW.size) (by omega) hcc (by rw [show (⟨#[47]⟩ : ByteArray).data.toList = [47] from rfl]; have := HJL.out; omega)
          rwa [show (⟨#[47]⟩ : ByteArray).data.toList = [47] from rfl, HY.out] at this
        go_wp2_with (first | (go_at_call 47; refine (HDC.out _ hb.out).mono ?_; rintro e w2 ⟨rfl, hb2⟩; have HB2 := Lib.hid hb2; have z2 := hb2.size; clear hb2) | (go_at_call 52; refine (HJC.out _ HB2.out).mono ?_; rintro e w3 ⟨rfl, hb3⟩))
        refine bodyPost_ret (v := .tuple #[.string (X ++ ⟨#[58]⟩ ++ Y), .int .i64 0]) (by simp [results, Tryd.results24, go_sem]) rfl (by rw [HR.out]; exact ⟨by rw [HR2.out], (hb.out.trans (HB2.out.mono hz)).trans (hb3.mono (by omega))⟩)

end Go.Proofs.YtglbccikdglcgaaDoor
