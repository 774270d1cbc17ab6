/- Contracts over this seat's translation. Condition: each contract's own. -/
import Derived.Test.YtglbccikdglcgaaGreatDoorU
import Derived.ProofKit
import Derived.Laws.Bits64b
import Derived.Lib.Mul64
import Derived.OpenShut
import Derived.Below
import Derived.ChangeSame
import Derived.Deep.Modes
import Derived.Lib.SmallJoins
import Derived.ChangeSlices
import Derived.WalkKit
import Derived.WalkSpells
import Derived.WalkLawsBesides
import Derived.Deep.QuietTactic
import Derived.BigQuiet
import Derived.Deep.RegionHeld3
import Derived.Deep.RegionWith
import Derived.Deep.RegionLaw
import Derived.Deep.AppendLies
import Derived.Laws.CopyOwn
import Derived.Deep.DeepCutAuto
import Derived.Deep.OwnRows
import Derived.Deep.LoopGhost
import Derived.Deep.DeepFit
import Derived.Deep.DeepMust
import Derived.Deep.Draws
import Derived.Deep.CutRange
import Derived.Maps.AppendAt
import Derived.Lib.Hide
import Derived.StillTailTactics
import Derived.Laws.MakeOwn
import Derived.Deep.Matrix
import Derived.ChangeAgain
import Derived.SizedLaws
import Derived.Handed
import Derived.Lib.SplitLaws
import Derived.Lib.ParseIntB
import Derived.Lib.ItoaMem
import Derived.Lib.ItoaLen
import Derived.Laws.BytesArg
import Derived.Lib.Join
import Derived.Lib.IndexBytes
set_option linter.unusedVariables false
open Go Go.RowKit
namespace Go.Proofs.YtglbccikdglcgaaGreatDoor
/-! ### Draws of planes that may be spoilt -/
set_option maxRecDepth 4000 in
set_option maxHeartbeats 4000000 in
theorem l03Draw_any (w : World) (b : Nat) (v : Value) (n : Nat) (hs : Src w b v n) (hn : n ≤ 1000000000) :
    Calls Tryz.prog 71 #[.pointer (some ⟨b, 0, none⟩)] w (fun e w' => ∃ d m, (1 ≤ d ∧ d ≤ 10) ∧ (2 ≤ m ∧ m ≤ 10001) ∧ RetPn w b v n d m e w') := by
  have hbl := hs.lt
  have H0 := Lib.hid hs.1
  have s0 := hs.alloc (.cells #[.int .i64 0, .slice none 0 0] 36)
  have K0 := (Only.refl b w).alloc (.cells #[.int .i64 0, .slice none 0 0] 36)
  have P0 := Bf.alloc1 w (.int .i64 0) (.slice none 0 0) 36
  clear hs
  go_enter Tryz.func71, Tryz.ntmps71
  go_wp2_with (first | (go_at_call 55; refine (l01DrawModulus_any _ b v n s0 hn).mono ?_; rintro e w1 ⟨m, rfl, hm, s1, o1⟩; have K1 := K0.trans o1; have P1 := P0.only o1 (by omega)) | (go_at_call_of 36 (Value.int IntKind.i64 4); refine (l01Next_any _ b v n 4 s1 hn (by omega)).mono ?_; rintro e w2 ⟨x2, rfl, g2, h2, s2, o2⟩; have K2 := K1.trans o2; have P2 := P1.only o2 (by omega); have h2 := h2.1 (by omega)) | (go_at_call_of 36 (Value.int IntKind.i64 6); refine (l01Next_any _ b v n 6 s2 hn (by omega)).mono ?_; rintro e w3 ⟨x3, rfl, g3, h3, s3, o3⟩; have K3 := K2.trans o3; have P3 := P2.only o3 (by omega); have h3 := h3.1 (by omega)) | (go_at_call_of 36 (Value.int IntKind.i64 10); refine (l01Next_any _ b v n 10 s3 hn (by omega)).mono ?_; rintro e w4 ⟨x4, rfl, g4, h4, s4, o4⟩; have K4 := K3.trans o4; have P4 := P3.only o4 (by omega); have h4 := h4.1 (by omega)))
  have z4 : w.heap.size < w4.heap.size := P4.1.1
  clear K0 K1 K2 K3 P0 P1 P2 P3 o1 o2 o3 o4 s0 s1 s2 s3
  refine (l01Pick_any _ b v _ n w4.heap.size [x2, x3, x4] (s4.alloc _) hn (OwnI.litN w4 _ _ (by rfl) (by simp [maxLen]) (Nat.le_refl _)) s4.lt (by simp) (by simp) (fun x => 0 ≤ x ∧ x ≤ 9) (by intro x hx; simp at hx; omega)).mono ?_
  rintro e w5 ⟨x5, rfl, h5, s5, o5⟩
  obtain ⟨k5, rfl⟩ := Int.eq_ofNat_of_zero_le h5.1
  obtain ⟨j, hj⟩ : ∃ j : Nat, (j : Int) = 1 + (k5 : Int) := ⟨k5 + 1, by omega⟩
  have P5 := (P4.al (.cells #[.int .i64 x2, .int .i64 x3, .int .i64 x4] 2)).only o5 (by omega)
  have K5 := (K4.alloc _).trans o5
  clear P4 K4 s4 o5
  go_wp2_with (fail)
  rw [← hj]
  refine (l03With_any _ b v n j m s5 hn (by omega) (by omega)).mono ?_
  rintro e w6 ⟨g, cg, F, rfl, hF, ho, s6, o6⟩
  have P6 := P5.only o6 (by omega)
  have zz5 := P5.1.1
  have K6 := K5.trans o6
  have p6a := P6.1.2.1
  have p6b := P6.1.2.2
  have p6c := P6.2.1
  have p6d := P6.2.2
  go_wp2_with (fail)
  have Q := P6.put2 (x' := .int .i64 m) (y' := .slice (some ⟨g, 0, none⟩) (j + 1) cg)
  have q1 := Q.1.2.1
  have q2 := Q.1.2.2
  have KK : Only b w ((w6.setCell ⟨w.heap.size, 0, none⟩ (.int .i64 m)).setCell ⟨w.heap.size, 1, none⟩ (.slice (some ⟨g, 0, none⟩) (j + 1) cg)) := (K6.setNew (p := ⟨w.heap.size, 0, none⟩) (Nat.le_refl _) _).setNew (p := ⟨w.heap.size, 1, none⟩) (Nat.le_refl _) _
  exact bodyPost_ret (v := .agg #[.int .i64 m, .slice (some ⟨g, 0, none⟩) (j + 1) cg]) (by simp [results, Tryz.results71, go_sem, q1, q2]) rfl ⟨j, m, by omega, hm, g, cg, F, rfl, hF, (((ho.far (p := ⟨w.heap.size, 0, none⟩) (.inl zz5) _).far (p := ⟨w.heap.size, 1, none⟩) (.inl zz5) _).mono (by omega) (by simp [World.setCell])), Src.re H0.out KK s6 (set2_block _ _ _ (by omega)) (by simp [World.setCell]), KK⟩
/-- The slice value reads as the lists xss; the rows lie in blocks of their own. -/
def RdQ (w : World) (B : Nat) (v : Value) (xss : List (List Int)) : Prop :=
  ∃ A c, v = .slice A xss.length c ∧ xss.length ≤ c ∧ c ≤ maxLen ∧ ∀ k, k < xss.length → ∃ g off Ar cr, A = some ⟨g, off, none⟩ ∧ B ≤ g ∧ g < w.heap.size ∧ w.cell? ⟨g, off + k, none⟩ = some (.slice Ar (xss.getD k []).length cr) ∧ OwnI w B (.slice Ar (xss.getD k []).length cr) (xss.getD k [])
theorem RdQ.keep {w w' : World} {B : Nat} {v : Value} {xss : List (List Int)} (h : RdQ w B v xss) (hb : Below w.heap.size w w') : RdQ w' B v xss := by
  obtain ⟨A, c, h1, h2, h3, h4⟩ := h
  refine ⟨A, c, h1, h2, h3, fun k hk => ?_⟩
  obtain ⟨g, off, Ar, cr, h5, h9, h6, h7, h8⟩ := h4 k hk
  exact ⟨g, off, Ar, cr, h5, h9, Nat.lt_of_lt_of_le h6 hb.size, (hb.cell (p := ⟨g, off + k, none⟩) h6).trans h7, h8.keep hb (Nat.le_refl _)⟩
theorem RdQ.rd {w : World} {B : Nat} {v : Value} {xss : List (List Int)} (h : RdQ w B v xss) : RdP w v xss := by
  obtain ⟨A, c, h1, h2, h3, h4⟩ := h
  refine ⟨A, c, h1, h2, h3, fun k hk => ?_⟩
  obtain ⟨g, off, Ar, cr, h5, -, h6, h7, h8⟩ := h4 k hk
  exact ⟨g, off, _, h5, h6, h7, h8.rd⟩
theorem RdQ.form {w : World} {B : Nat} {v : Value} {xss : List (List Int)} (h : RdQ w B v xss) : ∃ A c, v = .slice A xss.length c := by
  obtain ⟨A, c, h1, _⟩ := h
  exact ⟨A, c, h1⟩
theorem OwnP.rdq {w : World} {lo hi : Nat} {v : Value} {xss : List (List Int)} (h : OwnP w lo hi v xss) : RdQ w lo v xss := by
  obtain ⟨A, c, rfl, h1, h2⟩ := h.form
  refine ⟨A, c, rfl, h1, h2, fun k hk => ?_⟩
  obtain ⟨g, c2, A2, c', e, h9, _, h5, h6, _, h7, _⟩ := h.row hk
  simp only [Value.slice.injEq] at e
  exact ⟨g, 0, A2, c', e.1, h9, h5, by rw [Nat.zero_add]; exact h6, h7⟩
/-- The rows from number d on, e of them. -/
theorem RdQ.part {w : World} {B g n c : Nat} {xss : List (List Int)} (h : RdQ w B (.slice (some ⟨g, 0, none⟩) n c) xss) (hn : xss.length = n) (d e : Nat) (hde : d + e ≤ n) (he : 1 ≤ e) : RdQ w B (.slice (some ⟨g, d, none⟩) e (c - d)) ((xss.drop d).take e) := by
  obtain ⟨A, c', h1, h2, h3, h4⟩ := h
  simp only [Value.slice.injEq] at h1
  obtain ⟨rfl, -, rfl⟩ := h1
  have hl : ((xss.drop d).take e).length = e := by rw [List.length_take, List.length_drop]; omega
  refine ⟨_, c - d, by rw [hl], by omega, by unfold maxLen at *; omega, fun k hk => ?_⟩
  rw [hl] at hk
  have hg : ((xss.drop d).take e).getD k [] = xss.getD (d + k) [] := by
    simp [List.getD_eq_getElem?_getD, hk]
  rw [hg]
  obtain ⟨g', off, Ar, cr, h5, h9, h6, h7, h8⟩ := h4 (d + k) (by omega)
  simp only [Option.some.injEq, Addr.mk.injEq, and_true] at h5
  obtain ⟨rfl, h5⟩ := h5
  exact ⟨g, d, Ar, cr, rfl, h9, h6, by rw [← h5, Nat.zero_add] at h7; exact h7, h8⟩
theorem RdQ.mono {w : World} {B B' : Nat} {v : Value} {xss : List (List Int)} (h : RdQ w B v xss) (hb : B' ≤ B) : RdQ w B' v xss := by
  obtain ⟨A, c, h1, h2, h3, h4⟩ := h
  refine ⟨A, c, h1, h2, h3, fun k hk => ?_⟩
  obtain ⟨g, off, Ar, cr, h5, h9, h6, h7, h8⟩ := h4 k hk
  exact ⟨g, off, Ar, cr, h5, by omega, h6, h7, h8.mono hb⟩
theorem RdQ.far {w : World} {B : Nat} {v : Value} {xss : List (List Int)} (h : RdQ w B v xss) {p : Addr} (hp : p.block < B) (u : Value) : RdQ (w.setCell p u) B v xss := by
  obtain ⟨A, c, h1, h2, h3, h4⟩ := h
  refine ⟨A, c, h1, h2, h3, fun k hk => ?_⟩
  obtain ⟨g, off, Ar, cr, h5, h9, h6, h7, h8⟩ := h4 k hk
  exact ⟨g, off, Ar, cr, h5, h9, by simpa [World.setCell] using h6, (World.cell?_of_block (a := ⟨g, off + k, none⟩) (Below.heap_setCell w p u g (by omega))).trans h7, h8.setCell_lt hp u⟩

/-- A plane of at most eleven rows of at most eleven numbers. -/
def PlB (xss : List (List Int)) : Prop := 1 ≤ xss.length ∧ xss.length ≤ 11 ∧ ∀ k, (xss.getD k []).length ≤ 11
/-- A drawn plane, its table perhaps a part of one. -/
def RetQ (w : World) (b : Nat) (v : Value) (n : Nat) (e : Ending) (w' : World) : Prop := ∃ (m : Int) (A : Option Addr) (c : Nat) (xss : List (List Int)), e = .returned (.agg #[.int .i64 m, .slice A xss.length c]) ∧ PlB xss ∧ RdQ w' w.heap.size (.slice A xss.length c) xss ∧ Src w' b v n ∧ Only b w w'
theorem PlB.tab {d : Nat} (F : Nat → Nat → Int) (hd : d ≤ 10) : PlB (tab (d + 1) F) := by
  refine ⟨by rw [length_tab]; omega, by rw [length_tab]; omega, fun k => ?_⟩
  have := tab_rowl (n := d + 1) (F := F) k
  omega
theorem PlB.part {xss : List (List Int)} (h : PlB xss) (d e : Nat) (he : 1 ≤ e) (hde : d + e ≤ xss.length) : PlB ((xss.drop d).take e) := by
  refine ⟨by rw [List.length_take, List.length_drop]; omega, by have := h.2.1; rw [List.length_take, List.length_drop]; omega, fun k => ?_⟩
  by_cases hk : k < e
  · have e2 : ((xss.drop d).take e).getD k [] = xss.getD (d + k) [] := by simp [List.getD_eq_getElem?_getD, hk]
    rw [e2]
    exact h.2.2 _
  · rw [List.getD_eq_getElem?_getD, List.getElem?_eq_none (by rw [List.length_take, List.length_drop]; omega)]
    simp
set_option maxRecDepth 8000 in
set_option maxHeartbeats 4000000 in
theorem l03Spoil_any (w : World) (b : Nat) (v : Value) (n : Nat) (hs : Src w b v n) (hn : n ≤ 1000000000) :
    Calls Tryz.prog 42 #[.pointer (some ⟨b, 0, none⟩)] w (RetQ w b v n) := by
  have hbl := hs.lt
  have H0 := Lib.hid hs.1
  have s0 := hs.alloc (.cells #[.int .i64 0, .slice none 0 0] 36)
  have K0 := (Only.refl b w).alloc (.cells #[.int .i64 0, .slice none 0 0] 36)
  clear hs
  have FIN : Hid (∀ (W : World) (m : Int) (lo hi g c d off e : Nat) (F : Nat → Nat → Int), w.heap.size < lo → 1 ≤ e → off + e ≤ d + 1 → d ≤ 10 → OwnP W lo hi (.slice (some ⟨g, 0, none⟩) (d + 1) c) (tab (d + 1) F) → Bf W w.heap.size (.int .i64 0) (.slice none 0 0) → Src W b v n → Only b w W → RetQ w b v n (.returned (.agg #[.int .i64 m, .slice (some ⟨g, off, none⟩) e (c - off)])) ((W.setCell ⟨w.heap.size, 0, none⟩ (.int .i64 m)).setCell ⟨w.heap.size, 1, none⟩ (.slice (some ⟨g, off, none⟩) e (c - off)))) := fun W m lo hi g c d off e F hlo he hoe hd hO hB hS hK => by
    have KK : Only b w ((W.setCell ⟨w.heap.size, 0, none⟩ (.int .i64 m)).setCell ⟨w.heap.size, 1, none⟩ (.slice (some ⟨g, off, none⟩) e (c - off))) := (hK.setNew (p := ⟨w.heap.size, 0, none⟩) (Nat.le_refl _) _).setNew (p := ⟨w.heap.size, 1, none⟩) (Nat.le_refl _) _
    have OO := (((hO.far (p := ⟨w.heap.size, 0, none⟩) (.inl hlo) (.int .i64 m)).far (p := ⟨w.heap.size, 1, none⟩) (.inl hlo) (.slice (some ⟨g, off, none⟩) e (c - off))).rdq).part (length_tab _ _) off e hoe he
    have PP := (PlB.tab (d := d) F hd).part off e he (by rw [length_tab]; omega)
    have hl : (((tab (d + 1) F).drop off).take e).length = e := by rw [List.length_take, List.length_drop, length_tab]; omega
    exact ⟨m, _, _, _, by rw [hl], PP, by rw [hl]; exact OO.mono (by omega), Src.re H0.out KK hS (set2_block _ _ _ (by omega)) (by simp [World.setCell]), KK⟩
  go_enter Tryz.func42, Tryz.ntmps42
  go_wp2_with (fail)
  refine (l03Draw_any _ b v n s0 hn).mono ?_
  rintro e w2 ⟨d, m, hd, hm, g, c2, F, rfl, hF, ho, s2, o2⟩
  have P2 := (Bf.alloc1 w (.int .i64 0) (.slice none 0 0) 36).only o2 (by omega)
  have K2 := K0.trans o2
  have zP := P2.1.1
  have ho : OwnP w2 (w.heap.size + 1) w2.heap.size (.slice (some ⟨g, 0, none⟩) (d + 1) c2) (tab (d + 1) F) := ho.mono (by simp) (Nat.le_refl _)
  obtain ⟨b2, hb2⟩ : ∃ b2, b2 = w2.heap.size := ⟨_, rfl⟩
  have hQ2 : Bf (w2.alloc (.cells #[.int .i64 m, .slice (some ⟨g, 0, none⟩) (d + 1) c2] 36)) b2 (.int .i64 m) (.slice (some ⟨g, 0, none⟩) (d + 1) c2) := by rw [hb2]; exact Bf.alloc1 w2 _ _ _
  have HO2 : Hid (OwnP w2 (w.heap.size + 1) b2 (.slice (some ⟨g, 0, none⟩) (d + 1) c2) (tab (d + 1) F)) := by unfold Hid; rw [hb2]; exact ho
  have hout := HO2.out.outer
  have hcc : d + 1 ≤ c2 := by
    obtain ⟨A, c, e, h1, -⟩ := HO2.out.form
    rw [length_tab] at e h1
    simp only [Value.slice.injEq] at e
    omega
  have HP2 := Lib.hid P2
  have HS2 := Lib.hid s2
  have HK2 := Lib.hid K2
  clear K0 o2 s0 ho P2 s2 K2 hF
  go_wp2_with (fail)
  rw [← hb2]
  refine (l01Next_any _ b v n 30 (HS2.out.alloc _) hn (by omega)).mono ?_
  rintro e w3 ⟨x, rfl, hx0, hx3, s3, o3⟩
  have hx3 := hx3.1 (by omega)
  have HR3 := Lib.hid ((HO2.out.alloc (.cells #[.int .i64 m, .slice (some ⟨g, 0, none⟩) (d + 1) c2] 36)).only o3 (by omega))
  have HP3 := Lib.hid ((HP2.out.al (.cells #[.int .i64 m, .slice (some ⟨g, 0, none⟩) (d + 1) c2] 36)).only o3 (by omega))
  have HQ3 := Lib.hid (hQ2.only o3 (by omega))
  have HS3 := Lib.hid s3
  have HK3 := Lib.hid ((HK2.out.alloc _).trans o3)
  have hz3 : b2 < w3.heap.size := HQ3.out.1.1
  have hwb : w.heap.size < b2 := by omega
  clear hQ2 o3 s3 HO2 HP2 HS2 HK2 hb2 zP
  have q3a := HQ3.out.1.2.1
  have q3b := HQ3.out.1.2.2
  have q3c := HQ3.out.2.1
  have q3d := HQ3.out.2.2
  have p3a := HP3.out.1.2.1
  have p3b := HP3.out.1.2.2
  have p3c := HP3.out.2.1
  have p3d := HP3.out.2.2
  have hgb : g < b2 := hout.2.1
  have hgl0 : w.heap.size + 1 ≤ g := hout.1
  clear hout
  obtain rfl | rfl | rfl | rfl | hx4 : x = 0 ∨ x = 1 ∨ x = 2 ∨ x = 3 ∨ 4 ≤ x := by omega
  · go_wp2_with (fail)
    refine (l01Pick_any _ b v _ n w3.heap.size [0, 1, 10001, 2] (HS3.out.alloc _) hn (OwnI.litN w3 _ _ (by rfl) (by simp [maxLen]) (Nat.le_refl _)) HS3.out.lt (by simp) (by simp) (fun _ => True) (fun _ _ => True.intro)).mono ?_
    rintro e w4 ⟨x4, rfl, -, s4, o4⟩
    have HR4 := Lib.hid ((HR3.out.alloc (.cells #[.int .i64 0, .int .i64 1, .int .i64 10001, .int .i64 2] 2)).only o4 (by omega))
    have HP4 := Lib.hid ((HP3.out.al (.cells #[.int .i64 0, .int .i64 1, .int .i64 10001, .int .i64 2] 2)).only o4 (by omega))
    have HQ4 := Lib.hid ((HQ3.out.al (.cells #[.int .i64 0, .int .i64 1, .int .i64 10001, .int .i64 2] 2)).only o4 (by omega))
    have HK4 := Lib.hid ((HK3.out.alloc _).trans o4)
    have q4a := HQ4.out.1.2.1
    have q4b := HQ4.out.1.2.2
    have q4c := HQ4.out.2.1
    have q4d := HQ4.out.2.2
    have p4a := HP4.out.1.2.1
    have p4b := HP4.out.1.2.2
    have p4c := HP4.out.2.1
    have p4d := HP4.out.2.2
    clear q3a q3b q3c q3d p3a p3b p3c p3d o4
    go_wp2_with (fail)
    have KK : Only b w (w4.setCell ⟨b2, 0, none⟩ (.int .i64 x4)) := HK4.out.setNew (p := ⟨b2, 0, none⟩) (by show w.heap.size ≤ b2; omega) _
    have PP : Bf (w4.setCell ⟨b2, 0, none⟩ (.int .i64 x4)) w.heap.size (.int .i64 0) (.slice none 0 0) := HP4.out.setCell (p := ⟨b2, 0, none⟩) (by show b2 ≠ w.heap.size; omega) _
    have FF := FIN.out _ x4 (w.heap.size + 1) b2 g c2 d 0 (d + 1) F (by omega) (by omega) (by omega) (by omega) (HR4.out.far (p := ⟨b2, 0, none⟩) (.inr (Nat.le_refl _)) _) PP (Src.re H0.out KK s4 (Below.heap_setCell _ ⟨b2, 0, none⟩ _ _ (by show b ≠ b2; omega)) (by simp [World.setCell])) KK
    rw [Nat.sub_zero] at FF
    have Q := PP.put2 (x' := .int .i64 x4) (y' := .slice (some ⟨g, 0, none⟩) (d + 1) c2)
    have q1 := Q.1.2.1
    have q2 := Q.1.2.2
    exact bodyPost_ret (v := .agg #[.int .i64 x4, .slice (some ⟨g, 0, none⟩) (d + 1) c2]) (by simp [results, Tryz.results42, go_sem, q1, q2]) rfl FF
  · have hl2 : (1 : Int) ≤ (c2 : Int) := by omega
    go_wp2_with (fail)
    have KK : Only b w (w3.setCell ⟨b2, 1, none⟩ (.slice (some ⟨g, 0, none⟩) 1 c2)) := HK3.out.setNew (p := ⟨b2, 1, none⟩) (by show w.heap.size ≤ b2; omega) _
    have PP : Bf (w3.setCell ⟨b2, 1, none⟩ (.slice (some ⟨g, 0, none⟩) 1 c2)) w.heap.size (.int .i64 0) (.slice none 0 0) := HP3.out.setCell (p := ⟨b2, 1, none⟩) (by show b2 ≠ w.heap.size; omega) _
    have FF := FIN.out _ m (w.heap.size + 1) b2 g c2 d 0 1 F (by omega) (by omega) (by omega) (by omega) (HR3.out.far (p := ⟨b2, 1, none⟩) (.inr (Nat.le_refl _)) (.slice (some ⟨g, 0, none⟩) 1 c2)) PP (Src.re H0.out KK HS3.out (Below.heap_setCell _ ⟨b2, 1, none⟩ _ _ (by show b ≠ b2; omega)) (by simp [World.setCell])) KK
    rw [Nat.sub_zero] at FF
    have Q := PP.put2 (x' := .int .i64 m) (y' := .slice (some ⟨g, 0, none⟩) 1 c2)
    have q1 := Q.1.2.1
    have q2 := Q.1.2.2
    exact bodyPost_ret (v := .agg #[.int .i64 m, .slice (some ⟨g, 0, none⟩) 1 c2]) (by simp [results, Tryz.results42, go_sem, q1, q2]) rfl FF
  · have hl2 : (1 : Int) ≤ (d : Int) + 1 := by omega
    go_wp2_with (fail)
    have KK : Only b w (w3.setCell ⟨b2, 1, none⟩ (.slice (some ⟨g, 1, none⟩) d (c2 - 1))) := HK3.out.setNew (p := ⟨b2, 1, none⟩) (by show w.heap.size ≤ b2; omega) _
    have PP : Bf (w3.setCell ⟨b2, 1, none⟩ (.slice (some ⟨g, 1, none⟩) d (c2 - 1))) w.heap.size (.int .i64 0) (.slice none 0 0) := HP3.out.setCell (p := ⟨b2, 1, none⟩) (by show b2 ≠ w.heap.size; omega) _
    have FF := FIN.out _ m (w.heap.size + 1) b2 g c2 d 1 d F (by omega) (by omega) (by omega) (by omega) (HR3.out.far (p := ⟨b2, 1, none⟩) (.inr (Nat.le_refl _)) (.slice (some ⟨g, 1, none⟩) d (c2 - 1))) PP (Src.re H0.out KK HS3.out (Below.heap_setCell _ ⟨b2, 1, none⟩ _ _ (by show b ≠ b2; omega)) (by simp [World.setCell])) KK
    skip
    have Q := PP.put2 (x' := .int .i64 m) (y' := .slice (some ⟨g, 1, none⟩) d (c2 - 1))
    have q1 := Q.1.2.1
    have q2 := Q.1.2.2
    exact bodyPost_ret (v := .agg #[.int .i64 m, .slice (some ⟨g, 1, none⟩) d (c2 - 1)]) (by simp [results, Tryz.results42, go_sem, q1, q2]) rfl FF
  · have S3D := Lib.hid (Src.drew HS3.out)
    have R3D : Hid (OwnP w3.drew (w.heap.size + 1) b2 (.slice (some ⟨g, 0, none⟩) (d + 1) c2) (tab (d + 1) F)) := HR3.out
    have Q3D : Hid (Bf w3.drew b2 (.int .i64 m) (.slice (some ⟨g, 0, none⟩) (d + 1) c2)) := HQ3.out
    have P3D : Hid (Bf w3.drew w.heap.size (.int .i64 0) (.slice none 0 0)) := HP3.out
    have K3D := Lib.hid (Only.drew HK3.out)
    go_upto_region 10 with fail
    go_region_law (go_simp; go_at_call 36; refine (l01Next_any _ b v n ((d : Int) + 1) S3D.out hn (by omega)).mono ?_; rintro e w5 ⟨x5, rfl, h5, h6, s5, o5⟩; have h6 := h6.1 (by omega); obtain ⟨k5, rfl⟩ := Int.eq_ofNat_of_zero_le h5; have HR5 := Lib.hid (R3D.out.only o5 (by omega)); obtain ⟨gr, cr, hcr, hne, hgl, hgh, hgz, hv0, hf0, hset⟩ := HR5.out.putZ (i := k5) (j := 0) (by omega); have HQ5 := Lib.hid (Q3D.out.only o5 (by omega)); have q5a := HQ5.out.1.2.1; have q5b := HQ5.out.1.2.2)
    all_goals
      have HP5 := Lib.hid (P3D.out.only o5 (by omega))
      have HK5 := Lib.hid (K3D.out.trans o5)
      have hbg : g < w5.heap.size := by have := HR5.out.outer; omega
      have hn0 : 0 < d + 1 - k5 := by omega
      obtain ⟨ra, hra⟩ : ∃ ra, d + 1 - k5 = ra := ⟨_, rfl⟩
      rw [hra] at hcr hn0 ⊢
      have hn1 : (0 : Int) < (ra : Int) := by omega
      clear q3a q3b q3c q3d p3a p3b p3c p3d o5 hset
      go_wp2_with (fail)
      refine (l01Pick_any _ b v _ n w5.heap.size [-1, m, 1099511627776] (s5.alloc _) hn (OwnI.litN w5 _ _ (by rfl) (by simp [maxLen]) (Nat.le_refl _)) s5.lt (by simp) (by simp) (fun _ => True) (fun _ _ => True.intro)).mono ?_
      rintro e w6 ⟨x6, rfl, -, s6, o6⟩
      have BA := (Below.refl w5.heap.size w5).alloc (Nat.le_refl _) (.cells #[.int .i64 (-1), .int .i64 m, .int .i64 1099511627776] 2)
      have HR6 := Lib.hid ((HR5.out.alloc (.cells #[.int .i64 (-1), .int .i64 m, .int .i64 1099511627776] 2)).only o6 (by omega))
      have HP6 := Lib.hid ((HP5.out.al (.cells #[.int .i64 (-1), .int .i64 m, .int .i64 1099511627776] 2)).only o6 (by omega))
      have HQ6 := Lib.hid ((HQ5.out.al (.cells #[.int .i64 (-1), .int .i64 m, .int .i64 1099511627776] 2)).only o6 (by omega))
      have HK6 := Lib.hid ((HK5.out.alloc _).trans o6)
      have hcr6 := (o6.cell (p := ⟨g, k5, none⟩) (by simp; omega) (by show g ≠ b; omega)).trans ((BA.cell (p := ⟨g, k5, none⟩) hbg).trans hcr)
      obtain ⟨gr', cr', hcr', hne', hgl', hgh', hgz', hv', hf', hset'⟩ := HR6.out.putZ (i := k5) (j := 0) (by omega)
      rw [hcr6] at hcr'
      simp only [Option.some.injEq, Value.slice.injEq, Addr.mk.injEq] at hcr'
      obtain ⟨⟨rfl, -⟩, -, -⟩ := hcr'
      have HW6 := Lib.hid (hset' x6)
      clear q5a q5b hcr hv0 hf0 o6 BA hset' hcr6
      have KK : Only b w (w6.setCell ⟨gr, 0, none⟩ (.int .i64 x6)) := HK6.out.setNew (p := ⟨gr, 0, none⟩) (by show w.heap.size ≤ gr; omega) _
      have PP : Bf (w6.setCell ⟨gr, 0, none⟩ (.int .i64 x6)) w.heap.size (.int .i64 0) (.slice none 0 0) := HP6.out.setCell (p := ⟨gr, 0, none⟩) (by show gr ≠ w.heap.size; omega) _
      have QQ : Bf (w6.setCell ⟨gr, 0, none⟩ (.int .i64 x6)) b2 (.int .i64 m) (.slice (some ⟨g, 0, none⟩) (d + 1) c2) := HQ6.out.setCell (p := ⟨gr, 0, none⟩) (by show gr ≠ b2; omega) _
      have FF := FIN.out _ m (w.heap.size + 1) b2 g c2 d 0 (d + 1) _ (by omega) (by omega) (by omega) (by omega) HW6.out PP (Src.re H0.out KK s6 (Below.heap_setCell _ ⟨gr, 0, none⟩ _ _ (by show b ≠ gr; omega)) (by simp [World.setCell])) KK
      rw [Nat.sub_zero] at FF
      have q7a := QQ.1.2.1
      have q7b := QQ.1.2.2
      have p7a := PP.1.2.1
      have p7b := PP.1.2.2
      have p7c := PP.2.1
      have p7d := PP.2.2
      go_wp2_with (fail)
      have Q := PP.put2 (x' := .int .i64 m) (y' := .slice (some ⟨g, 0, none⟩) (d + 1) c2)
      have q1 := Q.1.2.1
      have q2 := Q.1.2.2
      exact bodyPost_ret (v := .agg #[.int .i64 m, .slice (some ⟨g, 0, none⟩) (d + 1) c2]) (by simp [results, Tryz.results42, go_sem, q1, q2]) rfl FF
  · have x0 : (x == 0) = false := beq_eq_false_iff_ne.2 (by omega)
    have x1 : (x == 1) = false := beq_eq_false_iff_ne.2 (by omega)
    have x2 : (x == 2) = false := beq_eq_false_iff_ne.2 (by omega)
    have x3 : (x == 3) = false := beq_eq_false_iff_ne.2 (by omega)
    go_wp2_with (fail)
    have FF := FIN.out _ m (w.heap.size + 1) b2 g c2 d 0 (d + 1) F (by omega) (by omega) (by omega) (by omega) HR3.out HP3.out HS3.out HK3.out
    rw [Nat.sub_zero] at FF
    have Q := HP3.out.put2 (x' := .int .i64 m) (y' := .slice (some ⟨g, 0, none⟩) (d + 1) c2)
    have q1 := Q.1.2.1
    have q2 := Q.1.2.2
    exact bodyPost_ret (v := .agg #[.int .i64 m, .slice (some ⟨g, 0, none⟩) (d + 1) c2]) (by simp [results, Tryz.results42, go_sem, q1, q2]) rfl FF
/-- A new plane is returned, its table perhaps a part of one. -/
def NewQ (w : World) (e : Ending) (w' : World) : Prop := ∃ (m : Int) (A : Option Addr) (c : Nat) (xss : List (List Int)), e = .returned (.agg #[.int .i64 m, .slice A xss.length c]) ∧ PlB xss ∧ RdQ w' w.heap.size (.slice A xss.length c) xss ∧ Below w.heap.size w w'
set_option maxRecDepth 4000 in
set_option maxHeartbeats 4000000 in
theorem DrawPlaneText_any (w : World) (v : Value) (n : Nat) (hv : RdY w w.heap.size v n) (hn : n ≤ 4096) : Calls Tryz.prog 12 #[v] w (NewQ w) := by
  obtain ⟨A, c, e0, _⟩ := id hv
  subst e0
  have hv1 : RdY (w.alloc (.cells #[.int .i64 0, .slice none 0 0] 36)) (w.alloc (.cells #[.int .i64 0, .slice none 0 0] 36)).heap.size (.slice A n c) n := by
    obtain ⟨A', c', h1, h2, h3, h4⟩ := hv
    refine ⟨A', c', h1, h2, h3, fun k hk => ?_⟩
    obtain ⟨g, off, x, e, hg, hb, hc, hx⟩ := h4 k hk
    exact ⟨g, off, x, e, by simp; omega, by simp; omega, (((Below.refl w.heap.size w).alloc (Nat.le_refl _) _).cell (p := ⟨g, off + k, none⟩) hg).trans hc, hx⟩
  go_enter Tryz.func12, Tryz.ntmps12
  go_wp2_with (fail)
  refine (l01From_any _ _ n hv1 (by omega)).mono ?_
  rintro e w1 ⟨b, rfl, hb, s1, B1⟩
  go_wp2_with (fail)
  refine (l03Spoil_any _ b _ n s1 (by omega)).mono ?_
  rintro e w2 ⟨m, A2, c2, xss, rfl, hlx, ox, s2, o2⟩
  simp at hb
  have P1 := (Bf.alloc1 w (.int .i64 0) (.slice none 0 0) 36).keep B1
  have P2 := P1.only o2 (by omega)
  have z1 := P1.1.1
  have K1 : Below w.heap.size w w1 := (below_alloc1 w _).trans (B1.mono (by simp))
  have K2 := Only.behind K1 o2 (by omega) K1.size
  have p2a := P2.1.2.1
  have p2b := P2.1.2.2
  have p2c := P2.2.1
  have p2d := P2.2.2
  go_wp2_with (fail)
  have Q := P2.put2 (x' := .int .i64 m) (y' := .slice A2 xss.length c2)
  have q1 := Q.1.2.1
  have q2 := Q.1.2.2
  exact bodyPost_ret (v := .agg #[.int .i64 m, .slice A2 xss.length c2]) (by simp [results, Tryz.results12, go_sem, q1, q2]) rfl ⟨m, A2, c2, xss, rfl, hlx, ((ox.far (p := ⟨w.heap.size, 0, none⟩) z1 _).far (p := ⟨w.heap.size, 1, none⟩) z1 _).mono (by omega), (K2.setCell (p := ⟨w.heap.size, 0, none⟩) (Nat.le_refl _) _).setCell (p := ⟨w.heap.size, 1, none⟩) (Nat.le_refl _) _⟩

end Go.Proofs.YtglbccikdglcgaaGreatDoor
