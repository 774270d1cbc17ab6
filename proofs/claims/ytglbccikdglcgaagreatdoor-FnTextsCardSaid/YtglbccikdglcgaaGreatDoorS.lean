/- Contracts over this seat's translation. Condition: each contract's own. -/
import Derived.Test.YtglbccikdglcgaaGreatDoorW
import Derived.Test.YtglbccikdglcgaaGreatDoorH
import Derived.ProofKit
import Derived.Laws.Bits64b
import Derived.Lib.Mul64
import Derived.OpenShut
import Derived.Below
import Derived.ChangeSame
import Derived.Deep.Modes
import Derived.Lib.SmallJoins
import Derived.ChangeSlices
import Derived.WalkKit
import Derived.WalkSpells
import Derived.WalkLawsBesides
import Derived.Deep.QuietTactic
import Derived.BigQuiet
import Derived.Deep.RegionHeld3
import Derived.Deep.RegionWith
import Derived.Deep.RegionLaw
import Derived.Deep.AppendLies
import Derived.Laws.CopyOwn
import Derived.Deep.DeepCutAuto
import Derived.Deep.OwnRows
import Derived.Deep.LoopGhost
import Derived.Deep.DeepFit
import Derived.Deep.DeepMust
import Derived.Deep.Draws
import Derived.Deep.CutRange
import Derived.Maps.AppendAt
import Derived.Lib.Hide
import Derived.StillTailTactics
import Derived.Laws.MakeOwn
import Derived.Deep.Matrix
import Derived.ChangeAgain
import Derived.SizedLaws
import Derived.Handed
import Derived.Lib.SplitLaws
import Derived.Lib.ParseIntB
import Derived.Lib.ItoaMem
import Derived.Lib.ItoaLen
import Derived.Laws.BytesArg
import Derived.Lib.Join
import Derived.Lib.IndexBytes
set_option linter.unusedVariables false
open Go Go.RowKit
namespace Go.Proofs.YtglbccikdglcgaaGreatDoor
/-! ### The source with its state told: for the loop of damages -/
theorem lcY_lt (x : Nat) : lcY x < 16777216 := by unfold lcY; omega
/-- The source in block b, the code read as far as a, the hash h. -/
def SrcX (w : World) (b : Nat) (v : Value) (n a h : Nat) : Prop :=
  RdY w b v n ∧ b < w.heap.size ∧ w.cell? ⟨b, 0, none⟩ = some v ∧ (a ≤ n ∧ w.cell? ⟨b, 1, none⟩ = some (.int .i64 (a : Int))) ∧ (h < 18446744073709551616 ∧ w.cell? ⟨b, 2, none⟩ = some (.int .u64 (h : Int))) ∧
    w.frozen? ⟨b, 1, none⟩ = false ∧ w.frozen? ⟨b, 2, none⟩ = false
theorem SrcX.src {w : World} {b : Nat} {v : Value} {n a h : Nat} (s : SrcX w b v n a h) : Src w b v n := by
  obtain ⟨r, hb, c0, ⟨ha, c1⟩, ⟨hh, c2⟩, f⟩ := s
  exact ⟨r, hb, c0, ⟨a, ha, c1⟩, ⟨h, by omega, by omega, c2⟩, f⟩
theorem Src.x {w : World} {b : Nat} {v : Value} {n : Nat} (s : Src w b v n) : ∃ a h, SrcX w b v n a h := by
  obtain ⟨r, hb, c0, ⟨a, ha, c1⟩, ⟨h, h0, h1, c2⟩, f⟩ := s
  obtain ⟨k, rfl⟩ := Int.eq_ofNat_of_zero_le h0
  exact ⟨a, k, r, hb, c0, ⟨ha, c1⟩, ⟨by omega, c2⟩, f⟩
theorem SrcX.keep {w w' : World} {b : Nat} {v : Value} {n a h : Nat} (s : SrcX w b v n a h) (R : Below w.heap.size w w') : SrcX w' b v n a h := by
  obtain ⟨h1, h2, h3, ⟨hk, h4⟩, ⟨hx, h5⟩, h6, h7⟩ := s
  exact ⟨h1.only (Only.ofBelow R), Nat.lt_of_lt_of_le h2 R.size, (R.cell (p := ⟨b, 0, none⟩) h2).trans h3, ⟨hk, (R.cell (p := ⟨b, 1, none⟩) h2).trans h4⟩, ⟨hx, (R.cell (p := ⟨b, 2, none⟩) h2).trans h5⟩,
    (R.frozen (p := ⟨b, 1, none⟩) h2).trans h6, (R.frozen (p := ⟨b, 2, none⟩) h2).trans h7⟩
theorem SrcX.alloc {w : World} {b : Nat} {v : Value} {n a h : Nat} (s : SrcX w b v n a h) (o : Obj) : SrcX (w.alloc o) b v n a h := s.keep ((Below.refl _ _).alloc (Nat.le_refl _) _)
theorem SrcX.drewN {w : World} {b : Nat} {v : Value} {n a h : Nat} (s : SrcX w b v n a h) (k : Nat) : SrcX (w.drewN k) b v n a h := s
theorem SrcX.hash {w : World} {b : Nat} {v : Value} {n a h : Nat} (s : SrcX w b v n a h) {x : Nat} (h1 : x < 18446744073709551616) : SrcX (w.setCell ⟨b, 2, none⟩ (.int .u64 (x : Int))) b v n a x := by
  obtain ⟨r, hb, c0, ⟨hk, c1⟩, ⟨_, c2⟩, f1, f2⟩ := s
  refine ⟨r.only ((Only.refl b w).setCell rfl _), by simpa [World.setCell] using hb, ?_, ⟨hk, ?_⟩, ⟨h1, World.cell?_setCell_same w _ _ c2⟩, by simpa using f1, by simpa using f2⟩
  · rw [World.cell?_setCell_other w _ _ _ (by simp)]; exact c0
  · rw [World.cell?_setCell_other w _ _ _ (by simp)]; exact c1
theorem SrcX.step {w : World} {b : Nat} {v : Value} {n a h : Nat} (s : SrcX w b v n a h) {k : Nat} (hk : k ≤ n) : SrcX (w.setCell ⟨b, 1, none⟩ (.int .i64 (k : Int))) b v n k h := by
  obtain ⟨r, hb, c0, ⟨_, c1⟩, ⟨hh, c2⟩, f1, f2⟩ := s
  refine ⟨r.only ((Only.refl b w).setCell rfl _), by simpa [World.setCell] using hb, ?_, ⟨hk, World.cell?_setCell_same w _ _ c1⟩, ⟨hh, ?_⟩, by simpa using f1, by simpa using f2⟩
  · rw [World.cell?_setCell_other w _ _ _ (by simp)]; exact c0
  · rw [World.cell?_setCell_other w _ _ _ (by simp)]; exact c2
theorem u64_mod (n : Int) : IntKind.u64.wrap n = n % 18446744073709551616 := by simp [IntKind.wrap, IntKind.bits, IntKind.signed]
theorem lcF_wrap (h : Nat) : IntKind.u64.wrap (IntKind.u64.wrap ((h : Int) * 6364136223846793005) + 1442695040888963407) = ((lcF h : Nat) : Int) := by
  rw [u64_mod, u64_mod]
  unfold lcF
  omega
theorem lcY_bits (x : Nat) (hx : x < 18446744073709551616) : bits BinOp.and IntKind.u64 ((x : Int) / 8589934592) 16777215 = ((lcY x : Nat) : Int) := by
  have e : (x : Int) / 8589934592 = ((x / 8589934592 : Nat) : Int) := by omega
  rw [e, show (16777215 : Int) = ((16777215 : Nat) : Int) from rfl, bits_and_u64_nat _ 16777215 (by omega) (by decide)]
  unfold lcY
  rw [show (16777215 : Nat) = 2 ^ 24 - 1 by decide, Nat.and_two_pow_sub_one_eq_mod]
set_option maxHeartbeats 1000000 in
theorem l01Next_x (w : World) (b : Nat) (v : Value) (n a h H Y : Nat) (k : Int) (hH : lcF h = H) (hY : lcY H = Y) (hs : SrcX w b v n a h) (_hn : n ≤ 1000000000) (hk0 : 1 ≤ k) (hk : k ≤ 9000000000000000000) :
    Calls Tryz.prog 36 #[.pointer (some ⟨b, 0, none⟩), .int .i64 k] w fun e w' => ∃ x : Int, e = .returned (.int .i64 x) ∧ 0 ≤ x ∧ x < k ∧ (a = n → x = (Y : Int) % k) ∧ SrcX w' b v n (min (a + 1) n) H ∧ Only b w w' := by
  obtain ⟨⟨A, c, rfl, hc1, hc2, hA⟩, hb, c0, ⟨ha, c1⟩, ⟨hx', c2⟩, f1, f2⟩ := id hs
  have hw := lcF_wrap h
  have hlt := lcF_lt h
  have hyb := lcY_bits (lcF h) hlt
  have hyl : lcY (lcF h) < 16777216 := lcY_lt _
  rw [hH] at hw hlt hyb hyl
  rw [hY] at hyb hyl
  obtain ⟨x, hx⟩ : ∃ x : Int, (h : Int) = x := ⟨_, rfl⟩
  obtain ⟨Z, hZ⟩ : ∃ Z : Int, (H : Int) = Z := ⟨_, rfl⟩
  rw [hx] at hw c2
  rw [hZ] at hw hyb
  have HZ := Lib.hid hZ
  obtain ⟨U, hU⟩ : ∃ U : Int, (Y : Int) = U := ⟨_, rfl⟩
  rw [hU] at hyb
  have hub : 0 ≤ U ∧ U < 16777216 := by omega
  rw [hU]
  clear hU hyl
  have hzb : 0 ≤ Z ∧ Z < 18446744073709551616 := by omega
  clear hH hY hZ hx hx'
  have hY2 : wrap64 U = U := IntWalk.wrap64_in _ (by omega)
  have hd1 : decide (k < 1) = false := by simp; omega
  have hk00 : ¬ k = 0 := by omega
  unfold maxLen at hc2
  have hHid := Lib.hid hs
  clear hs
  by_cases hltn : a < n
  · obtain ⟨g, off, y, rfl, hg, hgb, hcell, hy, hy'⟩ := hA a hltn
    clear hA
    have hlt1 : (a : Int) < (n : Int) := by omega
    have hlt0 : (0 : Int) ≤ (a : Int) := by omega
    have hv1 : wrap64 y = y := IntWalk.wrap64_in _ (by omega)
    have hv2 : IntKind.i64.wrap (U + y) = U + y := IntWalk.i64_in _ (by omega)
    have hv3 : IntKind.i64.wrap ((a : Int) + 1) = (a : Int) + 1 := IntWalk.i64_in _ (by omega)
    have ne1 : (⟨b, 2, none⟩ : Addr) ≠ ⟨b, 1, none⟩ := by simp
    have ne2 : (⟨b, 2, none⟩ : Addr) ≠ ⟨b, 0, none⟩ := by simp
    have ne3 : (⟨b, 2, none⟩ : Addr) ≠ ⟨g, off + a, none⟩ := by first | (simp; done) | (simp; omega)
    have hr1 := Int.emod_nonneg (U + y) hk00
    have hr2 := Int.emod_lt_of_pos (U + y) (show 0 < k by omega)
    have hr3 : (U + y).tmod k = (U + y) % k := Int.tmod_eq_emod_of_nonneg (by omega)
    go_enter Tryz.func36, Tryz.ntmps36
    go_wp2
    go_quiet (fail)
    go_wp2
    go_quiet (fail)
    go_wp2
    go_ret
    rw [← HZ.out]
    refine ⟨_, rfl, hr1, hr2, fun e => absurd e (by omega), ?_, (((Only.refl b w).setCell (p := ⟨b, 2, none⟩) rfl _).drewN _).setCell (p := ⟨b, 1, none⟩) rfl _⟩
    rw [show min (a + 1) n = a + 1 by omega]
    exact SrcX.step (k := a + 1) (SrcX.drewN (hHid.out.hash hlt) _) (by omega)
  · have han : a = n := by omega
    have hlt1 : decide ((a : Int) < (n : Int)) = false := by simp; omega
    clear hA
    have ne1 : (⟨b, 2, none⟩ : Addr) ≠ ⟨b, 1, none⟩ := by simp
    have ne2 : (⟨b, 2, none⟩ : Addr) ≠ ⟨b, 0, none⟩ := by simp
    have hr1 := Int.emod_nonneg U hk00
    have hr2 := Int.emod_lt_of_pos U (show 0 < k by omega)
    have hr3 : U.tmod k = U % k := Int.tmod_eq_emod_of_nonneg (by omega)
    go_enter Tryz.func36, Tryz.ntmps36
    go_wp2
    go_quiet (fail)
    go_wp2
    go_ret
    rw [← HZ.out]
    refine ⟨_, rfl, hr1, hr2, fun _ => rfl, ?_, ((Only.refl b w).setCell (p := ⟨b, 2, none⟩) rfl _).drewN _⟩
    rw [show min (a + 1) n = a by omega]
    exact SrcX.drewN (hHid.out.hash hlt) _

/-! ### The loop of damages -/
def signT : List ByteArray := [48, 49, 50, 51, 53, 57, 45, 43, 47, 124, 44, 59, 58, 32, 97, 116, 120, 121, 10].map fun c => ⟨#[c]⟩
theorem signT_size : ∀ k, k < 19 → (signT.getD k ByteArray.empty).size = 1 := by decide
theorem signT_lit (w : World) (cs : Array Value) (hc : cs.toList = signT.map Value.string) : OwnT (w.alloc (.cells cs 9)) w.heap.size (.slice (some ⟨w.heap.size, 0, none⟩) 19 19) signT := by
  unfold OwnT
  rw [← hc]
  exact World.ownsRow_lit w cs 19 (Nat.le_refl _) (by unfold maxLen; omega) (by rw [← Array.length_toList, hc]; rfl)
set_option maxRecDepth 20000 in
set_option maxHeartbeats 2000000 in
theorem l01Damage_x (w : World) (b : Nat) (v : Value) (n a h H1 H2 H3 : Nat) (S : ByteArray) (hH1 : lcF h = H1) (hH2 : lcF H1 = H2) (hH3 : lcF H2 = H3) (hs : SrcX w b v n a h) (hn : n ≤ 1000000000) (hS : S.size ≤ 900000000) :
    Calls Tryz.prog 37 #[.pointer (some ⟨b, 0, none⟩), .string S] w fun e w' => ∃ T : ByteArray, e = .returned (.string T) ∧ (S.size = 0 → T.size = 1 ∧ SrcX w' b v n (min (a + 1) n) H1) ∧ (S.size ≠ 0 → T.size ≤ S.size + 1 ∧ SrcX w' b v n (min (min (min (a + 1) n + 1) n + 1) n) H3) ∧ Only b w w' := by
  have HH1 := Lib.hid hH1
  have HH2 := Lib.hid hH2
  have HH3 := Lib.hid hH3
  have HS := Lib.hid hs
  have hbz := hs.2.1
  clear hH1 hH2 hH3 hs
  by_cases h0 : S.size = 0
  · have h00 : ((S.size : Int) == 0) = true := by simp [h0]
    go_enter Tryz.func37, Tryz.ntmps37
    go_wp2_with (fail)
    generalize hwa : w.alloc _ = wa
    have HTX : Hid (OwnT wa w.heap.size (.slice (some ⟨w.heap.size, 0, none⟩) 19 19) signT) := by unfold Hid; rw [← hwa]; exact signT_lit w _ (by rfl)
    have HSA : Hid (SrcX wa b v n a h) := by unfold Hid; rw [← hwa]; exact HS.out.alloc _
    have HOA : Hid (Only b w wa) := by unfold Hid; rw [← hwa]; exact (Only.refl b w).alloc _
    have hza : w.heap.size < wa.heap.size := by rw [← hwa]; simp
    clear hwa
    refine (l01Next_x _ b v n a h H1 (lcY H1) 19 HH1.out rfl HSA.out hn (by omega) (by omega)).mono ?_
    rintro e w1 ⟨x1, rfl, hx1, hx2, -, s1, o1⟩
    obtain ⟨k1, rfl⟩ := Int.eq_ofNat_of_zero_le hx1
    obtain ⟨A0, c0, e0, -, -, hT⟩ := HTX.out.open_
    obtain ⟨g0, e1, -, hg0, hcell, -⟩ := hT k1 (by show k1 < 19; omega)
    rw [e1] at e0
    simp only [Value.slice.injEq, Option.some.injEq, Addr.mk.injEq, and_true] at e0
    obtain ⟨e2, -⟩ := e0
    subst e2
    have hc1 := (o1.cell (p := ⟨w.heap.size, k1, none⟩) hg0 (by show w.heap.size ≠ b; omega)).trans hcell
    have hz1 := signT_size k1 (by omega)
    obtain ⟨C, hC⟩ : ∃ C, signT.getD k1 ByteArray.empty = C := ⟨_, rfl⟩
    rw [hC] at hc1 hz1
    have S1 := Lib.hid s1
    have O1 := Lib.hid (HOA.out.trans o1)
    clear s1 o1 hT hC hcell HTX e1
    go_wp2_with (fail)
    go_ret
    exact ⟨C, rfl, fun _ => ⟨hz1, S1.out⟩, fun e => absurd h0 e, O1.out⟩
  · have h00 : ((S.size : Int) == 0) = false := beq_eq_false_iff_ne.2 (by omega)
    have hs1 : (1 : Int) ≤ (S.size : Int) := by omega
    go_enter Tryz.func37, Tryz.ntmps37
    go_wp2_with (fail)
    generalize hwa : w.alloc _ = wa
    have HTX : Hid (OwnT wa w.heap.size (.slice (some ⟨w.heap.size, 0, none⟩) 19 19) signT) := by unfold Hid; rw [← hwa]; exact signT_lit w _ (by rfl)
    have HSA : Hid (SrcX wa b v n a h) := by unfold Hid; rw [← hwa]; exact HS.out.alloc _
    have HOA : Hid (Only b w wa) := by unfold Hid; rw [← hwa]; exact (Only.refl b w).alloc _
    have hza : w.heap.size < wa.heap.size := by rw [← hwa]; simp
    clear hwa
    refine (l01Next_x _ b v n a h H1 (lcY H1) 19 HH1.out rfl HSA.out hn (by omega) (by omega)).mono ?_
    rintro e w1 ⟨x1, rfl, hx1, hx2, -, s1, o1⟩
    obtain ⟨k1, rfl⟩ := Int.eq_ofNat_of_zero_le hx1
    obtain ⟨A0, c0, e0, -, -, hT⟩ := HTX.out.open_
    obtain ⟨g0, e1, -, hg0, hcell, -⟩ := hT k1 (by show k1 < 19; omega)
    rw [e1] at e0
    simp only [Value.slice.injEq, Option.some.injEq, Addr.mk.injEq, and_true] at e0
    obtain ⟨e2, -⟩ := e0
    subst e2
    have hc1 := (o1.cell (p := ⟨w.heap.size, k1, none⟩) hg0 (by show w.heap.size ≠ b; omega)).trans hcell
    have hz1 := signT_size k1 (by omega)
    obtain ⟨C, hC⟩ : ∃ C, signT.getD k1 ByteArray.empty = C := ⟨_, rfl⟩
    rw [hC] at hc1 hz1
    have S1 := Lib.hid s1
    have O1 := Lib.hid (HOA.out.trans o1)
    clear s1 o1 hT hC hcell HTX e1
    go_wp2_with (fail)
    refine (l01Next_x _ b v n (min (a + 1) n) H1 H2 (lcY H2) (S.size : Int) HH2.out rfl S1.out hn (by omega) (by omega)).mono ?_
    rintro e w2 ⟨x2, rfl, hx3, hx4, -, s2, o2⟩
    obtain ⟨k2, rfl⟩ := Int.eq_ofNat_of_zero_le hx3
    have S2 := Lib.hid s2
    have O2 := Lib.hid (O1.out.trans o2)
    have hk2 : k2 < S.size := by omega
    have hk3 : k2 ≤ S.size := by omega
    have hk4 : (k2 : Int) ≤ (S.size : Int) := by omega
    have hk5 : (k2 : Int) + 1 ≤ (S.size : Int) := by omega
    have v1 : IntKind.i64.wrap ((k2 : Int) + 1) = (k2 : Int) + 1 := IntWalk.i64_in _ (by omega)
    clear s2 o2 hc1
    go_wp2_with (fail)
    refine (l01Next_x _ b v n _ H2 H3 (lcY H3) 3 HH3.out rfl S2.out hn (by omega) (by omega)).mono ?_
    rintro e w3 ⟨x3, rfl, hx5, hx6, -, s3, o3⟩
    have S3 := Lib.hid s3
    have O3 := Lib.hid (O2.out.trans o3)
    clear s3 o3
    obtain rfl | rfl | rfl : x3 = 0 ∨ x3 = 1 ∨ x3 = 2 := by omega
    · go_wp2_with (fail)
      go_quiet (fail)
      go_wp2
      go_ret
      exact ⟨_, rfl, fun e => absurd e h0, fun _ => ⟨by simp only [ByteArray.size_append, ByteArray.size_extract]; omega, S3.out.drewN _⟩, O3.out.drewN _⟩
    · go_wp2_with (fail)
      go_quiet (fail)
      go_wp2
      go_ret
      exact ⟨_, rfl, fun e => absurd e h0, fun _ => ⟨by simp only [ByteArray.size_append, ByteArray.size_extract]; omega, S3.out.drewN _⟩, O3.out.drewN _⟩
    · go_wp2_with (fail)
      go_quiet (fail)
      go_wp2
      go_ret
      exact ⟨_, rfl, fun e => absurd e h0, fun _ => ⟨by simp only [ByteArray.size_append, ByteArray.size_extract]; omega, S3.out.drewN _⟩, O3.out.drewN _⟩

/-! ### How long the loop of damages goes on -/
theorem exists_least {P : Nat → Prop} : ∀ m, P m → ∃ k, P k ∧ ∀ j, P j → k ≤ j := by
  intro m
  induction m using Nat.strongRecOn with
  | ind m ih =>
    intro hm
    by_cases h : ∃ j, j < m ∧ P j
    · obtain ⟨j, hj, hp⟩ := h
      exact ih j hj hp
    · refine ⟨m, hm, fun j hj => ?_⟩
      rcases Nat.lt_or_ge j m with h2 | h2
      · exact absurd ⟨j, h2, hj⟩ h
      · exact h2
theorem lc_least (h : Nat) : ∃ k, (twoG lcF lcG k h ∧ k ≤ 872415233) ∧ ∀ j, twoG lcF lcG j h → k ≤ j := by
  obtain ⟨m, hm, hq⟩ := lc_ends h
  obtain ⟨k, h1, h2⟩ := exists_least (P := fun m => twoG lcF lcG m h) m hq
  exact ⟨k, ⟨h1, Nat.le_trans (h2 m hq) hm⟩, h2⟩
/-- The double steps that the loop may still go on. -/
noncomputable def lcM (h : Nat) : Nat := Classical.choose (lc_least h)
theorem lcM_bd (h : Nat) : lcM h ≤ 872415233 := (Classical.choose_spec (lc_least h)).1.2
theorem lcM_two (h : Nat) : twoG lcF lcG (lcM h) h := (Classical.choose_spec (lc_least h)).1.1
theorem lcM_le {h j : Nat} (hj : twoG lcF lcG j h) : lcM h ≤ j := (Classical.choose_spec (lc_least h)).2 j hj
theorem lcM_step {h H1 H2 H3 H4 : Nat} (h1 : lcF h = H1) (h2 : lcF H1 = H2) (h3 : lcF H2 = H3) (h4 : lcF H3 = H4) (hg : lcY H1 % 3 = 0) : lcM H2 + 1 ≤ lcM h ∧ lcM H4 + 2 ≤ lcM h := by
  have hn : ¬ lcG h := by
    unfold lcG
    rw [h1]
    exact fun e => e hg
  obtain ⟨j, e, g1, g2⟩ := twoG_step hn (lcM_two h)
  rw [h1, h2] at g1 g2
  rw [h3, h4] at g2
  have b1 := lcM_le g1
  have b2 := lcM_le g2
  omega
/-- What the loop keeps: the text is not too long. -/
def dmI (n z a h : Nat) : Prop := (a < n ∧ z ≤ 2200000 + a) ∨ (a = n ∧ 2 * max z 1 + lcM h ≤ 877000000)
noncomputable def dmM (n a h : Nat) : Nat := if a < n then n - a + 872415240 else lcM h
theorem dm_start {n z a h : Nat} (hn : n ≤ 4096) (hz : z ≤ 2200000) (ha : a ≤ n) : dmI n z a h := by
  have := lcM_bd h
  unfold dmI
  by_cases e : a < n
  · exact .inl ⟨e, by omega⟩
  · exact .inr ⟨by omega, by omega⟩
theorem dm_size {n z a h : Nat} (hn : n ≤ 4096) (hi : dmI n z a h) : z ≤ 900000000 := by
  rcases hi with ⟨h1, h2⟩ | ⟨h1, h2⟩ <;> omega
theorem dm_round {n z z' a a' h H1 H2 H3 H4 h' : Nat} (hn : n ≤ 4096) (h1 : lcF h = H1) (h2 : lcF H1 = H2) (h3 : lcF H2 = H3) (h4 : lcF H3 = H4) (hi : dmI n z a h) (ha : a ≤ n) (hg : a = n → lcY H1 % 3 = 0)
    (hs : (z = 0 ∧ z' = 1 ∧ a' = min (min (a + 1) n + 1) n ∧ h' = H2) ∨ (z ≠ 0 ∧ z' ≤ z + 1 ∧ a' = min (min (min (min (a + 1) n + 1) n + 1) n + 1) n ∧ h' = H4)) : dmI n z' a' h' ∧ a' ≤ n ∧ dmM n a' h' < dmM n a h := by
  have hb := lcM_bd h'
  unfold dmI at hi
  unfold dmM
  rcases hi with ⟨e1, e2⟩ | ⟨e1, e2⟩
  · have ha' : a < a' ∧ a' ≤ n := by omega
    have hz' : z' ≤ 2200000 + a' := by omega
    rw [if_pos e1]
    refine ⟨?_, ha'.2, ?_⟩
    · unfold dmI
      by_cases e : a' < n
      · exact .inl ⟨e, hz'⟩
      · exact .inr ⟨by omega, by omega⟩
    · split <;> omega
  · have hst := lcM_step h1 h2 h3 h4 (hg e1)
    have han : a' = n := by omega
    rw [if_neg (by omega), if_neg (by omega)]
    rcases hs with ⟨s1, s2, -, s4⟩ | ⟨s1, s2, -, s4⟩
    · subst s4
      exact ⟨.inr ⟨han, by omega⟩, by omega, by omega⟩
    · subst s4
      exact ⟨.inr ⟨han, by omega⟩, by omega, by omega⟩
/-- The measure, read off the memory. -/
def ofCell (c : Option Value) : Nat := match c with | some (.int _ x) => x.toNat | _ => 0
noncomputable def dmW (w : World) (b n : Nat) : Nat := dmM n (ofCell (w.cell? ⟨b, 1, none⟩)) (ofCell (w.cell? ⟨b, 2, none⟩))
theorem dmW_of {w : World} {b : Nat} {v : Value} {n a h : Nat} (s : SrcX w b v n a h) : dmW w b n = dmM n a h := by
  obtain ⟨r, hb, c0, ⟨ha, c1⟩, ⟨hh, c2⟩, f⟩ := s
  unfold dmW
  rw [c1, c2]
  simp [ofCell]
theorem dmW_drewN (w : World) (b n k : Nat) : dmW (w.drewN k) b n = dmW w b n := rfl

/-! ### Draws of lists -/
theorem OwnI.only {w w' : World} {B b : Nat} {v : Value} {xs : List Int} (h : OwnI w B v xs) (R : Only b w w') (hb : b < B) : OwnI w' B v xs := h.of_block fun g hg => by
  have := h.block_ge hg
  exact R.block g this.2 (by omega)
theorem Src.grown {w0 w w' : World} {b : Nat} {v : Value} {n : Nat} {row : Option Nat} (h0 : RdY w0 b v n) (O : Only b w0 w') (h : Src w b v n) (R : w.grownBy w' row) (hr : row ≠ some b) : Src w' b v n := by
  obtain ⟨_, h2, h3, ⟨k, hk, h4⟩, ⟨x, hx, hx', h5⟩, h6, h7⟩ := h
  have e : w'.heap[b]? = w.heap[b]? := R.block b h2 (fun e => hr e.symm)
  exact ⟨h0.only O, Nat.lt_of_lt_of_le h2 R.size, (World.cell?_of_block (a := ⟨b, 0, none⟩) e).trans h3, ⟨k, hk, (World.cell?_of_block (a := ⟨b, 1, none⟩) e).trans h4⟩, ⟨x, hx, hx', (World.cell?_of_block (a := ⟨b, 2, none⟩) e).trans h5⟩,
    (World.frozen?_of_block (a := ⟨b, 1, none⟩) e).trans h6, (World.frozen?_of_block (a := ⟨b, 2, none⟩) e).trans h7⟩
theorem app_bd {m x : Int} {xs : List Int} (h : 1 ≤ m → ∀ k, 0 ≤ xs.getD k 0 ∧ xs.getD k 0 ≤ m) (hx : 1 ≤ m → 0 ≤ x ∧ x ≤ m) (hm : 1 ≤ m) (k : Nat) : 0 ≤ (xs ++ [x]).getD k 0 ∧ (xs ++ [x]).getD k 0 ≤ m := by
  have h1 := h hm k
  have h2 := hx hm
  rw [List.getD_eq_getElem?_getD] at *
  rw [List.getElem?_append]
  split
  · exact h1
  · rcases hk : k - xs.length with _ | j
    · simpa using h2
    · simp; omega
set_option maxRecDepth 8000 in
set_option maxHeartbeats 4000000 in
theorem l01ListB_any (w : World) (b : Nat) (v : Value) (nn : Nat) (m : Int) (n : Nat) (hs : Src w b v nn) (hn : nn ≤ 1000000000) (hm : -5 ≤ m ∧ m ≤ 1099511627776) (hk : n ≤ 1000) :
    Calls Tryz.prog 70 #[.pointer (some ⟨b, 0, none⟩), .int .i64 m, .int .i64 (n : Int)] w fun e w' => ∃ A c xs, e = .returned (.slice A xs.length c) ∧ xs.length = n ∧ OwnI w' w.heap.size (.slice A xs.length c) xs ∧ (1 ≤ m → ∀ k, 0 ≤ xs.getD k 0 ∧ xs.getD k 0 ≤ m) ∧ Src w' b v nn ∧ Only b w w' := by
  have HS := Lib.hid hs
  have H0 := Lib.hid hs.1
  have hlt := hs.lt
  clear hs
  go_enter Tryz.func70, Tryz.ntmps70
  go_wp2
  go_loopw [2, 7] (fun s2 s7 wr => ∃ (k : Nat) (g c : Nat) (xs : List Int), k + xs.length = n ∧ s2 = .int .i64 (k : Int) ∧ s7 = .slice (some ⟨g, 0, none⟩) xs.length c ∧ w.heap.size ≤ g ∧ Hid (RowI wr g c xs) ∧ Hid (1 ≤ m → ∀ k, 0 ≤ xs.getD k 0 ∧ xs.getD k 0 ≤ m) ∧ Hid (Src wr b v nn) ∧ Hid (Only b w wr)) (fun s2 _ _ => (intOf s2).toNat)
  case atStart => exact ⟨n, w.heap.size, 0, [], rfl, rfl, rfl, Nat.le_refl _, RowI.lit w [] #[] rfl (by simp), (fun h k => by simp; omega), HS.out.alloc _, (Only.refl b w).alloc _⟩
  case round =>
    clear HS
    obtain ⟨k, g, c, xs, hkx, rfl, rfl, hg, HR, HBD, HS, HO⟩ := hrel
    obtain ⟨L, hL⟩ : ∃ L, xs.length = L := ⟨_, rfl⟩
    rw [hL] at hkx ⊢
    have HLL := Lib.hid hL
    clear hL
    have zO := HO.out.size
    by_cases hk0 : k = 0
    · subst hk0
      have hLn : Hid (L = n) := by unfold Hid; omega
      have hd : decide ((0 : Int) < ((0 : Nat) : Int)) = false := by simp
      go_wp2
      go_ret
      exact ⟨_, _, xs, by rw [HLL.out]; rfl, HLL.out.trans hLn.out, HR.out.own hg, HBD.out, HS.out, HO.out⟩
    · have hk1 : (0 : Int) < (k : Int) := by omega
      by_cases hm1 : m < 1
      · have hm2 : ¬ max m 1 = 0 := by omega
        go_upto_region 4 with fail
        go_region_law (first | (go_simp; go_at_call 36; have _h := s2; refine (l01Next_any w2 b _ nn m s2 hn (by omega)).mono ?_; rintro e w3 ⟨x3, rfl, g3, h3, s3, o3⟩) | (go_simp; go_at_call 36; refine (l01Next_any (World.drew wr) b _ nn m (Src.drew HS.out) hn (by omega)).mono ?_; rintro e w2 ⟨x2, rfl, g2, h2, s2, o2⟩) | (go_simp; go_at_call 59; refine (l01Pick_any _ b _ _ nn w3.heap.size [0, _, _, _] (s3.alloc _) hn (OwnI.litN w3 _ _ (by rfl) (by simp [maxLen]) (Nat.le_refl _)) s3.lt (by simp) (by simp) (fun x => 1 ≤ m → 0 ≤ x ∧ x ≤ m) (fun x _ h => absurd h (by omega))).mono ?_; rintro e w4 ⟨x4, rfl, hx4, s4, o4⟩; have K4 := ((((Only.refl b wr).drew.trans o2).trans o3).alloc _).trans o4; have R4 := HR.out.of_block (K4.block g HR.out.lt (by omega)); have z4 := K4.size) | (refine stepAppend1 _ _ w.heap.size (.slice (some ⟨g, 0, none⟩) L c) xs L x4 w4.heap.size (w4.heap.size + 1) (by rfl) (by rfl) (by rfl) (by rfl) ((R4.alloc _).own' hg HLL.out) HLL.out (RowI.block1 _) (by omega) (by simp; omega) (by simp) ?_; intro gg cap w5 hown5 hge hgrow hat))
        all_goals go_wp2
        all_goals
          have O5 : Only b w w5 := ((HO.out.trans K4).alloc _).grown hgrow (fun q hq => by simp [Value.ownBlock] at hq; omega)
          have S5 : Src w5 b v nn := Src.grown H0.out O5 (s4.alloc _) hgrow (by simp [Value.ownBlock]; omega)
          go_roundw
        all_goals first
          | exact ⟨k - 1, gg, cap, xs ++ [x4], by rw [List.length_append, HLL.out]; simp; omega, by congr 1; omega, by rw [List.length_append, HLL.out]; rfl, hge, hown5, app_bd HBD.out hx4, S5, O5⟩
          | (simp [intOf]; omega)
      · have hm2 : ¬ max m 1 = 0 := by omega
        go_upto_region 4 with fail
        go_region_law (first | (go_simp; go_at_call 36; have _h := s2; refine (l01Next_any w2 b _ nn m s2 hn (by omega)).mono ?_; rintro e w3 ⟨x3, rfl, g3, h3, s3, o3⟩) | (go_simp; go_at_call 36; refine (l01Next_any (World.drew wr) b _ nn m (Src.drew HS.out) hn (by omega)).mono ?_; rintro e w2 ⟨x2, rfl, g2, h2, s2, o2⟩) | (go_simp; go_at_call 59; refine (l01Pick_any _ b _ _ nn w3.heap.size [0, _, _, _] (s3.alloc _) hn (OwnI.litN w3 _ _ (by rfl) (by simp [maxLen]) (Nat.le_refl _)) s3.lt (by simp) (by simp) (fun x => 1 ≤ m → 0 ≤ x ∧ x ≤ m) (fun x hx h => by simp only [List.mem_cons, List.not_mem_nil, or_false] at hx; have h2 := h2.1 (by omega); have h3 := h3.1 (by omega); have q1 := Int.tmod_nonneg (max m 1) (show (0 : Int) ≤ 1 by omega); have q2 := Int.tmod_lt_of_pos 1 (show 0 < max m 1 by omega); omega)).mono ?_; rintro e w4 ⟨x4, rfl, hx4, s4, o4⟩; have K4 := ((((Only.refl b wr).drew.trans o2).trans o3).alloc _).trans o4; have R4 := HR.out.of_block (K4.block g HR.out.lt (by omega)); have z4 := K4.size) | (refine stepAppend1 _ _ w.heap.size (.slice (some ⟨g, 0, none⟩) L c) xs L x4 w4.heap.size (w4.heap.size + 1) (by rfl) (by rfl) (by rfl) (by rfl) ((R4.alloc _).own' hg HLL.out) HLL.out (RowI.block1 _) (by omega) (by simp; omega) (by simp) ?_; intro gg cap w5 hown5 hge hgrow hat))
        all_goals go_wp2
        all_goals
          have O5 : Only b w w5 := ((HO.out.trans K4).alloc _).grown hgrow (fun q hq => by simp [Value.ownBlock] at hq; omega)
          have S5 : Src w5 b v nn := Src.grown H0.out O5 (s4.alloc _) hgrow (by simp [Value.ownBlock]; omega)
          go_roundw
        all_goals first
          | exact ⟨k - 1, gg, cap, xs ++ [x4], by rw [List.length_append, HLL.out]; simp; omega, by congr 1; omega, by rw [List.length_append, HLL.out]; rfl, hge, hown5, app_bd HBD.out hx4, S5, O5⟩
          | (simp [intOf]; omega)

end Go.Proofs.YtglbccikdglcgaaGreatDoor
