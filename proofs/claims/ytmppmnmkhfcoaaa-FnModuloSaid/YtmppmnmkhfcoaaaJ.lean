/- Contracts over this seat's translation. Condition: each contract's own. -/
import Derived.Test.YtmppmnmkhfcoaaaI
import Derived.Test.YtmppmnmkhfcoaaaR
import Derived.ProofKit
import Derived.Laws.Bits64b
import Derived.Lib.Mul64
import Derived.OpenShut
import Derived.Below
import Derived.ChangeSame
import Derived.Deep.Modes
import Derived.Lib.SmallJoins
import Derived.ChangeSlices
import Derived.WalkKit
import Derived.WalkSpells
import Derived.WalkLawsBesides
import Derived.Deep.QuietTactic
import Derived.BigQuiet
import Derived.Deep.RegionHeld3
import Derived.Deep.RegionWith
import Derived.Deep.RegionLaw
import Derived.Deep.AppendLies
import Derived.Laws.CopyOwn
import Derived.Deep.DeepCutAuto
import Derived.Deep.OwnRows
import Derived.Deep.LoopGhost
import Derived.Deep.DeepFit
import Derived.Deep.DeepMust
import Derived.Deep.Draws
import Derived.Deep.CutRange
import Derived.Maps.AppendAt
import Derived.Lib.Hide
import Derived.StillTailTactics
import Derived.Laws.MakeOwn
import Derived.Deep.Matrix
set_option linter.unusedVariables false
open Go Go.RowKit
namespace Go.Proofs.Ytmppmnmkhfcoaaa
/-! ### Draws of lists -/
theorem OwnI.only {w w' : World} {B b : Nat} {v : Value} {xs : List Int} (h : OwnI w B v xs) (R : Only b w w') (hb : b < B) : OwnI w' B v xs := h.of_block fun g hg => by
  have := h.block_ge hg
  exact R.block g this.2 (by omega)
theorem Src.grown {w0 w w' : World} {b : Nat} {v : Value} {n : Nat} {row : Option Nat} (h0 : RdY w0 b v n) (O : Only b w0 w') (h : Src w b v n) (R : w.grownBy w' row) (hr : row ≠ some b) : Src w' b v n := by
  obtain ⟨_, h2, h3, ⟨k, hk, h4⟩, ⟨x, hx, hx', h5⟩, h6, h7⟩ := h
  have e : w'.heap[b]? = w.heap[b]? := R.block b h2 (fun e => hr e.symm)
  exact ⟨h0.only O, Nat.lt_of_lt_of_le h2 R.size, (World.cell?_of_block (a := ⟨b, 0, none⟩) e).trans h3, ⟨k, hk, (World.cell?_of_block (a := ⟨b, 1, none⟩) e).trans h4⟩, ⟨x, hx, hx', (World.cell?_of_block (a := ⟨b, 2, none⟩) e).trans h5⟩,
    (World.frozen?_of_block (a := ⟨b, 1, none⟩) e).trans h6, (World.frozen?_of_block (a := ⟨b, 2, none⟩) e).trans h7⟩
set_option maxRecDepth 8000 in
set_option maxHeartbeats 4000000 in
theorem l01List_any (w : World) (b : Nat) (v : Value) (nn : Nat) (m : Int) (n : Nat) (hs : Src w b v nn) (hn : nn ≤ 1000000000) (hm : -5 ≤ m ∧ m ≤ 1099511627776) (hk : n ≤ 1000) :
    Calls Try.prog 121 #[.pointer (some ⟨b, 0, none⟩), .int .i64 m, .int .i64 (n : Int)] w fun e w' => ∃ A c xs, e = .returned (.slice A xs.length c) ∧ xs.length = n ∧ OwnI w' w.heap.size (.slice A xs.length c) xs ∧ Src w' b v nn ∧ Only b w w' := by
  have HS := Lib.hid hs
  have H0 := Lib.hid hs.1
  have hlt := hs.lt
  clear hs
  go_enter Try.func121, Try.ntmps121
  go_wp2
  go_loopw [2, 7] (fun s2 s7 wr => ∃ (k : Nat) (g c : Nat) (xs : List Int), k + xs.length = n ∧ s2 = .int .i64 (k : Int) ∧ s7 = .slice (some ⟨g, 0, none⟩) xs.length c ∧ w.heap.size ≤ g ∧ Hid (RowI wr g c xs) ∧ Hid (Src wr b v nn) ∧ Hid (Only b w wr)) (fun s2 _ _ => (intOf s2).toNat)
  case atStart => exact ⟨n, w.heap.size, 0, [], rfl, rfl, rfl, Nat.le_refl _, RowI.lit w [] #[] rfl (by simp), HS.out.alloc _, (Only.refl b w).alloc _⟩
  case round =>
    clear HS
    obtain ⟨k, g, c, xs, hkx, rfl, rfl, hg, HR, HS, HO⟩ := hrel
    obtain ⟨L, hL⟩ : ∃ L, xs.length = L := ⟨_, rfl⟩
    rw [hL] at hkx ⊢
    have HLL := Lib.hid hL
    clear hL
    have zO := HO.out.size
    by_cases hk0 : k = 0
    · subst hk0
      have hLn : Hid (L = n) := by unfold Hid; omega
      have hd : decide ((0 : Int) < ((0 : Nat) : Int)) = false := by simp
      go_wp2
      go_ret
      exact ⟨_, _, xs, by rw [HLL.out]; rfl, HLL.out.trans hLn.out, HR.out.own hg, HS.out, HO.out⟩
    · have hk1 : (0 : Int) < (k : Int) := by omega
      by_cases hm1 : m < 1
      · have hm2 : ¬ m = 0 ∨ m < 1 := .inr hm1
        go_upto_region 4 with fail
        go_region_law (first | (go_simp; go_at_call 92; have _h := s2; refine (l01Next_any w2 b _ nn m s2 hn (by omega)).mono ?_; rintro e w3 ⟨x3, rfl, g3, h3, s3, o3⟩) | (go_simp; go_at_call 92; refine (l01Next_any (World.drew wr) b _ nn m (Src.drew HS.out) hn (by omega)).mono ?_; rintro e w2 ⟨x2, rfl, g2, h2, s2, o2⟩) | (go_simp; go_at_call 90; refine (l01Pick_any _ b _ _ nn w3.heap.size [0, _, _, _] (s3.alloc _) hn (OwnI.litN w3 _ _ (by rfl) (by simp [maxLen]) (Nat.le_refl _)) s3.lt (by simp) (by simp) (fun _ => True) (fun _ _ => True.intro)).mono ?_; rintro e w4 ⟨x4, rfl, -, s4, o4⟩; have K4 := ((((Only.refl b wr).drew.trans o2).trans o3).alloc _).trans o4; have R4 := HR.out.of_block (K4.block g HR.out.lt (by omega)); have z4 := K4.size) | (refine stepAppend1 _ _ w.heap.size (.slice (some ⟨g, 0, none⟩) L c) xs L x4 w4.heap.size (w4.heap.size + 1) (by rfl) (by rfl) (by rfl) (by rfl) ((R4.alloc _).own' hg HLL.out) HLL.out (RowI.block1 _) (by omega) (by simp; omega) (by simp) ?_; intro gg cap w5 hown5 hge hgrow hat))
        all_goals go_wp2
        all_goals
          have O5 : Only b w w5 := ((HO.out.trans K4).alloc _).grown hgrow (fun q hq => by simp [Value.ownBlock] at hq; omega)
          have S5 : Src w5 b v nn := Src.grown H0.out O5 (s4.alloc _) hgrow (by simp [Value.ownBlock]; omega)
          go_roundw
        all_goals first
          | exact ⟨k - 1, gg, cap, xs ++ [x4], by rw [List.length_append, HLL.out]; simp; omega, by congr 1; omega, by rw [List.length_append, HLL.out]; rfl, hge, hown5, S5, O5⟩
          | (simp [intOf]; omega)
      · have hm2 : ¬ m = 0 := by omega
        go_upto_region 4 with fail
        go_region_law (first | (go_simp; go_at_call 92; have _h := s2; refine (l01Next_any w2 b _ nn m s2 hn (by omega)).mono ?_; rintro e w3 ⟨x3, rfl, g3, h3, s3, o3⟩) | (go_simp; go_at_call 92; refine (l01Next_any (World.drew wr) b _ nn m (Src.drew HS.out) hn (by omega)).mono ?_; rintro e w2 ⟨x2, rfl, g2, h2, s2, o2⟩) | (go_simp; go_at_call 90; refine (l01Pick_any _ b _ _ nn w3.heap.size [0, _, _, _] (s3.alloc _) hn (OwnI.litN w3 _ _ (by rfl) (by simp [maxLen]) (Nat.le_refl _)) s3.lt (by simp) (by simp) (fun _ => True) (fun _ _ => True.intro)).mono ?_; rintro e w4 ⟨x4, rfl, -, s4, o4⟩; have K4 := ((((Only.refl b wr).drew.trans o2).trans o3).alloc _).trans o4; have R4 := HR.out.of_block (K4.block g HR.out.lt (by omega)); have z4 := K4.size) | (refine stepAppend1 _ _ w.heap.size (.slice (some ⟨g, 0, none⟩) L c) xs L x4 w4.heap.size (w4.heap.size + 1) (by rfl) (by rfl) (by rfl) (by rfl) ((R4.alloc _).own' hg HLL.out) HLL.out (RowI.block1 _) (by omega) (by simp; omega) (by simp) ?_; intro gg cap w5 hown5 hge hgrow hat))
        all_goals go_wp2
        all_goals
          have O5 : Only b w w5 := ((HO.out.trans K4).alloc _).grown hgrow (fun q hq => by simp [Value.ownBlock] at hq; omega)
          have S5 : Src w5 b v nn := Src.grown H0.out O5 (s4.alloc _) hgrow (by simp [Value.ownBlock]; omega)
          go_roundw
        all_goals first
          | exact ⟨k - 1, gg, cap, xs ++ [x4], by rw [List.length_append, HLL.out]; simp; omega, by congr 1; omega, by rw [List.length_append, HLL.out]; rfl, hge, hown5, S5, O5⟩
          | (simp [intOf]; omega)

/-! ### The draw of a list of coefficients -/
set_option maxRecDepth 4000 in
set_option maxHeartbeats 4000000 in
theorem DrawRootsModulo_any (w : World) (v : Value) (n : Nat) (hv : RdY w w.heap.size v n) (hn : n ≤ 1000000000) : Calls Try.prog 53 #[v] w fun e w' => ∃ (q : Int) (A : Option Addr) (c : Nat) (xs : List Int), e = .returned (.tuple #[.int .i64 q, .slice A xs.length c]) ∧ xs.length ≤ 21 ∧ OwnI w' w.heap.size (.slice A xs.length c) xs ∧ Below w.heap.size w w' := by
  obtain ⟨A, c, e0, _⟩ := id hv
  subst e0
  go_enter Try.func53, Try.ntmps53
  go_upto_region 4 with (first | (go_at_call 89; refine (l01From_any w _ n hv hn).mono ?_; rintro e w1 ⟨b, rfl, hb, s1, B1⟩; have K1 := Only.refl b w1) | (go_at_call 120; refine (l01Spoil_any _ b _ n s1 hn).mono ?_; rintro e w2 ⟨x2, rfl, h2, s2, o2⟩; have K2 := K1.trans o2) | (go_at_call 92; have _h := s3; refine (l01Next_any _ b _ n 5 s3 hn (by omega)).mono ?_; rintro e w4 ⟨x4, rfl, g4, h4, s4, o4⟩; have K4 := K3.trans o4; have h4 := h4.1 (by omega)) | (go_at_call 92; refine (l01Next_any _ b _ n 5 s2 hn (by omega)).mono ?_; rintro e w3 ⟨x3, rfl, g3, h3, s3, o3⟩; have K3 := K2.trans o3; have h3 := h3.1 (by omega)) | (go_at_call 90; refine (l01Pick_any _ b _ _ n w4.heap.size [x3, x4, 20, 21] (s4.alloc _) hn (OwnI.litN w4 _ _ (by rfl) (by simp [maxLen]) (Nat.le_refl _)) s4.lt (by simp) (by simp) (fun x => 0 ≤ x ∧ x ≤ 21) (by intro x hx; simp at hx; omega)).mono ?_; rintro e w5 ⟨x5, rfl, h5, s5, o5⟩; obtain ⟨k5, rfl⟩ := Int.eq_ofNat_of_zero_le h5.1; have K5 := (K4.alloc _).trans o5) | (go_at_call 121; refine (l01List_any _ b _ n x2 k5 s5 hn (by omega) (by omega)).mono ?_; rintro e w6 ⟨A6, c6, xs, rfl, hlx, ox, s6, o6⟩; have K6 := K5.trans o6; have HLX := Lib.hid hlx; clear hlx))
  have hB := Only.behind B1 K6 hb B1.size
  have z5 := K5.size
  have z6 := o6.size
  have z1 := B1.size
  have hbl := s1.lt
  have hx21 : xs.length ≤ 21 := by have := HLX.out; omega
  clear HLX
  clear K1 K2 K3 K4 K5 K6 B1 o2 o3 o4 o5 o6 s1 s2 s3 s4 s5
  by_cases h0 : xs.length = 0
  · obtain rfl : xs = [] := List.eq_nil_of_length_eq_zero h0
    clear h0
    go_wp2
    go_ret2
    exact ⟨_, _, _, [], rfl, hx21, ox.mono (by omega), hB⟩
  · have hd : (0 : Int) < (xs.length : Int) := by omega
    obtain ⟨gx, cx, ex, hgx, hrx⟩ : ∃ gx cx, Value.slice A6 xs.length c6 = .slice (some ⟨gx, 0, none⟩) xs.length cx ∧ w5.heap.size ≤ gx ∧ RowI w6 gx cx xs := by
      rcases ox.row with ⟨e, e2⟩ | ⟨gx, cx, e, h1, h2⟩
      · rw [e2] at h0; simp at h0
      · exact ⟨gx, cx, e, h1, h2⟩
    simp only [Value.slice.injEq, true_and] at ex
    obtain ⟨rfl, rfl⟩ := ex
    clear h0
    have hgb : gx ≠ b := by omega
    go_wp2_with (first | (go_at_call_of 92 (Value.int IntKind.i64 20); refine (l01Next_any _ b _ n 20 s6 hn (by omega)).mono ?_; rintro e w7 ⟨x7, rfl, g7, h7, s7, o7⟩; have R7 := hrx.of_block (o7.block gx hrx.lt hgb); have B7 := Only.behind hB o7 (by omega) (by omega)) | (go_at_call 122; refine (l01Number_any _ b _ n x2 h2 s7 hn).mono ?_; rintro e w8 ⟨x8, rfl, -, s8, o8⟩; have R8 := R7.of_block (o8.block gx R7.lt hgb); have B8 := Only.behind B7 o8 (by omega) (by have := o7.size; omega); have d0 := R8.cell (k := 0) (by omega); have d1 := R8.free 0))
    · go_ret2
      exact ⟨_, _, _, xs.set 0 x8, by rw [List.length_set]; rfl, by rw [List.length_set]; exact hx21, (by have := (R8.set_ 0 x8).own (B := w.heap.size) (by omega); exact this), B8.setCell (p := ⟨gx, 0, none⟩) (by show w.heap.size ≤ gx; omega) _⟩
    · go_ret2
      exact ⟨_, _, _, xs, rfl, hx21, R7.own (by omega), B7⟩

end Go.Proofs.Ytmppmnmkhfcoaaa
