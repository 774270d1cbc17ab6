/- Contracts over this seat's translation. Condition: each contract's own. -/
import Derived.Test.YtglbccikdglcgaaGreatDoorT
import Derived.ProofKit
import Derived.Laws.Bits64b
import Derived.Lib.Mul64
import Derived.OpenShut
import Derived.Below
import Derived.ChangeSame
import Derived.Deep.Modes
import Derived.Lib.SmallJoins
import Derived.ChangeSlices
import Derived.WalkKit
import Derived.WalkSpells
import Derived.WalkLawsBesides
import Derived.Deep.QuietTactic
import Derived.BigQuiet
import Derived.Deep.RegionHeld3
import Derived.Deep.RegionWith
import Derived.Deep.RegionLaw
import Derived.Deep.AppendLies
import Derived.Laws.CopyOwn
import Derived.Deep.DeepCutAuto
import Derived.Deep.OwnRows
import Derived.Deep.LoopGhost
import Derived.Deep.DeepFit
import Derived.Deep.DeepMust
import Derived.Deep.Draws
import Derived.Deep.CutRange
import Derived.Maps.AppendAt
import Derived.Lib.Hide
import Derived.StillTailTactics
import Derived.Laws.MakeOwn
import Derived.Deep.Matrix
import Derived.ChangeAgain
import Derived.SizedLaws
import Derived.Handed
import Derived.Lib.SplitLaws
import Derived.Lib.ParseIntB
import Derived.Lib.ItoaMem
import Derived.Lib.ItoaLen
import Derived.Laws.BytesArg
import Derived.Lib.Join
import Derived.Lib.IndexBytes
set_option linter.unusedVariables false
open Go Go.RowKit
namespace Go.Proofs.YtglbccikdglcgaaGreatDoor
/-! ### Draws of series -/
/-- A drawn series lies in memory. -/
def RetS (w : World) (b : Nat) (v : Value) (n : Nat) (p : Int → List Int → Prop) (e : Ending) (w' : World) : Prop := ∃ (m : Int) (A : Option Addr) (c : Nat) (xs : List Int), e = .returned (.agg #[.int .i64 m, .slice A xs.length c]) ∧ p m xs ∧ OwnI w' w.heap.size (.slice A xs.length c) xs ∧ Src w' b v n ∧ Only b w w'
theorem Bf.only {w w' : World} {bo b : Nat} {x y : Value} (h : Bf w bo x y) (R : Only b w w') (hb : bo ≠ b) : Bf w' bo x y := by
  have e := R.block bo h.1.1 hb
  exact ⟨⟨Nat.lt_of_lt_of_le h.1.1 R.size, (World.cell?_of_block (a := ⟨bo, 0, none⟩) e).trans h.1.2.1, (World.cell?_of_block (a := ⟨bo, 1, none⟩) e).trans h.1.2.2⟩, (World.frozen?_of_block (a := ⟨bo, 0, none⟩) e).trans h.2.1, (World.frozen?_of_block (a := ⟨bo, 1, none⟩) e).trans h.2.2⟩
theorem Src.re {w0 w w' : World} {b : Nat} {v : Value} {n : Nat} (h0 : RdY w0 b v n) (O : Only b w0 w') (h : Src w b v n) (e : w'.heap[b]? = w.heap[b]?) (hz : w.heap.size ≤ w'.heap.size) : Src w' b v n := by
  obtain ⟨_, h2, h3, ⟨k, hk, h4⟩, ⟨x, hx, hx', h5⟩, h6, h7⟩ := h
  exact ⟨h0.only O, Nat.lt_of_lt_of_le h2 hz, (World.cell?_of_block (a := ⟨b, 0, none⟩) e).trans h3, ⟨k, hk, (World.cell?_of_block (a := ⟨b, 1, none⟩) e).trans h4⟩, ⟨x, hx, hx', (World.cell?_of_block (a := ⟨b, 2, none⟩) e).trans h5⟩,
    (World.frozen?_of_block (a := ⟨b, 1, none⟩) e).trans h6, (World.frozen?_of_block (a := ⟨b, 2, none⟩) e).trans h7⟩
theorem set2_block (w : World) {bo b : Nat} (x y : Value) (h : b ≠ bo) : ((w.setCell ⟨bo, 0, none⟩ x).setCell ⟨bo, 1, none⟩ y).heap[b]? = w.heap[b]? :=
  (Below.heap_setCell _ ⟨bo, 1, none⟩ _ _ h).trans (Below.heap_setCell _ ⟨bo, 0, none⟩ _ _ h)
set_option maxRecDepth 4000 in
set_option maxHeartbeats 4000000 in
theorem l02Draw_any (w : World) (b : Nat) (v : Value) (n : Nat) (hs : Src w b v n) (hn : n ≤ 1000000000) :
    Calls Tryz.prog 35 #[.pointer (some ⟨b, 0, none⟩)] w (RetS w b v n fun m xs => (2 ≤ m ∧ m ≤ 10001) ∧ (2 ≤ xs.length ∧ xs.length ≤ 11) ∧ ∀ k, 0 ≤ xs.getD k 0 ∧ xs.getD k 0 ≤ m) := by
  have hbl := hs.lt
  have s0 := hs.alloc (.cells #[.int .i64 0, .slice none 0 0] 26)
  have K0 := (Only.refl b w).alloc (.cells #[.int .i64 0, .slice none 0 0] 26)
  go_enter Tryz.func35, Tryz.ntmps35
  go_wp2_with (first | (go_at_call 55; refine (l01DrawModulus_any _ b v n s0 hn).mono ?_; rintro e w1 ⟨m, rfl, hm, s1, o1⟩; have K1 := K0.trans o1) | (go_at_call_of 36 (Value.int IntKind.i64 4); refine (l01Next_any _ b v n 4 s1 hn (by omega)).mono ?_; rintro e w2 ⟨x2, rfl, g2, h2, s2, o2⟩; have K2 := K1.trans o2; have h2 := h2.1 (by omega)) | (go_at_call_of 36 (Value.int IntKind.i64 6); refine (l01Next_any _ b v n 6 s2 hn (by omega)).mono ?_; rintro e w3 ⟨x3, rfl, g3, h3, s3, o3⟩; have K3 := K2.trans o3; have h3 := h3.1 (by omega)) | (go_at_call_of 36 (Value.int IntKind.i64 10); refine (l01Next_any _ b v n 10 s3 hn (by omega)).mono ?_; rintro e w4 ⟨x4, rfl, g4, h4, s4, o4⟩; have K4 := K3.trans o4; have h4 := h4.1 (by omega)))
  have P4 : Bf w4 w.heap.size (.int .i64 0) (.slice none 0 0) := (((((Bf.alloc1 w _ _ 26).only o1 (by omega)).only o2 (by omega)).only o3 (by omega)).only o4 (by omega))
  have z4 : w.heap.size < w4.heap.size := P4.1.1
  clear K0 K1 K2 K3 o1 o2 o3 o4 s0 s1 s2 s3
  refine (l01Pick_any _ b v _ n w4.heap.size [x2, x3, x4] (s4.alloc _) hn (OwnI.litN w4 _ _ (by rfl) (by simp [maxLen]) (Nat.le_refl _)) s4.lt (by simp) (by simp) (fun x => 0 ≤ x ∧ x ≤ 9) (by intro x hx; simp at hx; omega)).mono ?_
  rintro e w5 ⟨x5, rfl, h5, s5, o5⟩
  obtain ⟨k5, rfl⟩ := Int.eq_ofNat_of_zero_le h5.1
  obtain ⟨j, hj⟩ : ∃ j : Nat, (j : Int) = 2 + (k5 : Int) := ⟨k5 + 2, by omega⟩
  have P5 := (P4.al (.cells #[.int .i64 x2, .int .i64 x3, .int .i64 x4] 2)).only o5 (by omega)
  have K5 := (K4.alloc _).trans o5
  clear P4 K4 s4 o5
  go_wp2_with (fail)
  rw [← hj]
  refine (l01ListB_any _ b v n m j s5 hn (by omega) (by omega)).mono ?_
  rintro e w6 ⟨A6, c6, xs, rfl, hlx, ox, hbx, s6, o6⟩
  have P6 := P5.only o6 (by omega)
  have K6 := K5.trans o6
  have z6 := K6.size
  have zz5 := P5.1.1
  have HBX := Lib.hid (hbx (by omega))
  have HLX := Lib.hid (show 2 ≤ xs.length ∧ xs.length ≤ 11 by omega)
  clear hbx hlx o6 P5 K5
  go_wp2_with (go_at_call 39; refine (l02Make_any _ m A6 xs.length c6).mono ?_; rintro e w7 ⟨rfl, hb7⟩; have P7 := P6.keep hb7; have S7 := s6.keep hb7; have OX := ox.keep hb7 (Nat.le_refl _); have K7 := K6.trans (Only.ofBelow hb7); have p7a := P7.1.2.1; have p7b := P7.1.2.2; have p7c := P7.2.1; have p7d := P7.2.2)
  have Q := P7.put2 (x' := .int .i64 m) (y' := .slice A6 xs.length c6)
  have q1 := Q.1.2.1
  have q2 := Q.1.2.2
  have KK : Only b w ((w7.setCell ⟨w.heap.size, 0, none⟩ (.int .i64 m)).setCell ⟨w.heap.size, 1, none⟩ (.slice A6 xs.length c6)) := (K7.setNew (p := ⟨w.heap.size, 0, none⟩) (Nat.le_refl _) _).setNew (p := ⟨w.heap.size, 1, none⟩) (Nat.le_refl _) _
  exact bodyPost_ret (v := .agg #[.int .i64 m, .slice A6 xs.length c6]) (by simp [results, Tryz.results35, go_sem, q1, q2]) rfl ⟨m, A6, c6, xs, rfl, ⟨hm, HLX.out, HBX.out⟩, ((OX.setCell_lt (p := ⟨w.heap.size, 0, none⟩) zz5 _).setCell_lt (p := ⟨w.heap.size, 1, none⟩) zz5 _).mono (by omega), Src.re hs.1 KK S7 (set2_block _ _ _ (by omega)) (by simp [World.setCell]), KK⟩
set_option maxRecDepth 4000 in
set_option maxHeartbeats 4000000 in
theorem DrawParseSeries_any (w : World) (v : Value) (n : Nat) (hv : RdY w w.heap.size v n) (hn : n ≤ 4096) : Calls Tryz.prog 10 #[v] w fun e w' => ∃ S : ByteArray, e = .returned (.string S) ∧ S.size ≤ 900000000 ∧ Below w.heap.size w w' := by
  obtain ⟨A, c, e0, _⟩ := id hv
  subst e0
  go_enter Tryz.func10, Tryz.ntmps10
  go_wp2_with (first | (go_at_call 25; refine (l01From_any w _ n hv (by omega)).mono ?_; rintro e w1 ⟨b, rfl, hb, s1, B1⟩; have K1 := Only.refl b w1) | (go_at_call 35; refine (l02Draw_any _ b _ n s1 (by omega)).mono ?_; rintro e w2 ⟨m, A2, c2, xs, rfl, ⟨hm, hlx, hbx⟩, ox, s2, o2⟩) | (go_at_call 30; refine (l02Text_any _ m _ xs (by omega) ox.rd (by omega) (fun k => by have := hbx k; omega)).mono ?_; rintro e w3 ⟨rfl, hb3⟩))
  have HTL : (serT m xs).length ≤ 2200000 := by
    have h1 := listT_len (xs := xs) fun k => by have := hbx k; omega
    have h2 := itoa_len (n := m) (by omega) (by omega)
    unfold serT
    simp only [List.length_append, List.length_cons]
    omega
  generalize hV : Value.slice A n c = V at *
  obtain ⟨S0, hS0⟩ : ∃ S0 : ByteArray, (⟨(serT m xs).toArray⟩ : ByteArray) = S0 := ⟨_, rfl⟩
  have hz0 : S0.size ≤ 2200000 := by rw [← hS0, size_mk]; exact HTL
  rw [hS0]
  obtain ⟨a0, h0, x0⟩ := (s2.keep hb3).x
  have X0 := Lib.hid x0
  have KB0 : Hid (Below w.heap.size w w3) := (Only.behind B1 o2 hb B1.size).trans (hb3.mono (by have := o2.size; have := B1.size; omega))
  have ha0 := x0.2.2.2.1.1
  clear hS0 x0
  go_loopw [4] (fun s wr => ∃ (S : ByteArray) (a h : Nat), s = .string S ∧ a ≤ n ∧ Hid (SrcX wr b V n a h) ∧ Hid (dmI n S.size a h) ∧ Hid (Below w.heap.size w wr)) (fun _ wr => dmW wr b n)
  case atStart => exact ⟨S0, a0, h0, rfl, ha0, X0, dm_start hn hz0 ha0, KB0⟩
  case round =>
    clear X0 KB0
    obtain ⟨S, a, h, rfl, ha, HX, HI, HB⟩ := hrel
    have hsz := dm_size hn HI.out
    obtain ⟨H1, hH1⟩ : ∃ H, lcF h = H := ⟨_, rfl⟩
    obtain ⟨H2, hH2⟩ : ∃ H, lcF H1 = H := ⟨_, rfl⟩
    obtain ⟨H3, hH3⟩ : ∃ H, lcF H2 = H := ⟨_, rfl⟩
    obtain ⟨H4, hH4⟩ : ∃ H, lcF H3 = H := ⟨_, rfl⟩
    obtain ⟨Y1, hY1⟩ : ∃ Y, lcY H1 = Y := ⟨_, rfl⟩
    have HH1 := Lib.hid hH1
    have HH2 := Lib.hid hH2
    have HH3 := Lib.hid hH3
    have HH4 := Lib.hid hH4
    have HY1 := Lib.hid hY1
    have HMW := Lib.hid (dmW_of HX.out)
    clear hH1 hH2 hH3 hH4 hY1
    have hbz := HX.out.2.1
    have hwz := HB.out.size
    go_wp2_with (fail)
    refine (l01Next_x _ b V n a h H1 Y1 3 HH1.out HY1.out HX.out (by omega) (by omega) (by omega)).mono ?_
    rintro e w5 ⟨x, rfl, hx0, hx3, hxe, s5, o5⟩
    have S5 := Lib.hid s5
    have B5 := Lib.hid (Only.behind HB.out o5 (by omega) hwz)
    have hw5 := B5.out.size
    have HXE := Lib.hid hxe
    clear s5 o5 hxe
    by_cases hx : x = 0
    · have hd : (x == 0) = true := by simpa using hx
      go_wp2_with (fail)
      refine (l01Damage_x _ b V n (min (a + 1) n) H1 H2 H3 H4 S HH2.out HH3.out HH4.out S5.out (by omega) hsz).mono ?_
      rintro e w6 ⟨T, rfl, h6a, h6b, o6⟩
      have B6 := Lib.hid (Only.behind B5.out o6 (by omega) hw5)
      have hg : Hid (a = n → lcY H1 % 3 = 0) := fun e => by
        have := HXE.out e
        rw [HY1.out]
        omega
      have key : ∃ a' h', SrcX w6 b V n a' h' ∧ dmI n T.size a' h' ∧ a' ≤ n ∧ dmM n a' h' < dmM n a h := by
        by_cases hs0 : S.size = 0
        · obtain ⟨t1, t2⟩ := h6a hs0
          exact ⟨_, _, t2, dm_round hn HH1.out HH2.out HH3.out HH4.out HI.out ha hg.out (.inl ⟨hs0, t1, rfl, rfl⟩)⟩
        · obtain ⟨t1, t2⟩ := h6b hs0
          exact ⟨_, _, t2, dm_round hn HH1.out HH2.out HH3.out HH4.out HI.out ha hg.out (.inr ⟨hs0, t1, rfl, rfl⟩)⟩
      obtain ⟨a', h', k1, k2, k3, k4⟩ := key
      clear h6a h6b o6 hg
      go_wp2_with (fail)
      go_roundw
      case rel => exact ⟨T, a', h', rfl, k3, k1, k2, B6⟩
      case measure => rw [dmW_of k1, HMW.out]; exact k4
    · have hd : (x == 0) = false := by simpa using hx
      go_wp2_with (fail)
      go_ret
      exact ⟨S, rfl, hsz, B5.out⟩

/-! ### Draws of planes -/
theorem OwnP.only {w w' : World} {lo hi b : Nat} {v : Value} {xss : List (List Int)} (h : OwnP w lo hi v xss) (R : Only b w w') (hb : b < lo) : OwnP w' lo hi v xss := h.of_block fun k hk h1 _ => R.block k hk (by omega)
/-- A cell of a table, and what a store into it makes. -/
theorem OwnP.putZ {w : World} {lo hi : Nat} {g n c : Nat} {f : Nat → Nat → Int} (h : OwnP w lo hi (.slice (some ⟨g, 0, none⟩) n c) (tab n f)) {i j : Nat} (hij : i + j < n) :
    ∃ gr cr, w.cell? ⟨g, i, none⟩ = some (.slice (some ⟨gr, 0, none⟩) (n - i) cr) ∧ gr ≠ g ∧ lo ≤ gr ∧ gr < hi ∧ gr < w.heap.size ∧ w.cell? ⟨gr, j, none⟩ = some (.int .i64 (f i j)) ∧ w.frozen? ⟨gr, j, none⟩ = false ∧ ∀ y : Int, OwnP (w.setCell ⟨gr, j, none⟩ (.int .i64 y)) lo hi (.slice (some ⟨g, 0, none⟩) n c) (tab n (upd2 f i j y)) := by
  obtain ⟨Ar, cr, hcell⟩ := h.cell (k := i) (by rw [length_tab]; omega)
  rw [getD_tab _ (by omega), length_lst] at hcell
  obtain ⟨-, _, _, hw⟩ := h.rowW (i := i) (by rw [length_tab]; omega) hcell
  obtain ⟨gr, rfl, h1, h2, h3, h4, h5, h6, h7⟩ := hw j (by omega)
  rw [co2_tab f hij] at h5
  exact ⟨gr, cr, hcell, h1, h2, h3, h4, h5, h6, fun y => by rw [← set_tab' _ _ _ _ _ (by omega)]; exact h7 y⟩
/-- The rows of a table of d + 1 rows whose numbers lie in 0 .. m. -/
def RwB (m : Int) (d k : Nat) (xss : List (List Int)) : Prop := xss.length = k ∧ ∀ i, i < k → (xss.getD i []).length = d + 1 - i ∧ ∀ j, 0 ≤ (xss.getD i []).getD j 0 ∧ (xss.getD i []).getD j 0 ≤ m
theorem RwB.push {m : Int} {d k : Nat} {xss : List (List Int)} {x : List Int} (h : RwB m d k xss) (hx : x.length = d + 1 - k) (hb : ∀ j, 0 ≤ x.getD j 0 ∧ x.getD j 0 ≤ m) : RwB m d (k + 1) (xss ++ [x]) := by
  refine ⟨by simp [h.1], fun i hi => ?_⟩
  have e : (xss ++ [x]).getD i [] = if i < k then xss.getD i [] else x := by
    rw [List.getD_eq_getElem?_getD, List.getElem?_append, h.1]
    split
    · rw [← List.getD_eq_getElem?_getD]
    · have : i = k := by omega
      subst this
      simp
  rw [e]
  split
  · exact h.2 i (by omega)
  · have : i = k := by omega
    subst this
    exact ⟨hx, hb⟩
/-- A drawn plane lies in memory. -/
def RetPn (w : World) (b : Nat) (v : Value) (n : Nat) (d : Nat) (m : Int) (e : Ending) (w' : World) : Prop := ∃ (g c : Nat) (F : Nat → Nat → Int), e = .returned (.agg #[.int .i64 m, .slice (some ⟨g, 0, none⟩) (d + 1) c]) ∧ (∀ i j, 0 ≤ F i j ∧ F i j ≤ m) ∧ OwnP w' w.heap.size w'.heap.size (.slice (some ⟨g, 0, none⟩) (d + 1) c) (tab (d + 1) F) ∧ Src w' b v n ∧ Only b w w'
set_option maxRecDepth 4000 in
set_option maxHeartbeats 4000000 in
theorem l03With_any (w : World) (b : Nat) (v : Value) (n d : Nat) (m : Int) (hs : Src w b v n) (hn : n ≤ 1000000000) (hm : 1 ≤ m ∧ m ≤ 100000) (hd : d ≤ 100) :
    Calls Tryz.prog 54 #[.pointer (some ⟨b, 0, none⟩), .int .i64 m, .int .i64 (d : Int)] w (RetPn w b v n d m) := by
  have hbl := hs.lt
  have HS0 := Lib.hid hs
  have H0 := Lib.hid hs.1
  clear hs
  go_enter Tryz.func54, Tryz.ntmps54
  go_wp2
  go_loopw [7, 8] (fun s i wr => ∃ (k : Nat) (A : Option Addr) (c : Nat) (xss : List (List Int)), k ≤ d + 1 ∧ s = .slice A k c ∧ i = .int .i64 k ∧ Hid (RwB m d k xss) ∧ Hid (Bf wr w.heap.size (.int .i64 0) (.slice none 0 0)) ∧ Hid (OwnP wr (w.heap.size + 1) wr.heap.size (.slice A k c) xss) ∧ Hid (Src wr b v n) ∧ Hid (Only b w wr)) (fun _ i _ => d + 2 - (intOf i).toNat)
  case atStart =>
    refine ⟨0, _, 0, [], Nat.zero_le _, rfl, rfl, ⟨rfl, fun i hi => by omega⟩, ?_, ?_, ?_, ?_⟩
    · exact (Bf.alloc1 w _ _ _).al _
    · have := OwnP.start (W := w.alloc (.cells #[.int .i64 0, .slice none 0 0] 36)) (lo := w.heap.size + 1) (by simp)
      unfold Hid
      simpa using this
    · exact (HS0.out.alloc _).alloc _
    · exact ((Only.refl b w).alloc _).alloc _
  case round =>
    clear HS0
    obtain ⟨k, A, c', xss, hk, rfl, rfl, HR, HB, HO, HS, HK⟩ := hrel
    have zB := HB.out.1.1
    by_cases hlt : k < d + 1
    · have hk1 : (k : Int) ≤ (d : Int) := by omega
      obtain ⟨r, hr⟩ : ∃ r : Nat, (r : Int) = (d : Int) - (k : Int) + 1 := ⟨d + 1 - k, by omega⟩
      have HXL := Lib.hid HR.out.1
      go_wp2_with (fail)
      rw [← hr]
      refine (l01ListB_any _ b v n m r HS.out hn (by omega) (by omega)).mono ?_
      rintro e w3 ⟨A3, c3, x, rfl, hlx, ox, hbx, s3, o3⟩
      have O3 := Lib.hid ox
      have HBX := Lib.hid (hbx (by omega))
      have HXX := Lib.hid hlx
      have S3 := Lib.hid s3
      have K3 := Lib.hid (HK.out.trans o3)
      have P3 := Lib.hid (HO.out.only o3 (by omega))
      have B3 := Lib.hid (HB.out.only o3 (by omega))
      have z3 := o3.size
      clear ox hbx hlx s3 o3 HO HB HS
      go_wp2_with (at_builtin; refine appendP _ _ (w.heap.size + 1) wr.heap.size (.slice A k c') (.slice A3 x.length c3) xss x w3.heap.size (by rfl) (by rfl) (by rfl) (by rfl) (P3.out.alloc _) (by simp; omega) ((O3.out.alloc _).mono (by omega)) (fun g hg => (O3.out.block_ge hg).1) (heap_alloc_new w3 _) (by rw [HXL.out]; omega) (by simp; omega) ?_; intro A2 c2 w2 ho2 hg2; rw [HXL.out] at ho2 ⊢)
      go_roundw
      case rel =>
        have hne : ∀ q, (Value.slice A k c').ownBlock = some q → w.heap.size + 1 ≤ q := fun q hq => ownP_block_ge P3.out hq
        have K2 : Only b w w2 := (K3.out.alloc _).grown hg2 (fun q hq => by have := hne q hq; omega)
        refine ⟨k + 1, A2, c2, xss ++ [x], by omega, rfl, by go_num, HR.out.push (by rw [HXX.out]; omega) HBX.out, ?_, ho2, ?_, K2⟩
        · exact (B3.out.al _).grown hg2 (fun e => by have := hne _ e.symm; omega)
        · exact Src.grown H0.out K2 (S3.out.alloc _) hg2 (fun e => by have := hne _ e; omega)
      case measure => simp [intOf]; omega
    · have hkd : k = d + 1 := by omega
      have hd6 : decide ((k : Int) ≤ (d : Int)) = false := by simp; omega
      have hR := HR.out
      obtain ⟨g, c9, e9, -, -, hg9, -⟩ := HO.out.source k hR.1 (by omega)
      rw [e9] at HO ⊢
      have hxt : xss = tab (d + 1) (co2 xss) := by
        have e := tab_self (xss := xss) (fun i hi => by rw [hR.1] at hi ⊢; rw [(hR.2 i hi).1]; omega)
        rw [hR.1, hkd] at e
        exact e.symm
      have HFB : Hid (∀ i j, 0 ≤ co2 xss i j ∧ co2 xss i j ≤ m) := fun i j => by
        unfold co2 co
        by_cases hi : i < k
        · exact (hR.2 i hi).2 j
        · have e : xss.getD i [] = [] := by rw [List.getD_eq_getElem?_getD, List.getElem?_eq_none (by rw [hR.1]; omega)]; rfl
          rw [e]
          simp
          omega
      generalize co2 xss = F at *
      have HOF : Hid (OwnP wr (w.heap.size + 1) wr.heap.size (.slice (some ⟨g, 0, none⟩) (d + 1) c9) (tab (d + 1) F)) := by
        have h := HO.out
        rw [hxt, hkd] at h
        exact h
      have hkn : k < d + 2 := by omega
      have HKD := Lib.hid hkd
      clear HO HR hR hxt e9 hkd
      have FIN : Hid (∀ (W : World) (G : Nat → Nat → Int), (∀ i j, 0 ≤ G i j ∧ G i j ≤ m) → OwnP W (w.heap.size + 1) W.heap.size (.slice (some ⟨g, 0, none⟩) (d + 1) c9) (tab (d + 1) G) → Bf W w.heap.size (.int .i64 0) (.slice none 0 0) → Src W b v n → Only b w W → RetPn w b v n d m (.returned (.agg #[.int .i64 m, .slice (some ⟨g, 0, none⟩) k c9])) ((W.setCell ⟨w.heap.size, 0, none⟩ (.int .i64 m)).setCell ⟨w.heap.size, 1, none⟩ (.slice (some ⟨g, 0, none⟩) k c9))) := fun W G h1 h2 h3 h4 h5 => by
        rw [HKD.out]
        have KK : Only b w ((W.setCell ⟨w.heap.size, 0, none⟩ (.int .i64 m)).setCell ⟨w.heap.size, 1, none⟩ (.slice (some ⟨g, 0, none⟩) (d + 1) c9)) := (h5.setNew (p := ⟨w.heap.size, 0, none⟩) (Nat.le_refl _) _).setNew (p := ⟨w.heap.size, 1, none⟩) (Nat.le_refl _) _
        exact ⟨g, c9, G, rfl, h1, ((h2.far (p := ⟨w.heap.size, 0, none⟩) (.inl (by simp)) _).far (p := ⟨w.heap.size, 1, none⟩) (.inl (by simp)) _).mono (by omega) (by simp [World.setCell]), Src.re H0.out KK h4 (set2_block _ _ _ (by omega)) (by simp [World.setCell]), KK⟩
      have hz0 : (0 : Int) < (k : Int) := by omega
      have hz1 : 0 < k := by omega
      go_wp2_with (fail)
      refine (l01Next_any _ b v n 3 HS.out hn (by omega)).mono ?_
      rintro e w3 ⟨x, rfl, hx0, -, s3, o3⟩
      have S3 := Lib.hid s3
      have K3 := Lib.hid (HK.out.trans o3)
      have O3 := Lib.hid (HOF.out.only o3 (by omega))
      have B3 := Lib.hid (HB.out.only o3 (by omega))
      have z3 := o3.size
      clear s3 o3 HOF HB HS HK
      by_cases hx : x = 0
      · have hd : (x == 0) = true := by simpa using hx
        obtain ⟨gr, cr, hcr, hne, hgl, hgh, hgz, hd0, hf0, hset⟩ := O3.out.putZ (i := 0) (j := 0) (by omega)
        have hS := Lib.hid (hset 0)
        have hd3 : 0 < d + 1 := by omega
        have hd4 : (0 : Int) < (d : Int) + 1 := by omega
        simp only [Nat.sub_zero] at hcr
        clear hset
        go_wp2_with (fail)
        have XB0 : Bf (w3.setCell ⟨gr, 0, none⟩ (.int .i64 0)) w.heap.size (.int .i64 0) (.slice none 0 0) := B3.out.setCell (p := ⟨gr, 0, none⟩) (by simp; omega) _
        have XO0 : OwnP (w3.setCell ⟨gr, 0, none⟩ (.int .i64 0)) (w.heap.size + 1) (w3.setCell ⟨gr, 0, none⟩ (.int .i64 0)).heap.size (.slice (some ⟨g, 0, none⟩) (d + 1) c9) (tab (d + 1) (upd2 F 0 0 0)) := hS.out.mono (Nat.le_refl _) (by simp [World.setCell]; omega)
        have XK0 : Only b w (w3.setCell ⟨gr, 0, none⟩ (.int .i64 0)) := K3.out.setNew (p := ⟨gr, 0, none⟩) (by simp; omega) _
        have XS0 : Src (w3.setCell ⟨gr, 0, none⟩ (.int .i64 0)) b v n := Src.re H0.out XK0 S3.out (Below.heap_setCell _ ⟨gr, 0, none⟩ _ _ (by show b ≠ gr; omega)) (by simp [World.setCell])
        have GB : ∀ i j, 0 ≤ upd2 F 0 0 0 i j ∧ upd2 F 0 0 0 i j ≤ m := fun i j => by
          have := HFB.out i j
          unfold upd2
          split <;> omega
        generalize hwq : w3.setCell ⟨gr, 0, none⟩ _ = wq
        rw [hwq] at XB0 XO0 XK0 XS0
        refine (l03Make_any _ m (some ⟨g, 0, none⟩) k c9).mono ?_
        rintro e w7 ⟨rfl, hb7⟩
        have P7 := XB0.keep hb7
        have S7 := XS0.keep hb7
        have O7 := XO0.keep hb7
        have K7 := XK0.trans (Only.ofBelow hb7)
        have p7a := P7.1.2.1
        have p7b := P7.1.2.2
        have p7c := P7.2.1
        have p7d := P7.2.2
        have z7 := hb7.size
        go_wp2_with (fail)
        have Q := P7.put2 (x' := .int .i64 m) (y' := .slice (some ⟨g, 0, none⟩) k c9)
        have q1 := Q.1.2.1
        have q2 := Q.1.2.2
        exact bodyPost_ret (v := .agg #[.int .i64 m, .slice (some ⟨g, 0, none⟩) k c9]) (by simp [results, Tryz.results54, go_sem, q1, q2]) rfl (FIN.out w7 _ GB O7.hi_le P7 S7 K7)
      · have hd : (x == 0) = false := by simpa using hx
        have XB := B3.out
        have XO := O3.out.hi_le
        have XS := S3.out
        have XK := K3.out
        have GB := HFB.out
        go_wp2_with (go_at_call 56; refine (l03Make_any _ m (some ⟨g, 0, none⟩) k c9).mono ?_; rintro e w7 ⟨rfl, hb7⟩; have P7 := XB.keep hb7; have S7 := XS.keep hb7; have O7 := XO.keep hb7; have K7 := XK.trans (Only.ofBelow hb7); have p7a := P7.1.2.1; have p7b := P7.1.2.2; have p7c := P7.2.1; have p7d := P7.2.2; have z7 := hb7.size)
        have Q := P7.put2 (x' := .int .i64 m) (y' := .slice (some ⟨g, 0, none⟩) k c9)
        have q1 := Q.1.2.1
        have q2 := Q.1.2.2
        exact bodyPost_ret (v := .agg #[.int .i64 m, .slice (some ⟨g, 0, none⟩) k c9]) (by simp [results, Tryz.results54, go_sem, q1, q2]) rfl (FIN.out w7 _ GB O7.hi_le P7 S7 K7)

theorem tab_rows {n : Nat} {F : Nat → Nat → Int} {m : Int} (hm : 0 ≤ m) (h : ∀ i j, 0 ≤ F i j ∧ F i j ≤ m) (k j : Nat) : 0 ≤ ((tab n F).getD k []).getD j 0 ∧ ((tab n F).getD k []).getD j 0 ≤ m := by
  by_cases hk : k < n
  · rw [getD_tab F hk]
    unfold lst
    simp only [List.getD_eq_getElem?_getD, List.getElem?_map]
    by_cases hj : j < n - k
    · rw [List.getElem?_range hj]
      exact h k j
    · rw [List.getElem?_eq_none (by simpa using hj)]
      simp
      omega
  · have e : (tab n F).getD k [] = [] := by rw [List.getD_eq_getElem?_getD, List.getElem?_eq_none (by rw [length_tab]; omega)]; rfl
    rw [e]
    simp
    omega
theorem tab_rowl {n : Nat} {F : Nat → Nat → Int} (k : Nat) : ((tab n F).getD k []).length ≤ n := by
  by_cases hk : k < n
  · rw [getD_tab F hk, length_lst]; omega
  · have e : (tab n F).getD k [] = [] := by rw [List.getD_eq_getElem?_getD, List.getElem?_eq_none (by rw [length_tab]; omega)]; rfl
    rw [e]
    simp
set_option maxRecDepth 4000 in
set_option maxHeartbeats 4000000 in
theorem DrawParsePlane_any (w : World) (v : Value) (n : Nat) (hv : RdY w w.heap.size v n) (hn : n ≤ 4096) : Calls Tryz.prog 19 #[v] w fun e w' => ∃ S : ByteArray, e = .returned (.string S) ∧ S.size ≤ 900000000 ∧ Below w.heap.size w w' := by
  obtain ⟨A, c, e0, _⟩ := id hv
  subst e0
  go_enter Tryz.func19, Tryz.ntmps19
  go_wp2_with (first | (go_at_call 25; refine (l01From_any w _ n hv (by omega)).mono ?_; rintro e w1 ⟨b, rfl, hb, s1, B1⟩; have K1 := Only.refl b w1) | (go_at_call 55; refine (l01DrawModulus_any _ b _ n s1 (by omega)).mono ?_; rintro e w2 ⟨m, rfl, hm, s2, o2⟩) | (go_at_call 36; refine (l01Next_any _ b _ n 4 s2 (by omega) (by omega)).mono ?_; rintro e w3 ⟨x3, rfl, g3, h3, s3, o3⟩; have h3 := h3.1 (by omega)))
  obtain ⟨d, hd⟩ : ∃ d : Nat, (d : Int) = 1 + x3 := ⟨(1 + x3).toNat, by omega⟩
  rw [← hd]
  refine (l03With_any _ b _ n d m s3 (by omega) (by omega) (by omega)).mono ?_
  rintro e w4 ⟨g, cg, F, rfl, hF, ho, s4, o4⟩
  have z2 := o2.size
  have z3 := o3.size
  have z4 := o4.size
  have z1 := B1.size
  have B4 := Only.behind B1 ((o2.trans o3).trans o4) hb B1.size
  have hn2 : ∀ k j, 0 ≤ ((tab (d + 1) F).getD k []).getD j 0 ∧ ((tab (d + 1) F).getD k []).getD j 0 ≤ 1000000 := fun k j => by
    have := tab_rows (n := d + 1) (show 0 ≤ m by omega) hF k j
    omega
  have hn3 : ∀ k, ((tab (d + 1) F).getD k []).length ≤ 100 := fun k => by
    have := tab_rowl (n := d + 1) (F := F) k
    omega
  have HTX := Lib.hid (l03Text_any w4 m _ (tab (d + 1) F) ho.rd (by omega) hn2 hn3 (by rw [length_tab]; omega))
  have HTL : (plT m (tab (d + 1) F)).length ≤ 2200000 := by
    have := plT_len_take (m := m) (xss := tab (d + 1) F) (by omega) hn2 hn3 (by rw [length_tab]; omega) (d + 1)
    rw [List.take_of_length_le (by rw [length_tab]; omega)] at this
    exact this
  go_wp2_with (fail)
  refine (HTX.out).mono ?_
  rintro e w5 ⟨rfl, hb5⟩
  go_wp2_with (fail)
  generalize hV : Value.slice A n c = V at *
  obtain ⟨S0, hS0⟩ : ∃ S0 : ByteArray, (⟨(plT m (tab (d + 1) F)).toArray⟩ : ByteArray) = S0 := ⟨_, rfl⟩
  have hz0 : S0.size ≤ 2200000 := by rw [← hS0, size_mk]; exact HTL
  rw [hS0]
  obtain ⟨a0, h0, x0⟩ := (s4.keep hb5).x
  have X0 := Lib.hid x0
  have KB0 : Hid (Below w.heap.size w w5) := B4.trans (hb5.mono (by omega))
  have ha0 := x0.2.2.2.1.1
  clear hS0 x0
  go_loopw [4] (fun s wr => ∃ (S : ByteArray) (a h : Nat), s = .string S ∧ a ≤ n ∧ Hid (SrcX wr b V n a h) ∧ Hid (dmI n S.size a h) ∧ Hid (Below w.heap.size w wr)) (fun _ wr => dmW wr b n)
  case atStart => exact ⟨S0, a0, h0, rfl, ha0, X0, dm_start hn hz0 ha0, KB0⟩
  case round =>
    clear X0 KB0
    obtain ⟨S, a, h, rfl, ha, HX, HI, HB⟩ := hrel
    have hsz := dm_size hn HI.out
    obtain ⟨H1, hH1⟩ : ∃ H, lcF h = H := ⟨_, rfl⟩
    obtain ⟨H2, hH2⟩ : ∃ H, lcF H1 = H := ⟨_, rfl⟩
    obtain ⟨H3, hH3⟩ : ∃ H, lcF H2 = H := ⟨_, rfl⟩
    obtain ⟨H4, hH4⟩ : ∃ H, lcF H3 = H := ⟨_, rfl⟩
    obtain ⟨Y1, hY1⟩ : ∃ Y, lcY H1 = Y := ⟨_, rfl⟩
    have HH1 := Lib.hid hH1
    have HH2 := Lib.hid hH2
    have HH3 := Lib.hid hH3
    have HH4 := Lib.hid hH4
    have HY1 := Lib.hid hY1
    have HMW := Lib.hid (dmW_of HX.out)
    clear hH1 hH2 hH3 hH4 hY1
    have hbz := HX.out.2.1
    have hwz := HB.out.size
    go_wp2_with (fail)
    refine (l01Next_x _ b V n a h H1 Y1 3 HH1.out HY1.out HX.out (by omega) (by omega) (by omega)).mono ?_
    rintro e w5 ⟨x, rfl, hx0, hx3, hxe, s5, o5⟩
    have S5 := Lib.hid s5
    have B5 := Lib.hid (Only.behind HB.out o5 (by omega) hwz)
    have hw5 := B5.out.size
    have HXE := Lib.hid hxe
    clear s5 o5 hxe
    by_cases hx : x = 0
    · have hd : (x == 0) = true := by simpa using hx
      go_wp2_with (fail)
      refine (l01Damage_x _ b V n (min (a + 1) n) H1 H2 H3 H4 S HH2.out HH3.out HH4.out S5.out (by omega) hsz).mono ?_
      rintro e w6 ⟨T, rfl, h6a, h6b, o6⟩
      have B6 := Lib.hid (Only.behind B5.out o6 (by omega) hw5)
      have hg : Hid (a = n → lcY H1 % 3 = 0) := fun e => by
        have := HXE.out e
        rw [HY1.out]
        omega
      have key : ∃ a' h', SrcX w6 b V n a' h' ∧ dmI n T.size a' h' ∧ a' ≤ n ∧ dmM n a' h' < dmM n a h := by
        by_cases hs0 : S.size = 0
        · obtain ⟨t1, t2⟩ := h6a hs0
          exact ⟨_, _, t2, dm_round hn HH1.out HH2.out HH3.out HH4.out HI.out ha hg.out (.inl ⟨hs0, t1, rfl, rfl⟩)⟩
        · obtain ⟨t1, t2⟩ := h6b hs0
          exact ⟨_, _, t2, dm_round hn HH1.out HH2.out HH3.out HH4.out HI.out ha hg.out (.inr ⟨hs0, t1, rfl, rfl⟩)⟩
      obtain ⟨a', h', k1, k2, k3, k4⟩ := key
      clear h6a h6b o6 hg
      go_wp2_with (fail)
      go_roundw
      case rel => exact ⟨T, a', h', rfl, k3, k1, k2, B6⟩
      case measure => rw [dmW_of k1, HMW.out]; exact k4
    · have hd : (x == 0) = false := by simpa using hx
      go_wp2_with (fail)
      go_ret
      exact ⟨S, rfl, hsz, B5.out⟩

/-! ### Draws of series that may be spoilt -/
set_option maxRecDepth 8000 in
set_option maxHeartbeats 4000000 in
theorem l02Spoil_any (w : World) (b : Nat) (v : Value) (n : Nat) (hs : Src w b v n) (hn : n ≤ 1000000000) :
    Calls Tryz.prog 24 #[.pointer (some ⟨b, 0, none⟩)] w (RetS w b v n fun m xs => (1 ≤ xs.length ∧ xs.length ≤ 30)) := by
  have hbl := hs.lt
  have H0 := Lib.hid hs.1
  have s0 := hs.alloc (.cells #[.int .i64 0, .slice none 0 0] 26)
  have K0 := (Only.refl b w).alloc (.cells #[.int .i64 0, .slice none 0 0] 26)
  clear hs
  have FIN : Hid (∀ (W : World) (m : Int) (g c : Nat) (xs : List Int), w.heap.size + 1 ≤ g → 1 ≤ xs.length ∧ xs.length ≤ 30 → RowI W g c xs → Bf W w.heap.size (.int .i64 0) (.slice none 0 0) → Src W b v n → Only b w W → RetS w b v n (fun m xs => (1 ≤ xs.length ∧ xs.length ≤ 30)) (.returned (.agg #[.int .i64 m, .slice (some ⟨g, 0, none⟩) xs.length c])) ((W.setCell ⟨w.heap.size, 0, none⟩ (.int .i64 m)).setCell ⟨w.heap.size, 1, none⟩ (.slice (some ⟨g, 0, none⟩) xs.length c))) := fun W m g c xs hg hx hr hB hS hK => by
    have KK : Only b w ((W.setCell ⟨w.heap.size, 0, none⟩ (.int .i64 m)).setCell ⟨w.heap.size, 1, none⟩ (.slice (some ⟨g, 0, none⟩) xs.length c)) := (hK.setNew (p := ⟨w.heap.size, 0, none⟩) (Nat.le_refl _) _).setNew (p := ⟨w.heap.size, 1, none⟩) (Nat.le_refl _) _
    exact ⟨m, _, c, xs, rfl, hx, ((hr.far (p := ⟨w.heap.size, 0, none⟩) (by show g ≠ w.heap.size; omega) _).far (p := ⟨w.heap.size, 1, none⟩) (by show g ≠ w.heap.size; omega) _).own (by omega), Src.re H0.out KK hS (set2_block _ _ _ (by omega)) (by simp [World.setCell]), KK⟩
  go_enter Tryz.func24, Tryz.ntmps24
  go_wp2_with (fail)
  refine (l02Draw_any _ b v n s0 hn).mono ?_
  rintro e w2 ⟨m, A2, c2, xs, rfl, ⟨hm, hlx, hbx⟩, ox, s2, o2⟩
  obtain ⟨g, hgA, hg1, hr⟩ : ∃ g, A2 = some ⟨g, 0, none⟩ ∧ w.heap.size + 1 ≤ g ∧ RowI w2 g c2 xs := by
    rcases ox.row with ⟨-, e2⟩ | ⟨g, c5, e5, hg, hr⟩
    · rw [e2] at hlx; simp at hlx
    · simp only [Value.slice.injEq, true_and] at e5
      obtain ⟨rfl, rfl⟩ := e5
      exact ⟨g, rfl, by simpa using hg, hr⟩
  subst hgA
  have hg2 := hr.lt
  have P2 := (Bf.alloc1 w (.int .i64 0) (.slice none 0 0) 26).only o2 (by omega)
  have K2 := K0.trans o2
  have zP := P2.1.1
  clear ox K0 o2 s0 hbx
  have HR2 := Lib.hid hr
  have HP2 := Lib.hid P2
  have HS2 := Lib.hid s2
  have HK2 := Lib.hid K2
  clear hr P2 s2 K2
  go_wp2_with (fail)
  obtain ⟨b2, hb2⟩ : ∃ b2, b2 = w2.heap.size := ⟨_, rfl⟩
  have hQ2 : Bf (w2.alloc (.cells #[.int .i64 m, .slice (some ⟨g, 0, none⟩) xs.length c2] 26)) b2 (.int .i64 m) (.slice (some ⟨g, 0, none⟩) xs.length c2) := by rw [hb2]; exact Bf.alloc1 w2 _ _ _
  rw [← hb2]
  refine (l01Next_any _ b v n 30 (HS2.out.alloc _) hn (by omega)).mono ?_
  rintro e w3 ⟨x, rfl, hx0, hx3, s3, o3⟩
  have hx3 := hx3.1 (by omega)
  have HR3 := Lib.hid ((HR2.out.alloc (.cells #[.int .i64 m, .slice (some ⟨g, 0, none⟩) xs.length c2] 26)).of_block (o3.block g (by simp; omega) (by omega)))
  have HP3 := Lib.hid ((HP2.out.al (.cells #[.int .i64 m, .slice (some ⟨g, 0, none⟩) xs.length c2] 26)).only o3 (by omega))
  have HQ3 := Lib.hid (hQ2.only o3 (by omega))
  have HS3 := Lib.hid s3
  have HK3 := Lib.hid ((HK2.out.alloc _).trans o3)
  have hz3 : b2 < w3.heap.size := HQ3.out.1.1
  have hgb : g < b2 := by omega
  have hwb : w.heap.size < b2 := by omega
  clear hQ2 o3 s3 HR2 HP2 HS2 HK2 hb2 hg2 zP
  have q3a := HQ3.out.1.2.1
  have q3b := HQ3.out.1.2.2
  have q3c := HQ3.out.2.1
  have q3d := HQ3.out.2.2
  have p3a := HP3.out.1.2.1
  have p3b := HP3.out.1.2.2
  have p3c := HP3.out.2.1
  have p3d := HP3.out.2.2
  obtain rfl | rfl | rfl | rfl | hx4 : x = 0 ∨ x = 1 ∨ x = 2 ∨ x = 3 ∨ 4 ≤ x := by omega
  · go_wp2_with (fail)
    refine (l01Pick_any _ b v _ n w3.heap.size [0, 1, 10001, 2] (HS3.out.alloc _) hn (OwnI.litN w3 _ _ (by rfl) (by simp [maxLen]) (Nat.le_refl _)) HS3.out.lt (by simp) (by simp) (fun _ => True) (fun _ _ => True.intro)).mono ?_
    rintro e w4 ⟨x4, rfl, -, s4, o4⟩
    have HR4 := Lib.hid ((HR3.out.alloc (.cells #[.int .i64 0, .int .i64 1, .int .i64 10001, .int .i64 2] 2)).of_block (o4.block g (by simp; omega) (by omega)))
    have HP4 := Lib.hid ((HP3.out.al (.cells #[.int .i64 0, .int .i64 1, .int .i64 10001, .int .i64 2] 2)).only o4 (by omega))
    have HQ4 := Lib.hid ((HQ3.out.al (.cells #[.int .i64 0, .int .i64 1, .int .i64 10001, .int .i64 2] 2)).only o4 (by omega))
    have HK4 := Lib.hid ((HK3.out.alloc _).trans o4)
    have q4a := HQ4.out.1.2.1
    have q4b := HQ4.out.1.2.2
    have q4c := HQ4.out.2.1
    have q4d := HQ4.out.2.2
    have p4a := HP4.out.1.2.1
    have p4b := HP4.out.1.2.2
    have p4c := HP4.out.2.1
    have p4d := HP4.out.2.2
    clear q3a q3b q3c q3d p3a p3b p3c p3d o4
    go_wp2_with (fail)
    have KK : Only b w (w4.setCell ⟨b2, 0, none⟩ (.int .i64 x4)) := HK4.out.setNew (p := ⟨b2, 0, none⟩) (by show w.heap.size ≤ b2; omega) _
    have PP : Bf (w4.setCell ⟨b2, 0, none⟩ (.int .i64 x4)) w.heap.size (.int .i64 0) (.slice none 0 0) := HP4.out.setCell (p := ⟨b2, 0, none⟩) (by show b2 ≠ w.heap.size; omega) _
    have Q := PP.put2 (x' := .int .i64 x4) (y' := .slice (some ⟨g, 0, none⟩) xs.length c2)
    have q1 := Q.1.2.1
    have q2 := Q.1.2.2
    exact bodyPost_ret (v := .agg #[.int .i64 x4, .slice (some ⟨g, 0, none⟩) xs.length c2]) (by simp [results, Tryz.results24, go_sem, q1, q2]) rfl (FIN.out _ x4 g c2 xs hg1 (by omega) (HR4.out.far (p := ⟨b2, 0, none⟩) (by show g ≠ b2; omega) _) PP (Src.re H0.out KK s4 (Below.heap_setCell _ ⟨b2, 0, none⟩ _ _ (by show b ≠ b2; omega)) (by simp [World.setCell])) KK)
  · have hl1 : (1 : Int) ≤ (xs.length : Int) := by omega
    have hcl := HR3.out.1
    have hl2 : (1 : Int) ≤ (c2 : Int) := by omega
    go_wp2_with (fail)
    have KK : Only b w (w3.setCell ⟨b2, 1, none⟩ (.slice (some ⟨g, 0, none⟩) 1 c2)) := HK3.out.setNew (p := ⟨b2, 1, none⟩) (by show w.heap.size ≤ b2; omega) _
    have PP : Bf (w3.setCell ⟨b2, 1, none⟩ (.slice (some ⟨g, 0, none⟩) 1 c2)) w.heap.size (.int .i64 0) (.slice none 0 0) := HP3.out.setCell (p := ⟨b2, 1, none⟩) (by show b2 ≠ w.heap.size; omega) _
    have htl : (xs.take 1).length = 1 := by rw [List.length_take]; omega
    have RR := FIN.out _ m g c2 (xs.take 1) hg1 (by omega) ((HR3.out.cut (n := 1) (by omega)).far (p := ⟨b2, 1, none⟩) (by show g ≠ b2; omega) (.slice (some ⟨g, 0, none⟩) 1 c2)) PP (Src.re H0.out KK HS3.out (Below.heap_setCell _ ⟨b2, 1, none⟩ _ _ (by show b ≠ b2; omega)) (by simp [World.setCell])) KK
    rw [htl] at RR
    have Q := PP.put2 (x' := .int .i64 m) (y' := .slice (some ⟨g, 0, none⟩) 1 c2)
    have q1 := Q.1.2.1
    have q2 := Q.1.2.2
    exact bodyPost_ret (v := .agg #[.int .i64 m, .slice (some ⟨g, 0, none⟩) 1 c2]) (by simp [results, Tryz.results24, go_sem, q1, q2]) rfl RR
  · obtain ⟨ys, hys⟩ : ∃ ys, xs ++ List.replicate 10 0 = ys := ⟨_, rfl⟩
    have hyl : ys.length = xs.length + 10 := by rw [← hys]; simp
    have HYS := Lib.hid hys
    have HYL := Lib.hid hyl
    clear hys hyl
    go_wp2_with (at_builtin; refine appendZeros _ _ (w.heap.size + 1) (.slice (some ⟨g, 0, none⟩) xs.length c2) xs 10 (by rfl) (by rfl) (by rfl) (by rfl) (HR3.out.own hg1) (by omega) (by omega) (by omega) ?_; rw [HYS.out]; intro v4 w4 h4 g4; rcases h4.row with ⟨-, e4⟩ | ⟨gg, cc, rfl, hgg, hrr⟩; (focus (have hyl := HYL.out; rw [e4] at hyl; simp at hyl)); have HRR := Lib.hid hrr; have HG4 := Lib.hid g4; have HQ4 := Lib.hid (HQ3.out.grown g4 (by simp [Value.ownBlock]; omega)); have HP4 := Lib.hid (HP3.out.grown g4 (by simp [Value.ownBlock]; omega)); have q4a := HQ4.out.1.2.1; have q4b := HQ4.out.1.2.2; have q4c := HQ4.out.2.1; have q4d := HQ4.out.2.2; have p4a := HP4.out.1.2.1; have p4b := HP4.out.1.2.2; have p4c := HP4.out.2.1; have p4d := HP4.out.2.2; clear h4 g4 hrr q3a q3b q3c q3d p3a p3b p3c p3d)
    have hyl := HYL.out
    have hgg2 : gg ≠ b2 := by
      rintro rfl
      have h1 := HRR.out.cell (k := 1) (by omega)
      rw [q4b] at h1
      simp at h1
    have K4 : Only b w w4 := HK3.out.grown HG4.out (fun q hq => by simp [Value.ownBlock] at hq; omega)
    have S4 : Src w4 b v n := Src.grown H0.out K4 HS3.out HG4.out (by simp [Value.ownBlock]; omega)
    have KK : Only b w (w4.setCell ⟨b2, 1, none⟩ (.slice (some ⟨gg, 0, none⟩) ys.length cc)) := K4.setNew (p := ⟨b2, 1, none⟩) (by show w.heap.size ≤ b2; omega) _
    have PP : Bf (w4.setCell ⟨b2, 1, none⟩ (.slice (some ⟨gg, 0, none⟩) ys.length cc)) w.heap.size (.int .i64 0) (.slice none 0 0) := HP4.out.setCell (p := ⟨b2, 1, none⟩) (by show b2 ≠ w.heap.size; omega) _
    clear hyl
    have Q := PP.put2 (x' := .int .i64 m) (y' := .slice (some ⟨gg, 0, none⟩) ys.length cc)
    have q1 := Q.1.2.1
    have q2 := Q.1.2.2
    exact bodyPost_ret (v := .agg #[.int .i64 m, .slice (some ⟨gg, 0, none⟩) ys.length cc]) (by simp [results, Tryz.results24, go_sem, q1, q2]) rfl (FIN.out _ m gg cc ys hgg (by have := HYL.out; omega) (HRR.out.far (p := ⟨b2, 1, none⟩) hgg2 _) PP (Src.re H0.out KK S4 (Below.heap_setCell _ ⟨b2, 1, none⟩ _ _ (by show b ≠ b2; omega)) (by simp [World.setCell])) KK)
  · have hl1 : (0 : Int) < (xs.length : Int) := by omega
    have hl2 : 0 < xs.length := by omega
    go_upto_region 10 with fail
    have x0c := HR3.out.cell (k := 0) hl2
    have x0f := HR3.out.free 0
    have S3D := Lib.hid (Src.drew HS3.out)
    have R3D := Lib.hid (RowI.drew HR3.out)
    have Q3D := Lib.hid (Bf.drewN HQ3.out 1)
    have P3D := Lib.hid (Bf.drewN HP3.out 1)
    have K3D := Lib.hid (Only.drew HK3.out)
    go_region_law (go_simp; go_at_call 59; refine (l01Pick_any _ b v _ n _ [-1, m, 1099511627776] (S3D.out.alloc _) hn (OwnI.litN (World.drew w3) _ _ (by rfl) (by simp [maxLen]) (Nat.le_refl _)) HS3.out.lt (by simp) (by simp) (fun _ => True) (fun _ _ => True.intro)).mono ?_; rintro e w4 ⟨x4, rfl, -, s4, o4⟩; have HR4 := Lib.hid ((R3D.out.alloc (.cells #[.int .i64 (-1), .int .i64 m, .int .i64 1099511627776] 2)).of_block (o4.block g (by simp; omega) (by omega))); have HQ4 := Lib.hid ((Q3D.out.al (.cells #[.int .i64 (-1), .int .i64 m, .int .i64 1099511627776] 2)).only o4 (by omega)); have q4b := HQ4.out.1.2.1; have q4c := HQ4.out.1.2.2; have c4 := HR4.out.cell (k := 0) hl2; have f4 := HR4.out.free 0)
    all_goals
      have PP : Bf (w4.setCell ⟨g, 0, none⟩ (.int .i64 x4)) w.heap.size (.int .i64 0) (.slice none 0 0) := ((P3D.out.al (.cells #[.int .i64 (-1), .int .i64 m, .int .i64 1099511627776] 2)).only o4 (by omega)).setCell (p := ⟨g, 0, none⟩) (by show g ≠ w.heap.size; omega) _
      have QQ : Bf (w4.setCell ⟨g, 0, none⟩ (.int .i64 x4)) b2 (.int .i64 m) (.slice (some ⟨g, 0, none⟩) xs.length c2) := HQ4.out.setCell (p := ⟨g, 0, none⟩) (by show g ≠ b2; omega) _
      have KK : Only b w (w4.setCell ⟨g, 0, none⟩ (.int .i64 x4)) := ((K3D.out.alloc _).trans o4).setNew (p := ⟨g, 0, none⟩) (by show w.heap.size ≤ g; omega) _
      have SS : Src (w4.setCell ⟨g, 0, none⟩ (.int .i64 x4)) b v n := Src.re H0.out KK s4 (Below.heap_setCell _ ⟨g, 0, none⟩ _ _ (by show b ≠ g; omega)) (by simp [World.setCell])
      have RR := HR4.out.set_ 0 x4
      have q5a := QQ.1.2.1
      have q5b := QQ.1.2.2
      have p5a := PP.1.2.1
      have p5b := PP.1.2.2
      have p5c := PP.2.1
      have p5d := PP.2.2
      have HL5 : (xs.set 0 x4).length = xs.length := List.length_set
      have FF := FIN.out _ m g c2 (xs.set 0 x4) hg1 (by rw [HL5]; omega) RR PP SS KK
      rw [HL5] at FF
      clear q4b q4c c4 f4 q3a q3b q3c q3d p3a p3b p3c p3d HL5 RR x0c x0f
      go_wp2_with (fail)
      have Q := PP.put2 (x' := .int .i64 m) (y' := .slice (some ⟨g, 0, none⟩) xs.length c2)
      have q1 := Q.1.2.1
      have q2 := Q.1.2.2
      exact bodyPost_ret (v := .agg #[.int .i64 m, .slice (some ⟨g, 0, none⟩) xs.length c2]) (by simp [results, Tryz.results24, go_sem, q1, q2]) rfl FF
  · have x0 : (x == 0) = false := beq_eq_false_iff_ne.2 (by omega)
    have x1 : (x == 1) = false := beq_eq_false_iff_ne.2 (by omega)
    have x2 : (x == 2) = false := beq_eq_false_iff_ne.2 (by omega)
    have x3 : (x == 3) = false := beq_eq_false_iff_ne.2 (by omega)
    go_wp2_with (fail)
    have Q := HP3.out.put2 (x' := .int .i64 m) (y' := .slice (some ⟨g, 0, none⟩) xs.length c2)
    have q1 := Q.1.2.1
    have q2 := Q.1.2.2
    exact bodyPost_ret (v := .agg #[.int .i64 m, .slice (some ⟨g, 0, none⟩) xs.length c2]) (by simp [results, Tryz.results24, go_sem, q1, q2]) rfl (FIN.out w3 m g c2 xs hg1 (by omega) HR3.out HP3.out HS3.out HK3.out)
/-- A new series is returned. -/
def NewSer (w : World) (e : Ending) (w' : World) : Prop := ∃ (m : Int) (A : Option Addr) (c : Nat) (xs : List Int), e = .returned (.agg #[.int .i64 m, .slice A xs.length c]) ∧ (1 ≤ xs.length ∧ xs.length ≤ 30) ∧ OwnI w' w.heap.size (.slice A xs.length c) xs ∧ Below w.heap.size w w'
set_option maxRecDepth 4000 in
set_option maxHeartbeats 4000000 in
theorem DrawSeriesText_any (w : World) (v : Value) (n : Nat) (hv : RdY w w.heap.size v n) (hn : n ≤ 4096) : Calls Tryz.prog 5 #[v] w (NewSer w) := by
  obtain ⟨A, c, e0, _⟩ := id hv
  subst e0
  have hv1 : RdY (w.alloc (.cells #[.int .i64 0, .slice none 0 0] 26)) (w.alloc (.cells #[.int .i64 0, .slice none 0 0] 26)).heap.size (.slice A n c) n := by
    obtain ⟨A', c', h1, h2, h3, h4⟩ := hv
    refine ⟨A', c', h1, h2, h3, fun k hk => ?_⟩
    obtain ⟨g, off, x, e, hg, hb, hc, hx⟩ := h4 k hk
    exact ⟨g, off, x, e, by simp; omega, by simp; omega, (((Below.refl w.heap.size w).alloc (Nat.le_refl _) _).cell (p := ⟨g, off + k, none⟩) hg).trans hc, hx⟩
  go_enter Tryz.func5, Tryz.ntmps5
  go_wp2_with (fail)
  refine (l01From_any _ _ n hv1 (by omega)).mono ?_
  rintro e w1 ⟨b, rfl, hb, s1, B1⟩
  go_wp2_with (fail)
  refine (l02Spoil_any _ b _ n s1 (by omega)).mono ?_
  rintro e w2 ⟨m, A2, c2, xs, rfl, hlx, ox, s2, o2⟩
  simp at hb
  have P1 := (Bf.alloc1 w (.int .i64 0) (.slice none 0 0) 26).keep B1
  have P2 := P1.only o2 (by omega)
  have z1 := P1.1.1
  have K1 : Below w.heap.size w w1 := (below_alloc1 w _).trans (B1.mono (by simp))
  have K2 := Only.behind K1 o2 (by omega) K1.size
  have p2a := P2.1.2.1
  have p2b := P2.1.2.2
  have p2c := P2.2.1
  have p2d := P2.2.2
  go_wp2_with (fail)
  have Q := P2.put2 (x' := .int .i64 m) (y' := .slice A2 xs.length c2)
  have q1 := Q.1.2.1
  have q2 := Q.1.2.2
  exact bodyPost_ret (v := .agg #[.int .i64 m, .slice A2 xs.length c2]) (by simp [results, Tryz.results5, go_sem, q1, q2]) rfl ⟨m, A2, c2, xs, rfl, hlx, ((ox.setCell_lt (p := ⟨w.heap.size, 0, none⟩) z1 _).setCell_lt (p := ⟨w.heap.size, 1, none⟩) z1 _).mono (by omega), (K2.setCell (p := ⟨w.heap.size, 0, none⟩) (Nat.le_refl _) _).setCell (p := ⟨w.heap.size, 1, none⟩) (Nat.le_refl _) _⟩

/-! ### The draw for orders -/
set_option maxRecDepth 4000 in
set_option maxHeartbeats 4000000 in
theorem DrawOrderOfSeries_any (w : World) (v : Value) (n : Nat) (hv : RdY w w.heap.size v n) (hn : n ≤ 4096) : Calls Tryz.prog 21 #[v] w (NewSer w) := by
  obtain ⟨A, c, e0, _⟩ := id hv
  subst e0
  have hv1 : RdY (w.alloc (.cells #[.int .i64 0, .slice none 0 0] 26)) (w.alloc (.cells #[.int .i64 0, .slice none 0 0] 26)).heap.size (.slice A n c) n := by
    obtain ⟨A', c', h1, h2, h3, h4⟩ := hv
    refine ⟨A', c', h1, h2, h3, fun k hk => ?_⟩
    obtain ⟨g, off, x, e, hg, hb, hc, hx⟩ := h4 k hk
    exact ⟨g, off, x, e, by simp; omega, by simp; omega, (((Below.refl w.heap.size w).alloc (Nat.le_refl _) _).cell (p := ⟨g, off + k, none⟩) hg).trans hc, hx⟩
  go_enter Tryz.func21, Tryz.ntmps21
  go_wp2_with (fail)
  refine (l01From_any _ _ n hv1 (by omega)).mono ?_
  rintro e w1 ⟨b, rfl, hb, s1, B1⟩
  go_wp2_with (fail)
  refine (l02Spoil_any _ b _ n s1 (by omega)).mono ?_
  rintro e w2 ⟨m, A2, c2, xs, rfl, hlx, ox, s2, o2⟩
  simp at hb
  have P1 := (Bf.alloc1 w (.int .i64 0) (.slice none 0 0) 26).keep B1
  have P2 := P1.only o2 (by omega)
  have z1 := P1.1.1
  have K1 : Below w.heap.size w w1 := (below_alloc1 w _).trans (B1.mono (by simp))
  have K2 := Only.behind K1 o2 (by omega) K1.size
  obtain ⟨g, hgA, hg1, hr⟩ : ∃ g, A2 = some ⟨g, 0, none⟩ ∧ w1.heap.size ≤ g ∧ RowI w2 g c2 xs := by
    rcases ox.row with ⟨-, e2⟩ | ⟨g, c5, e5, hg, hr⟩
    · rw [e2] at hlx; simp at hlx
    · simp only [Value.slice.injEq, true_and] at e5
      obtain ⟨rfl, rfl⟩ := e5
      exact ⟨g, rfl, hg, hr⟩
  subst hgA
  have hbl := s1.lt
  have H1 := Lib.hid s1.1
  have hgz := hr.lt
  obtain ⟨b2, hb2⟩ : ∃ b2, b2 = w2.heap.size := ⟨_, rfl⟩
  have HQ2 : Hid (Bf (w2.alloc (.cells #[.int .i64 m, .slice (some ⟨g, 0, none⟩) xs.length c2] 26)) b2 (.int .i64 m) (.slice (some ⟨g, 0, none⟩) xs.length c2)) := by unfold Hid; rw [hb2]; exact Bf.alloc1 w2 _ _ _
  have HP2 := Lib.hid (P2.al (.cells #[.int .i64 m, .slice (some ⟨g, 0, none⟩) xs.length c2] 26))
  have HS2 := Lib.hid (s2.alloc (.cells #[.int .i64 m, .slice (some ⟨g, 0, none⟩) xs.length c2] 26))
  have HO2 := Lib.hid (o2.alloc (.cells #[.int .i64 m, .slice (some ⟨g, 0, none⟩) xs.length c2] 26))
  have HR2 := Lib.hid (hr.alloc (.cells #[.int .i64 m, .slice (some ⟨g, 0, none⟩) xs.length c2] 26))
  have hgb : g < b2 := by omega
  have zo := o2.size
  have hwb : w.heap.size < b2 := by omega
  have HK1 := Lib.hid K1
  clear P1 P2 K2 ox s1 s2 o2 hr hgz B1 K1 hv1
  go_wp2_with (fail)
  rw [← hb2]
  generalize hW : w2.alloc _ = W2 at *
  clear hW
  obtain ⟨L, hL⟩ : ∃ L, xs.length = L := ⟨_, rfl⟩
  rw [hL] at HQ2 hlx ⊢
  have HLL := Lib.hid hL
  clear hL hb2
  go_loopw [5] (fun s wr => ∃ (i : Nat) (ys : List Int), i ≤ 5 ∧ s = .int .i64 (i : Int) ∧ Hid (ys.length = L) ∧ Hid (RowI wr g c2 ys) ∧ Hid (Bf wr b2 (.int .i64 m) (.slice (some ⟨g, 0, none⟩) L c2)) ∧ Hid (Bf wr w.heap.size (.int .i64 0) (.slice none 0 0)) ∧ Hid (Src wr b (.slice A n c) n) ∧ Hid (Only b w1 wr)) (fun s _ => 7 - (intOf s).toNat)
  case atStart => exact ⟨0, xs, by omega, rfl, HLL, HR2, HQ2, HP2, HS2, HO2⟩
  case round =>
    clear HR2 HQ2 HP2 HS2 HO2 HLL
    obtain ⟨i, ys, hi, rfl, HY, HR, HQ, HP, HS, HO⟩ := hrel
    have zq := HQ.out.1.1
    go_wp2_with (fail)
    refine (l01Next_any _ b _ n 5 HS.out (by omega) (by omega)).mono ?_
    rintro e w3 ⟨x, rfl, hx0, hx5, s3, o3⟩
    have hx5 := hx5.1 (by omega)
    have HR3 := Lib.hid (HR.out.of_block (o3.block g (by omega) (by omega)))
    have HQ3 := Lib.hid (HQ.out.only o3 (by omega))
    have HP3 := Lib.hid (HP.out.only o3 (by omega))
    have HS3 := Lib.hid s3
    have HO3 := Lib.hid (HO.out.trans o3)
    have z3 := o3.size
    have zw := HO.out.size
    clear HR HQ HP HS HO s3 o3
    have q3a := HQ3.out.1.2.1
    have q3b := HQ3.out.1.2.2
    have q3c := HQ3.out.2.1
    have q3d := HQ3.out.2.2
    have p3a := HP3.out.1.2.1
    have p3b := HP3.out.1.2.2
    have p3c := HP3.out.2.1
    have p3d := HP3.out.2.2
    have FF : NewSer w (.returned (.agg #[.int .i64 m, .slice (some ⟨g, 0, none⟩) L c2])) ((w3.setCell ⟨w.heap.size, 0, none⟩ (.int .i64 m)).setCell ⟨w.heap.size, 1, none⟩ (.slice (some ⟨g, 0, none⟩) L c2)) := by
      have e := HY.out
      subst e
      exact ⟨m, _, c2, ys, rfl, hlx, ((HR3.out.far (p := ⟨w.heap.size, 0, none⟩) (by show g ≠ w.heap.size; omega) _).far (p := ⟨w.heap.size, 1, none⟩) (by show g ≠ w.heap.size; omega) _).own (by omega), ((Only.behind HK1.out HO3.out (by omega) HK1.out.size).setCell (p := ⟨w.heap.size, 0, none⟩) (Nat.le_refl _) _).setCell (p := ⟨w.heap.size, 1, none⟩) (Nat.le_refl _) _⟩
    have HFF := Lib.hid FF
    clear FF
    by_cases h1 : (i : Int) < x
    · by_cases h2 : i < L
      · have h3 : (i : Int) < (L : Int) := by omega
        have h4 : (0 : Int) ≤ (i : Int) := by omega
        have hyl : i < ys.length := by rw [HY.out]; exact h2
        have c3 := HR3.out.cell (k := i) hyl
        have f3 := HR3.out.free i
        have hi5 : i < 5 := by omega
        clear hyl
        go_wp2_with (fail)
        go_roundw
        case rel =>
          have OO := HO3.out.setNew (p := ⟨g, i, none⟩) (by show w1.heap.size ≤ g; omega) (.int .i64 0)
          exact ⟨i + 1, ys.set i 0, by omega, by go_num, by unfold Hid; rw [List.length_set]; exact HY.out, HR3.out.set_ i 0, HQ3.out.setCell (p := ⟨g, i, none⟩) (by show g ≠ b2; omega) _, HP3.out.setCell (p := ⟨g, i, none⟩) (by show g ≠ w.heap.size; omega) _, Src.re H1.out OO HS3.out (Below.heap_setCell _ ⟨g, i, none⟩ _ _ (by show b ≠ g; omega)) (by simp [World.setCell]), OO⟩
        case measure => simp [intOf]; omega
      · have h3 : decide ((i : Int) < (L : Int)) = false := by simp; omega
        go_wp2_with (fail)
        have Q := HP3.out.put2 (x' := .int .i64 m) (y' := .slice (some ⟨g, 0, none⟩) L c2)
        have q1 := Q.1.2.1
        have q2 := Q.1.2.2
        exact bodyPost_ret (v := .agg #[.int .i64 m, .slice (some ⟨g, 0, none⟩) L c2]) (by simp [results, Tryz.results21, go_sem, q1, q2]) rfl HFF.out
    · have h3 : decide ((i : Int) < x) = false := by simp; omega
      go_wp2_with (fail)
      have Q := HP3.out.put2 (x' := .int .i64 m) (y' := .slice (some ⟨g, 0, none⟩) L c2)
      have q1 := Q.1.2.1
      have q2 := Q.1.2.2
      exact bodyPost_ret (v := .agg #[.int .i64 m, .slice (some ⟨g, 0, none⟩) L c2]) (by simp [results, Tryz.results21, go_sem, q1, q2]) rfl HFF.out

end Go.Proofs.YtglbccikdglcgaaGreatDoor
