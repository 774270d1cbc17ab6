/- Contracts over this seat's translation. Condition: each contract's own. -/
import Derived.Test.YtglbccikdglcgaaGreatDoorC
import Derived.ProofKit
import Derived.Laws.Bits64b
import Derived.Lib.Mul64
import Derived.OpenShut
import Derived.Below
import Derived.ChangeSame
import Derived.Deep.Modes
import Derived.Lib.SmallJoins
import Derived.ChangeSlices
import Derived.WalkKit
import Derived.WalkSpells
import Derived.WalkLawsBesides
import Derived.Deep.QuietTactic
import Derived.BigQuiet
import Derived.Deep.RegionHeld3
import Derived.Deep.RegionWith
import Derived.Deep.RegionLaw
import Derived.Deep.AppendLies
import Derived.Laws.CopyOwn
import Derived.Deep.DeepCutAuto
import Derived.Deep.OwnRows
import Derived.Deep.LoopGhost
import Derived.Deep.DeepFit
import Derived.Deep.DeepMust
import Derived.Deep.Draws
import Derived.Deep.CutRange
import Derived.Maps.AppendAt
import Derived.Lib.Hide
import Derived.StillTailTactics
import Derived.Laws.MakeOwn
import Derived.Deep.Matrix
import Derived.ChangeAgain
import Derived.Lib.SplitLaws
import Derived.Lib.ParseIntB
import Derived.Lib.ItoaMem
import Derived.Lib.Join
import Derived.Lib.IndexBytes
set_option linter.unusedVariables false
open Go Go.RowKit
namespace Go.Proofs.YtglbccikdglcgaaGreatDoor
/-! ### The source of the draws: memory -/
/-- Of what was there only block b may have turned. -/
structure Only (b : Nat) (w w' : World) : Prop where
  os : w'.os = w.os
  tape : w'.tape = w.tape
  output : w'.output = w.output
  size : w.heap.size ≤ w'.heap.size
  block : ∀ k, k < w.heap.size → k ≠ b → w'.heap[k]? = w.heap[k]?
theorem Only.refl (b : Nat) (w : World) : Only b w w := ⟨rfl, rfl, rfl, Nat.le_refl _, fun _ _ _ => rfl⟩
theorem Only.trans {b : Nat} {x y z : World} (h : Only b x y) (k : Only b y z) : Only b x z :=
  ⟨k.os.trans h.os, k.tape.trans h.tape, k.output.trans h.output, Nat.le_trans h.size k.size, fun i hi hb => (k.block i (Nat.lt_of_lt_of_le hi h.size) hb).trans (h.block i hi hb)⟩
theorem Only.ofBelow {b : Nat} {w w' : World} (h : Below w.heap.size w w') : Only b w w' := ⟨h.os, h.tape, h.output, h.size, fun k hk _ => h.block k hk⟩
theorem Only.alloc {b : Nat} {w w' : World} (h : Only b w w') (o : Obj) : Only b w (w'.alloc o) :=
  h.trans ⟨rfl, rfl, rfl, by simp, fun k hk _ => Below.heap_alloc _ _ _ hk⟩
theorem Only.setCell {b : Nat} {w w' : World} (h : Only b w w') {p : Addr} (hp : p.block = b) (u : Value) : Only b w (w'.setCell p u) :=
  h.trans ⟨rfl, rfl, rfl, by simp [World.setCell], fun k hk hb => Below.heap_setCell _ _ _ _ (by omega)⟩
theorem Only.setNew {b : Nat} {w w' : World} (h : Only b w w') {p : Addr} (hp : w.heap.size ≤ p.block) (u : Value) : Only b w (w'.setCell p u) :=
  ⟨h.os, h.tape, h.output, by simpa [World.setCell] using h.size, fun k hk hb => (Below.heap_setCell _ _ _ _ (by omega)).trans (h.block k hk hb)⟩
theorem Only.drewN {b : Nat} {w w' : World} (h : Only b w w') (n : Nat) : Only b w (w'.drewN n) := ⟨h.os, h.tape, h.output, h.size, h.block⟩
theorem Only.drew {b : Nat} {w w' : World} (h : Only b w w') : Only b w w'.drew := ⟨h.os, h.tape, h.output, h.size, h.block⟩
theorem Only.cell {b : Nat} {w w' : World} (h : Only b w w') {p : Addr} (hp : p.block < w.heap.size) (hb : p.block ≠ b) : w'.cell? p = w.cell? p := World.cell?_of_block (w := w) (h.block p.block hp hb)
theorem Only.frozen {b : Nat} {w w' : World} (h : Only b w w') {p : Addr} (hp : p.block < w.heap.size) (hb : p.block ≠ b) : w'.frozen? p = w.frozen? p := World.frozen?_of_block (w := w) (h.block p.block hp hb)
theorem Only.below {B b : Nat} {w w' : World} (h : Only b w w') (hb : B ≤ b) (hB : B ≤ w.heap.size) : Below B w w' := ⟨h.os, h.tape, h.output, h.size, fun k hk => h.block k (by omega) (by omega)⟩
theorem Only.behind {B b : Nat} {a w w' : World} (h0 : Below B a w) (h : Only b w w') (hb : B ≤ b) (hB : B ≤ w.heap.size) : Below B a w' := h0.trans (h.below hb hB)
/-- Behind an append to a row that is new. -/
theorem Only.grown {b : Nat} {w w' w'' : World} {row : Option Nat} (h : Only b w w') (hg : w'.grownBy w'' row) (hr : ∀ k, row = some k → w.heap.size ≤ k) : Only b w w'' :=
  ⟨hg.os.trans h.os, hg.tape.trans h.tape, hg.output.trans h.output, Nat.le_trans h.size hg.size, fun k hk hb => (hg.block k (Nat.lt_of_lt_of_le hk h.size) (fun e => by have := hr k e.symm; omega)).trans (h.block k hk hb)⟩
/-- A slice of bytes that can be read, off block b. -/
def RdY (w : World) (b : Nat) (v : Value) (n : Nat) : Prop :=
  ∃ A c, v = .slice A n c ∧ n ≤ c ∧ c ≤ maxLen ∧ ∀ k, k < n → ∃ g off x, A = some ⟨g, off, none⟩ ∧ g < w.heap.size ∧ g ≠ b ∧ w.cell? ⟨g, off + k, none⟩ = some (.int .u8 x) ∧ 0 ≤ x ∧ x < 256
theorem RdY.only {w w' : World} {b : Nat} {v : Value} {n : Nat} (h : RdY w b v n) (R : Only b w w') : RdY w' b v n := by
  obtain ⟨A, c, h1, h2, h3, h4⟩ := h
  refine ⟨A, c, h1, h2, h3, fun k hk => ?_⟩
  obtain ⟨g, off, x, e, hg, hb, hc, hx⟩ := h4 k hk
  exact ⟨g, off, x, e, Nat.lt_of_lt_of_le hg R.size, hb, (R.cell (p := ⟨g, off + k, none⟩) hg hb).trans hc, hx⟩
/-- The source lies in block b: the code, how far it has been read, the hash. -/
def Src (w : World) (b : Nat) (v : Value) (n : Nat) : Prop :=
  RdY w b v n ∧ b < w.heap.size ∧ w.cell? ⟨b, 0, none⟩ = some v ∧ (∃ k : Nat, k ≤ n ∧ w.cell? ⟨b, 1, none⟩ = some (.int .i64 (k : Int))) ∧ (∃ h : Int, 0 ≤ h ∧ h < 18446744073709551616 ∧ w.cell? ⟨b, 2, none⟩ = some (.int .u64 h)) ∧
    w.frozen? ⟨b, 1, none⟩ = false ∧ w.frozen? ⟨b, 2, none⟩ = false
theorem Src.keep {w w' : World} {b : Nat} {v : Value} {n : Nat} (h : Src w b v n) (R : Below w.heap.size w w') : Src w' b v n := by
  obtain ⟨h1, h2, h3, ⟨k, hk, h4⟩, ⟨x, hx, hx', h5⟩, h6, h7⟩ := h
  exact ⟨h1.only (Only.ofBelow R), Nat.lt_of_lt_of_le h2 R.size, (R.cell (p := ⟨b, 0, none⟩) h2).trans h3, ⟨k, hk, (R.cell (p := ⟨b, 1, none⟩) h2).trans h4⟩, ⟨x, hx, hx', (R.cell (p := ⟨b, 2, none⟩) h2).trans h5⟩,
    (R.frozen (p := ⟨b, 1, none⟩) h2).trans h6, (R.frozen (p := ⟨b, 2, none⟩) h2).trans h7⟩
theorem Src.alloc {w : World} {b : Nat} {v : Value} {n : Nat} (h : Src w b v n) (o : Obj) : Src (w.alloc o) b v n := h.keep ((Below.refl _ _).alloc (Nat.le_refl _) _)
theorem Src.drewN {w : World} {b : Nat} {v : Value} {n : Nat} (h : Src w b v n) (k : Nat) : Src (w.drewN k) b v n := h
theorem Src.drew {w : World} {b : Nat} {v : Value} {n : Nat} (h : Src w b v n) : Src w.drew b v n := h
theorem and24 {a : Int} (h0 : 0 ≤ a) (h1 : a < 18446744073709551616) : 0 ≤ bits BinOp.and IntKind.u64 a 16777215 ∧ bits BinOp.and IntKind.u64 a 16777215 ≤ 16777215 := by
  obtain ⟨n, rfl⟩ := Int.eq_ofNat_of_zero_le h0
  rw [show (16777215 : Int) = ((16777215 : Nat) : Int) from rfl, bits_and_u64_nat n 16777215 (by omega) (by decide)]
  have := Nat.and_le_right (n := n) (m := 16777215)
  omega
theorem u64_bd (n : Int) : 0 ≤ IntKind.u64.wrap n ∧ IntKind.u64.wrap n < 18446744073709551616 := by
  have h : IntKind.u64.wrap n = n % 18446744073709551616 := by simp [IntKind.wrap, IntKind.bits, IntKind.signed]
  rw [h]
  omega
theorem Src.at_ {w : World} {b : Nat} {v : Value} {n : Nat} (h : Src w b v n) : ∃ A c, v = .slice A n c := by
  obtain ⟨⟨A, c, e, _⟩, _⟩ := h
  exact ⟨A, c, e⟩
theorem Src.hash {w : World} {b : Nat} {v : Value} {n : Nat} (h : Src w b v n) {x : Int} (h0 : 0 ≤ x) (h1 : x < 18446744073709551616) : Src (w.setCell ⟨b, 2, none⟩ (.int .u64 x)) b v n := by
  obtain ⟨r, hb, c0, ⟨k, hk, c1⟩, ⟨y, _, _, c2⟩, f1, f2⟩ := h
  refine ⟨r.only ((Only.refl b w).setCell rfl _), by simpa [World.setCell] using hb, ?_, ⟨k, hk, ?_⟩, ⟨x, h0, h1, World.cell?_setCell_same w _ _ c2⟩, by simpa using f1, by simpa using f2⟩
  · rw [World.cell?_setCell_other w _ _ _ (by simp)]; exact c0
  · rw [World.cell?_setCell_other w _ _ _ (by simp)]; exact c1
theorem Src.step {w : World} {b : Nat} {v : Value} {n : Nat} (h : Src w b v n) {k : Nat} (hk : k ≤ n) : Src (w.setCell ⟨b, 1, none⟩ (.int .i64 (k : Int))) b v n := by
  obtain ⟨r, hb, c0, ⟨k', hk', c1⟩, ⟨y, h0, h1, c2⟩, f1, f2⟩ := h
  refine ⟨r.only ((Only.refl b w).setCell rfl _), by simpa [World.setCell] using hb, ?_, ⟨k, hk, World.cell?_setCell_same w _ _ c1⟩, ⟨y, h0, h1, ?_⟩, by simpa using f1, by simpa using f2⟩
  · rw [World.cell?_setCell_other w _ _ _ (by simp)]; exact c0
  · rw [World.cell?_setCell_other w _ _ _ (by simp)]; exact c2
set_option maxHeartbeats 1000000 in
theorem l01Next_any (w : World) (b : Nat) (v : Value) (n : Nat) (k : Int) (hs : Src w b v n) (_hn : n ≤ 1000000000) (hk : k ≤ 9000000000000000000) :
    Calls Tryz.prog 36 #[.pointer (some ⟨b, 0, none⟩), .int .i64 k] w fun e w' => ∃ x : Int, e = .returned (.int .i64 x) ∧ 0 ≤ x ∧ ((1 ≤ k → x < k) ∧ (k < 1 → x = 0)) ∧ Src w' b v n ∧ Only b w w' := by
  by_cases h1 : k < 1
  · go_enter Tryz.func36, Tryz.ntmps36
    go_wp2
    go_ret
    exact ⟨0, rfl, Int.le_refl _, ⟨fun h => absurd h1 (by omega), fun _ => rfl⟩, hs, Only.refl _ _⟩
  · obtain ⟨⟨A, c, rfl, hc1, hc2, hA⟩, hb, c0, ⟨at', ha, c1⟩, ⟨x, hx, hx', c2⟩, f1, f2⟩ := id hs
    have hub := u64_bd (IntKind.u64.wrap (x * 6364136223846793005) + 1442695040888963407)
    have hd1 : decide (k < 1) = false := by simp; omega
    obtain ⟨H, hH⟩ : ∃ H, IntKind.u64.wrap (IntKind.u64.wrap (x * 6364136223846793005) + 1442695040888963407) = H := ⟨_, rfl⟩
    rw [hH] at hub
    have hyb := and24 (a := H / 8589934592) (by omega) (by omega)
    obtain ⟨Y, hY⟩ : ∃ Y, bits BinOp.and IntKind.u64 (H / 8589934592) 16777215 = Y := ⟨_, rfl⟩
    rw [hY] at hyb
    have hY2 : wrap64 Y = Y := IntWalk.wrap64_in _ (by omega)
    have hk0 : ¬ k = 0 := by omega
    unfold maxLen at hc2
    have hHid := Lib.hid hs
    clear hs
    by_cases hlt : at' < n
    · obtain ⟨g, off, y, rfl, hg, hgb, hcell, hy, hy'⟩ := hA at' hlt
      clear hA
      have hlt1 : (at' : Int) < (n : Int) := by omega
      have hlt0 : (0 : Int) ≤ (at' : Int) := by omega
      have hv1 : wrap64 y = y := IntWalk.wrap64_in _ (by omega)
      have hv2 : IntKind.i64.wrap (Y + y) = Y + y := IntWalk.i64_in _ (by omega)
      have hv3 : IntKind.i64.wrap ((at' : Int) + 1) = (at' : Int) + 1 := IntWalk.i64_in _ (by omega)
      have ne1 : (⟨b, 2, none⟩ : Addr) ≠ ⟨b, 1, none⟩ := by simp
      have ne2 : (⟨b, 2, none⟩ : Addr) ≠ ⟨b, 0, none⟩ := by simp
      have ne3 : (⟨b, 2, none⟩ : Addr) ≠ ⟨g, off + at', none⟩ := by first | (simp; done) | (simp; omega)
      have hr1 := Int.emod_nonneg (Y + y) hk0
      have hr2 := Int.emod_lt_of_pos (Y + y) (show 0 < k by omega)
      have hr3 : (Y + y).tmod k = (Y + y) % k := Int.tmod_eq_emod_of_nonneg (by omega)
      go_enter Tryz.func36, Tryz.ntmps36
      go_wp2
      go_quiet (fail)
      go_wp2
      go_quiet (fail)
      go_wp2
      go_ret
      refine ⟨_, rfl, hr1, ⟨fun _ => hr2, fun h => absurd h (by omega)⟩, ?_, (((Only.refl b w).setCell (p := ⟨b, 2, none⟩) rfl _).drewN _).setCell (p := ⟨b, 1, none⟩) rfl _⟩
      exact Src.step (k := at' + 1) (Src.drewN (hHid.out.hash hub.1 hub.2) _) (by omega)
    · have hlt1 : decide ((at' : Int) < (n : Int)) = false := by simp; omega
      clear hA
      have ne1 : (⟨b, 2, none⟩ : Addr) ≠ ⟨b, 1, none⟩ := by simp
      have ne2 : (⟨b, 2, none⟩ : Addr) ≠ ⟨b, 0, none⟩ := by simp
      have hr1 := Int.emod_nonneg Y hk0
      have hr2 := Int.emod_lt_of_pos Y (show 0 < k by omega)
      have hr3 : Y.tmod k = Y % k := Int.tmod_eq_emod_of_nonneg (by omega)
      go_enter Tryz.func36, Tryz.ntmps36
      go_wp2
      go_quiet (fail)
      go_wp2
      go_ret
      exact ⟨_, rfl, hr1, ⟨fun _ => hr2, fun h => absurd h (by omega)⟩, Src.drewN (hHid.out.hash hub.1 hub.2) _, ((Only.refl b w).setCell (p := ⟨b, 2, none⟩) rfl _).drewN _⟩

/-- A number is returned, the source goes on. -/
def RetX (w : World) (b : Nat) (v : Value) (n : Nat) (p : Int → Prop) (e : Ending) (w' : World) : Prop := ∃ x : Int, e = .returned (.int .i64 x) ∧ p x ∧ Src w' b v n ∧ Only b w w'
set_option maxRecDepth 4000 in
set_option maxHeartbeats 1000000 in
theorem l01Pick_any (w : World) (b : Nat) (v u : Value) (n B : Nat) (xs : List Int) (hs : Src w b v n) (hn : n ≤ 1000000000) (hu : OwnI w B u xs) (hb : b < B) (h0 : 0 < xs.length) (hl : xs.length ≤ 1000000) (p : Int → Prop) (hp : ∀ x ∈ xs, p x) :
    Calls Tryz.prog 59 #[.pointer (some ⟨b, 0, none⟩), u] w (RetX w b v n p) := by
  obtain ⟨A, c, rfl, hc1, hc2, hA⟩ := hu.open_
  unfold maxLen at hc2
  obtain ⟨g, rfl, hg1, hg2, -, -⟩ := hA 0 h0
  have hcl : Hid (∀ k, k < xs.length → w.cell? ⟨g, k, none⟩ = some (.int .i64 (xs.getD k 0))) := by
    intro k hk
    obtain ⟨g', e, _, _, h, _⟩ := hA k hk
    simp at e
    subst e
    exact h
  clear hA
  go_enter Tryz.func59, Tryz.ntmps59
  go_wp2_with (go_at_call 36; refine (l01Next_any w b v n (xs.length : Int) hs hn (by omega)).mono ?_; rintro e w1 ⟨x, rfl, hx0, hx1, s1, o1⟩; have hx2 := hx1.1 (by omega); obtain ⟨k, rfl⟩ := Int.eq_ofNat_of_zero_le hx0; have hc1 := (o1.cell (p := ⟨g, k, none⟩) hg2 (by show g ≠ b; omega)).trans (hcl.out k (by omega)))
  go_ret
  exact ⟨_, rfl, hp _ (by rw [List.getElem?_eq_getElem (show k < xs.length by omega)]; exact List.getElem_mem _), s1, o1⟩
set_option maxHeartbeats 1000000 in
theorem l01From_any (w : World) (v : Value) (n : Nat) (hv : RdY w w.heap.size v n) (hn : n ≤ 1000000000) :
    Calls Tryz.prog 25 #[v] w fun e w' => ∃ b, e = .returned (.pointer (some ⟨b, 0, none⟩)) ∧ w.heap.size ≤ b ∧ Src w' b v n ∧ Below w.heap.size w w' := by
  obtain ⟨A, c, rfl, hc1, hc2, hA⟩ := id hv
  unfold maxLen at hc2
  have hS : Src (w.alloc (.cells #[.slice A n c, .int .i64 0, .int .u64 (5113 + (n : Int))] 83)) w.heap.size (.slice A n c) n := by
    refine ⟨hv.only (Only.ofBelow ((Below.refl _ _).alloc (Nat.le_refl _) _)), by simp, by simp, ⟨0, Nat.zero_le _, by simp⟩, ⟨5113 + (n : Int), by omega, by omega, by simp⟩, by simp, by simp⟩
  have HS := Lib.hid hS
  clear hS
  go_enter Tryz.func25, Tryz.ntmps25
  go_wp2
  go_loopw [4] (fun s wr => ∃ k : Nat, k ≤ n ∧ s = .int .i64 (k : Int) ∧ Hid (Src wr w.heap.size (.slice A n c) n) ∧ Hid (Below w.heap.size w wr)) (fun s _ => n - (intOf s).toNat)
  case atStart => exact ⟨0, Nat.zero_le _, rfl, HS, by unfold Hid; (repeat (first | assumption | exact Below.refl _ _ | refine Below.alloc ?_ (by first | omega | (simp; done) | (simp; omega)) _ | refine Below.setCell ?_ (by first | omega | (simp; done) | (simp; omega)) _ | refine below_drewN ?_ _))⟩
  case round =>
    clear HS
    obtain ⟨k, hk, rfl, HS, HB⟩ := hrel
    by_cases hlt : k < n
    · by_cases hl2 : k < 4096
      · have hl1 : (k : Int) < (n : Int) := by omega
        have hl3 : (k : Int) < 4096 := by omega
        have hl4 : (0 : Int) ≤ (k : Int) := by omega
        obtain ⟨⟨A', c', e, _, _, hA2⟩, hb, c0, _, ⟨x, hx, hx', c2⟩, _, f2⟩ := id HS.out
        simp only [Value.slice.injEq, true_and] at e
        obtain ⟨rfl, rfl⟩ := e
        obtain ⟨g, off, y, rfl, hg, hgb, hcell, hy, hy'⟩ := hA2 k hlt
        clear hA hA2 hv c0
        go_wp2
        go_region
        go_wp2
        go_roundw
        case rel => exact ⟨k + 1, by omega, by go_num, (HS.out.hash (u64_bd _).1 (u64_bd _).2).drew, (HB.out.setCell (Nat.le_refl _) _).drew⟩
        case measure => simp [intOf]; omega
      · have hl1 : (k : Int) < (n : Int) := by omega
        have hl3 : decide ((k : Int) < 4096) = false := by simp; omega
        clear hA hv
        go_wp2
        go_ret
        exact ⟨_, rfl, Nat.le_refl _, HS.out, HB.out⟩
    · have hl1 : decide ((k : Int) < (n : Int)) = false := by simp; omega
      clear hA hv
      go_wp2
      go_ret
      exact ⟨_, rfl, Nat.le_refl _, HS.out, HB.out⟩

/-! ### Draws of numbers, printed by gen_dr.py -/
theorem OwnI.litN (w : World) (xs : List Int) (cs : Array Value) (hc : cs.toList = xs.map (Value.int .i64)) (hl : xs.length ≤ maxLen) {B : Nat} (hB : B ≤ w.heap.size) : OwnI (w.alloc (.cells cs 2)) B (.slice (some ⟨w.heap.size, 0, none⟩) xs.length xs.length) xs := (RowI.lit w xs cs hc hl).own hB
theorem Src.lt {w : World} {b : Nat} {v : Value} {n : Nat} (h : Src w b v n) : b < w.heap.size := h.2.1
set_option maxHeartbeats 2000000 in
theorem l01DrawModulus_any (w : World) (b : Nat) (v : Value) (n : Nat) (hs : Src w b v n) (hn : n ≤ 1000000000) : Calls Tryz.prog 55 #[.pointer (some ⟨b, 0, none⟩)] w (RetX w b v n fun x => 2 ≤ x ∧ x ≤ 10001) := by
  have s0 := hs
  have K0 := Only.refl b w
  go_enter Tryz.func55, Tryz.ntmps55
  go_wp2_with (first | (go_at_call_of 36 (Value.int IntKind.i64 100); refine (l01Next_any _ b v n (100) s0 hn (by omega)).mono ?_; rintro e w1 ⟨x1, rfl, g1, h1, s1, o1⟩; have K1 := K0.trans o1; have h1 := h1.1 (by omega); have e1 : IntKind.i64.wrap (2 + x1) = 2 + x1 := IntWalk.i64_in _ (by omega)) | (go_at_call_of 36 (Value.int IntKind.i64 9999); refine (l01Next_any _ b v n (9999) s1 hn (by omega)).mono ?_; rintro e w2 ⟨x2, rfl, g2, h2, s2, o2⟩; have K2 := K1.trans o2; have h2 := h2.1 (by omega); have e2 : IntKind.i64.wrap (2 + x2) = 2 + x2 := IntWalk.i64_in _ (by omega)) | (go_at_call 59; refine (l01Pick_any _ b v _ n w2.heap.size [2, 3, 4, 5, 6, 7, 8, 9, 10, 12, 16, 25, 27, 30, 49, 101, 210, 2 + x1, 2 + x2, 10000] (s2.alloc _) hn (OwnI.litN w2 _ _ (by rfl) (by simp [maxLen]) (Nat.le_refl _)) s2.lt (by simp) (by simp) (fun x => 2 ≤ x ∧ x ≤ 10001) (by intro x hx; simp at hx; omega)).mono ?_; rintro e w3 ⟨x3, rfl, h3, s3, o3⟩; have K3 := (K2.alloc _).trans o3; skip))
  all_goals go_ret
  all_goals first | exact ⟨_, rfl, (by first | assumption | omega | (constructor <;> omega)), s3, K3⟩
theorem mul_ab {a x : Int} (h1 : -500000 ≤ a) (h2 : a ≤ 500000) (h3 : 1 ≤ x) (h4 : x ≤ 1024) : -512000000 ≤ a * x ∧ a * x ≤ 512000000 := by
  have g1 : -500000 * x ≤ a * x := Int.mul_le_mul_of_nonneg_right h1 (by omega)
  have g2 : a * x ≤ 500000 * x := Int.mul_le_mul_of_nonneg_right h2 (by omega)
  omega

end Go.Proofs.YtglbccikdglcgaaGreatDoor
