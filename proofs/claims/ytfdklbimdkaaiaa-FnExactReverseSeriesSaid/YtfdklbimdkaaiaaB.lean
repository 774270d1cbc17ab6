/- Contracts over this seat's translation. Condition: each contract's own. -/
import Derived.Test.YtfdklbimdkaaiaaA
import Derived.ProofKit
import Derived.Laws.Bits64b
import Derived.Lib.Mul64
import Derived.OpenShut
import Derived.Below
import Derived.ChangeSame
import Derived.Deep.Modes
import Derived.Lib.SmallJoins
import Derived.ChangeSlices
import Derived.WalkKit
import Derived.WalkSpells
import Derived.WalkLawsBesides
import Derived.Deep.QuietTactic
import Derived.BigQuiet
import Derived.Deep.RegionHeld3
import Derived.Deep.RegionWith
import Derived.Deep.RegionLaw
import Derived.Deep.AppendLies
import Derived.Laws.CopyOwn
import Derived.Deep.DeepCutAuto
import Derived.Deep.OwnRows
import Derived.Deep.LoopGhost
import Derived.Deep.DeepFit
import Derived.Deep.DeepMust
import Derived.Deep.Draws
import Derived.Deep.CutRange
import Derived.Maps.AppendAt
import Derived.Lib.Hide
import Derived.StillTailTactics
import Derived.Laws.MakeOwn
import Derived.Deep.Matrix
set_option linter.unusedVariables false
open Go Go.RowKit
namespace Go.Proofs.Ytfdklbimdkaaiaa
/-! ### Lists that are only read; new lists of zeros -/
/-- In world w the slice value v reads as the numbers xs. -/
def RdI (w : World) (v : Value) (xs : List Int) : Prop :=
  ∃ A c, v = .slice A xs.length c ∧ xs.length ≤ c ∧ c ≤ maxLen ∧ ∀ k, k < xs.length → ∃ b off, A = some ⟨b, off, none⟩ ∧ b < w.heap.size ∧ w.cell? ⟨b, off + k, none⟩ = some (.int .i64 (xs.getD k 0))
theorem RdI.below {w w' : World} {v : Value} {xs : List Int} (h : RdI w v xs) (hb : Below w.heap.size w w') : RdI w' v xs := by
  obtain ⟨A, c, h1, h2, h3, h4⟩ := h
  refine ⟨A, c, h1, h2, h3, fun k hk => ?_⟩
  obtain ⟨b, off, h5, h6, h7⟩ := h4 k hk
  exact ⟨b, off, h5, by have := hb.size; omega, (hb.cell (p := ⟨b, off + k, none⟩) h6).trans h7⟩
theorem OwnI.rd {w : World} {B : Nat} {v : Value} {xs : List Int} (h : OwnI w B v xs) : RdI w v xs := by
  obtain ⟨A, c, h1, h2, h3, h4⟩ := h.open_
  refine ⟨A, c, h1, h2, h3, fun k hk => ?_⟩
  obtain ⟨g, h5, _, h6, h7, _⟩ := h4 k hk
  exact ⟨g, 0, h5, h6, by rw [Nat.zero_add]; exact h7⟩
theorem madeCells_zero (n : Nat) : (madeCells #[Value.int .i64 0] n).toList = (List.replicate n (0 : Int)).map (Value.int .i64) := by
  apply List.ext_getElem
  · simp [madeCells]
  · intro i h1 h2
    simp [madeCells, Nat.mod_one]
theorem makeI {w : World} {ops : Array Oper} {rest : List Oper} {o : Oper} {a : Act} {Q : Exit → Act → World → Prop} (l : Operand) (n : Nat)
    (hg : o.guard = none) (hop : o.op = Op.makeSlice 22 l l) (hl : a.eval l = .int .i64 (n : Int)) (hn : n ≤ 1000000000000)
    (h : ∀ w', RowI w' w.heap.size n (List.replicate n 0) → Below w.heap.size w w' → w'.heap.size = w.heap.size + 1 → wpList Try.prog ops Q rest (a.put o.dst (.slice (some ⟨w.heap.size, 0, none⟩) n n)) w') :
    wpList Try.prog ops Q (o :: rest) a w := by
  obtain ⟨i0, hi, hz0, hz1, hz2⟩ := info_parts T.info64
  refine wpList_make_row w hg l l 22 hop 2 i0 (.int .i64 0) Try.underlying22 hi hz0 hz1 rfl .i64 .i64 n hl hl (by rw [hz2]; omega) (by omega) ?_
  refine h _ ?_ ((Below.refl _ _).alloc (Nat.le_refl _) _) (by simp)
  refine ⟨by simp, by unfold maxLen; omega, _, heap_alloc_new w _, size_madeCells _ _, ?_⟩
  rw [madeCells_zero, List.take_of_length_le (by simp)]

/-! ### The laws' copies, comparisons and marks of lists -/
/-- A new list is returned; what lay in memory lies there unturned. -/
def NewI (w : World) (xs : List Int) (e : Ending) (w' : World) : Prop := ∃ A c, e = .returned (.slice A xs.length c) ∧ OwnI w' w.heap.size (.slice A xs.length c) xs ∧ Below w.heap.size w w'
theorem OwnI.form {w : World} {B : Nat} {v : Value} {xs : List Int} (h : OwnI w B v xs) : ∃ A c, v = .slice A xs.length c := by
  obtain ⟨A, c, h1, _⟩ := h.open_
  exact ⟨A, c, h1⟩
theorem below_drew {B : Nat} {a w : World} (h : Below B a w) : Below B a w.drew := ⟨h.os, h.tape, h.output, h.size, h.block⟩
theorem bcell {W w1 : World} (hb : Below W.heap.size W w1) : (∀ b o, b < W.heap.size → w1.cell? ⟨b, o, none⟩ = W.cell? ⟨b, o, none⟩) ∧ (∀ b o, b < W.heap.size → w1.frozen? ⟨b, o, none⟩ = W.frozen? ⟨b, o, none⟩) :=
  ⟨fun b o h => hb.cell (p := ⟨b, o, none⟩) h, fun b o h => hb.frozen (p := ⟨b, o, none⟩) h⟩
theorem copy_step (xs : List Int) (n k : Nat) (hk : k < xs.length) (hn : n = xs.length) : (xs.take k ++ List.replicate (n - k) 0).set k (xs.getD k 0) = xs.take (k + 1) ++ List.replicate (n - (k + 1)) 0 := by
  subst hn
  have h1 : (xs.take k).length = k := by simp; omega
  rw [List.set_append_right _ _ (by omega), h1, Nat.sub_self, List.take_succ_eq_append_getElem hk, List.getD_eq_getElem?_getD, List.getElem?_eq_getElem hk, List.append_assoc]
  congr 1
  obtain ⟨m, hm⟩ : ∃ m, xs.length - k = m + 1 := ⟨xs.length - k - 1, by omega⟩
  rw [hm, show xs.length - (k + 1) = m by omega, List.replicate_succ]
  rfl
theorem toInt64S_any (w : World) (v : Value) (xs : List Int) (hv : RdI w v xs) (hl : xs.length ≤ 2000000) : Calls Try.prog 31 #[v] w (NewI w xs) := by
  obtain ⟨A, c, rfl, hc1, hc2, hA⟩ := hv
  unfold maxLen at hc2
  go_enter Try.func31, Try.ntmps31
  go_wp2_with (at_make; refine makeI _ xs.length rfl rfl rfl (by omega) ?_; intro w0 hr0 hb0 hs0; have HS := Lib.hid hs0; clear hs0)
  go_loopw [4] (fun i wr => ∃ k : Nat, k ≤ xs.length ∧ i = .int .i64 k ∧ RowI wr w.heap.size xs.length (xs.take k ++ List.replicate (xs.length - k) 0) ∧ Below w.heap.size w wr) (fun i _ => xs.length - (intOf i).toNat)
  case atStart => exact ⟨0, Nat.zero_le _, rfl, by simpa using hr0, hb0⟩
  case round =>
    obtain ⟨k, hk, rfl, hr, hb⟩ := hrel
    clear hr0 hb0
    by_cases hlt : k < xs.length
    · obtain ⟨b, off, rfl, hb1, hcell⟩ := hA k hlt
      clear hA
      have hc0 : wr.cell? ⟨b, off + k, none⟩ = some (.int .i64 (xs.getD k 0)) := (hb.cell (p := ⟨b, off + k, none⟩) hb1).trans hcell
      have hd0 := hr.cell (k := k) (by simp; omega)
      have hf0 := hr.free k
      have HS2 := Lib.hid (copy_step xs xs.length k hlt rfl)
      have hlt' := hr.lt
      obtain ⟨x, hx⟩ : ∃ x, x = xs.getD k 0 := ⟨_, rfl⟩
      rw [← hx] at hc0 HS2
      have HX := Lib.hid hx
      clear hx hcell
      generalize (xs.take k ++ List.replicate (xs.length - k) 0).getD k 0 = y at hd0
      go_wp2
      go_roundw
      case rel => exact ⟨k + 1, by omega, by go_num, by rw [← HS2.out]; exact hr.set_ k x, hb.setCell (by simp) _⟩
      case measure => simp [intOf]; omega
    · obtain rfl : k = xs.length := by omega
      have hr' : RowI wr w.heap.size xs.length xs := by simpa using hr
      go_wp2
      go_ret
      exact ⟨_, _, rfl, hr'.own (Nat.le_refl _), hb⟩
theorem eq_of_getD {xs ys : List Int} (hl : xs.length = ys.length) (h : ∀ k, k < xs.length → xs.getD k 0 = ys.getD k 0) : xs = ys := by
  apply List.ext_getElem hl
  intro i h1 h2
  have := h i h1
  rwa [List.getD_eq_getElem?_getD, List.getD_eq_getElem?_getD, List.getElem?_eq_getElem h1, List.getElem?_eq_getElem h2] at this
theorem eqInt64S_any (w : World) (v u : Value) (xs ys : List Int) (hv : RdI w v xs) (hu : RdI w u ys) : Calls Try.prog 33 #[v, u] w fun e w' => e = .returned (.bool (xs == ys)) ∧ ∃ n, w' = w.drewN n := by
  obtain ⟨A, c, rfl, hc1, hc2, hA⟩ := hv
  obtain ⟨A', c', rfl, hc1', hc2', hA'⟩ := hu
  unfold maxLen at hc2 hc2'
  by_cases hl : xs.length = ys.length
  · have hnl : (xs.length != ys.length) = false := by simpa using hl
    have hnl' : ((xs.length : Int) != (ys.length : Int)) = false := by rw [hl]; simp
    have HL := Lib.hid hl
    clear hl
    go_enter Try.func33, Try.ntmps33
    go_wp2
    go_loopw [5] (fun i wr => ∃ k : Nat, k ≤ xs.length ∧ i = .int .i64 k ∧ Hid (∀ j, j < k → xs.getD j 0 = ys.getD j 0) ∧ ∃ n, wr = w.drewN n) (fun i _ => xs.length - (intOf i).toNat)
    case atStart => exact ⟨0, Nat.zero_le _, rfl, (fun j hj => by omega), 0, rfl⟩
    case round =>
      obtain ⟨k, hk, rfl, hp, n, rfl⟩ := hrel
      by_cases hlt : k < xs.length
      · obtain ⟨b, off, rfl, hb1, hcell⟩ := hA k hlt
        have hlt' : k < ys.length := by rw [← HL.out]; exact hlt
        obtain ⟨b', off', rfl, hb1', hcell'⟩ := hA' k hlt'
        clear hA hA'
        obtain ⟨x, hx⟩ : ∃ x, x = xs.getD k 0 := ⟨_, rfl⟩
        obtain ⟨y, hy⟩ : ∃ y, y = ys.getD k 0 := ⟨_, rfl⟩
        rw [← hx] at hcell
        rw [← hy] at hcell'
        have HX := Lib.hid hx
        have HY := Lib.hid hy
        clear hx hy
        have hi0 : (0 : Int) ≤ (k : Int) := by omega
        have hi1 : (k : Int) < (xs.length : Int) := by omega
        have hi2 : (k : Int) < (ys.length : Int) := by omega
        by_cases hxy : x = y
        · have hne : (x != y) = false := by simpa using hxy
          have HXY := Lib.hid hxy
          clear hxy
          go_wp2
          go_quiet (fail)
          go_wp2
          go_roundw
          case rel =>
            refine ⟨k + 1, by omega, by go_num, fun j hj => ?_, n + nq, by first | rfl | rw [World.drewN_drewN]⟩
            rcases Nat.lt_or_ge j k with h | h
            · exact hp.out j h
            · obtain rfl : j = k := by omega
              rw [← HX.out, ← HY.out]; exact HXY.out
          case measure => simp [intOf]; omega
        · have hne : (x != y) = true := by simpa using hxy
          have HF : Hid ((xs == ys) = false) := by
            unfold Hid
            rw [beq_eq_false_iff_ne]
            intro h
            apply hxy
            rw [HX.out, HY.out, h]
          clear hxy
          go_wp2
          go_quiet (fail)
          go_wp2
          go_ret
          exact ⟨by rw [HF.out]; rfl, n + nq, by first | rfl | rw [World.drewN_drewN]⟩
      · have HF : Hid ((xs == ys) = true) := by
          unfold Hid
          rw [beq_iff_eq]
          exact eq_of_getD HL.out fun j hj => hp.out j (by omega)
        go_wp2
        go_ret
        exact ⟨by rw [HF.out]; rfl, n, rfl⟩
  · have hnl : (xs.length != ys.length) = true := by simpa using hl
    have hnl' : ((xs.length : Int) != (ys.length : Int)) = true := by simp; omega
    have HF : Hid ((xs == ys) = false) := by
      unfold Hid
      rw [beq_eq_false_iff_ne]
      intro h
      exact hl (by rw [h])
    clear hl
    go_enter Try.func33, Try.ntmps33
    go_wp2
    go_ret
    exact ⟨by rw [HF.out]; rfl, 0, rfl⟩
/-- The marks k, k + 1, .. of a list of n numbers. -/
def marks (k : Int) (n : Nat) : List Int := (List.range n).map fun i : Nat => k + (i : Int)
theorem length_marks (k : Int) (n : Nat) : (marks k n).length = n := by simp [marks]
theorem getD_marks (k : Int) (n i : Nat) (h : i < n) : (marks k n).getD i 0 = k + i := by
  simp [marks, List.getD_eq_getElem?_getD, h]
theorem mark_step (xs : List Int) (q : Int) (k : Nat) (hk : k < xs.length) : (marks q k ++ xs.drop k).set k (q + k) = marks q (k + 1) ++ xs.drop (k + 1) := by
  rw [List.set_append_right _ _ (by rw [length_marks]; omega), length_marks, Nat.sub_self]
  have h1 : xs.drop k = xs[k] :: xs.drop (k + 1) := List.drop_eq_getElem_cons hk
  rw [h1, List.set_cons_zero]
  have h2 : marks q (k + 1) = marks q k ++ [q + k] := by simp [marks, List.range_succ]
  rw [h2, List.append_assoc]
  rfl
/-- The list's block holds the marks now; nothing else has changed. -/
def Marked (w : World) (B : Nat) (v : Value) (q : Int) (n : Nat) (e : Ending) (w' : World) : Prop := e = .returned (.int .i64 (q + n)) ∧ OwnI w' B v (marks q n) ∧ w.grownBy w' v.ownBlock
theorem grownBy_setCell (w : World) (p : Addr) (u : Value) : w.grownBy (w.setCell p u) (some p.block) :=
  ⟨by simp [World.setCell], by simp [World.setCell], by simp [World.setCell], by simp [World.setCell], fun k _ hne => Below.heap_setCell w p u k (by rintro rfl; exact hne rfl)⟩
theorem grownBy_trans {w1 w2 w3 : World} {r : Option Nat} (h : w1.grownBy w2 r) (h' : w2.grownBy w3 r) : w1.grownBy w3 r :=
  ⟨h'.os.trans h.os, h'.tape.trans h.tape, h'.output.trans h.output, Nat.le_trans h.size h'.size, fun k hk hne => (h'.block k (Nat.lt_of_lt_of_le hk h.size) hne).trans (h.block k hk hne)⟩
theorem markInt64S_any (w : World) (B : Nat) (v : Value) (xs : List Int) (n : Nat) (q : Int) (hv : OwnI w B v xs) (hn : xs.length = n) (hl : n ≤ 100000000) (hq : 0 ≤ q) (hq' : q ≤ 1000000000) :
    Calls Try.prog 34 #[v, .int .i64 q] w (Marked w B v q n) := by
  rcases hv.row with ⟨rfl, rfl⟩ | ⟨g, c, rfl, hB, hr⟩
  · obtain rfl : n = 0 := by simpa using hn.symm
    go_enter Try.func34, Try.ntmps34
    go_wp2
    go_loop [1, 5] (fun t i => i = .int .i64 (0 : Nat) ∧ t = .int .i64 q) (fun _ _ => 0)
    case atStart => exact ⟨rfl, rfl⟩
    case round =>
      obtain ⟨rfl, rfl⟩ := hrel
      go_wp2
      go_ret
      exact ⟨by simp, hv, World.grownBy.refl _ _⟩
  · subst hn
    clear hv
    obtain ⟨hc1, hc2, hcc⟩ := id hr
    clear hcc
    unfold maxLen at hc2
    go_enter Try.func34, Try.ntmps34
    go_wp2
    go_loopw [1, 5] (fun t i wr => ∃ k : Nat, k ≤ xs.length ∧ i = .int .i64 k ∧ t = .int .i64 (q + k) ∧ RowI wr g c (marks q k ++ xs.drop k) ∧ w.grownBy wr (some g)) (fun _ i _ => xs.length - (intOf i).toNat)
    case atStart => exact ⟨0, Nat.zero_le _, rfl, by simp, by simpa [marks] using hr, World.grownBy.refl _ _⟩
    case round =>
      obtain ⟨k, hk, rfl, rfl, hr2, hb⟩ := hrel
      clear hr
      by_cases hlt : k < xs.length
      · have hd0 := hr2.cell (k := k) (by simp [length_marks]; omega)
        have hf0 := hr2.free k
        have HS2 := Lib.hid (mark_step xs q k hlt)
        have hlt' := hr2.lt
        generalize (marks q k ++ xs.drop k).getD k 0 = y at hd0
        go_wp2
        go_roundw
        case rel => exact ⟨k + 1, by omega, by go_num, by go_num, by rw [← HS2.out]; exact hr2.set_ k _, grownBy_trans hb (grownBy_setCell _ _ _)⟩
        case measure => simp [intOf]; omega
      · obtain rfl : k = xs.length := by omega
        have hr' : RowI wr g c (marks q xs.length) := by simpa using hr2
        go_wp2
        go_ret
        have := hr'.own hB
        rw [length_marks] at this
        exact ⟨rfl, this, hb⟩
theorem heldInt64S_any (w : World) (B : Nat) (v : Value) (n : Nat) (q : Int) (hv : OwnI w B v (marks q n)) (hl : n ≤ 100000000) (hq : 0 ≤ q) (hq' : q ≤ 1000000000) :
    Calls Try.prog 35 #[v, .int .i64 q] w fun e w' => e = .returned (.int .i64 (q + n)) ∧ w = w' := by
  obtain ⟨A, c, rfl, hc1, hc2, hA⟩ := hv.open_
  rw [length_marks] at *
  clear hv
  unfold maxLen at hc2
  go_enter Try.func35, Try.ntmps35
  go_wp2
  go_loop [1, 5] (fun t i => ∃ k : Nat, k ≤ n ∧ i = .int .i64 k ∧ t = .int .i64 (q + k)) (fun _ i => n - (intOf i).toNat)
  case atStart => exact ⟨0, Nat.zero_le _, rfl, by simp⟩
  case round =>
    obtain ⟨k, hk, rfl, rfl⟩ := hrel
    by_cases hlt : k < n
    · obtain ⟨g, rfl, hg1, hg2, hcell, hfr⟩ := hA k hlt
      clear hA
      rw [getD_marks q n k hlt] at hcell
      have hne : (q + (k : Int) != q + (k : Int)) = false := by simp
      go_wp2
      go_round
      case rel => exact ⟨k + 1, by omega, by go_num, by go_num⟩
      case measure => simp [intOf]; omega
    · obtain rfl : k = n := by omega
      go_wp2
      go_ret
      exact ⟨rfl, rfl⟩
def szN (q : Int) (n : Nat) : Int := if q < n then -1 else q - n
theorem szN_lt {q : Int} {n : Nat} (h : q < n) : szN q n = -1 := by simp [szN, h]
theorem szN_ge {q : Int} {n : Nat} (h : ¬ q < n) : szN q n = q - n := by simp [szN, h]
theorem szInt64S_any (w : World) (v : Value) (xs : List Int) (q : Int) (hv : RdI w v xs) (hq : 0 ≤ q) (hq' : q ≤ 1048576) :
    Calls Try.prog 48 #[v, .int .i64 q] w fun e w' => e = .returned (.int .i64 (szN q xs.length)) ∧ w = w' := by
  obtain ⟨A, c, rfl, hc1, hc2, hA⟩ := hv
  clear hA
  unfold maxLen at hc2
  by_cases h : q < xs.length
  · have HF := Lib.hid (szN_lt h)
    go_enter Try.func48, Try.ntmps48
    go_wp2
    go_ret
    exact ⟨by rw [HF.out]; rfl, rfl⟩
  · have HF := Lib.hid (szN_ge h)
    go_enter Try.func48, Try.ntmps48
    go_wp2
    go_ret
    exact ⟨by rw [HF.out]; rfl, rfl⟩

/-! ### The laws' copies, comparisons and marks of series -/
theorem OwnI.of_block {w w' : World} {B : Nat} {v : Value} {xs : List Int} (h : OwnI w B v xs) (hb : ∀ g, v.ownBlock = some g → w'.heap[g]? = w.heap[g]?) : OwnI w' B v xs := by
  rcases h.2 with h0 | ⟨g, cap, cur, h1, h2, h3, h4⟩
  · exact ⟨h.1, .inl h0⟩
  · exact ⟨h.1, .inr ⟨g, cap, cur, h1, h2, (hb g (by rw [h1]; rfl)).trans h3, h4⟩⟩
theorem OwnI.block_ge {w : World} {B g : Nat} {v : Value} {xs : List Int} (h : OwnI w B v xs) (hg : v.ownBlock = some g) : B ≤ g ∧ g < w.heap.size := by
  rcases h.row with ⟨rfl, _⟩ | ⟨g', c, rfl, h1, h2⟩
  · simp [Value.ownBlock] at hg
  · have : g' = g := by simpa [Value.ownBlock] using hg
    subst this
    exact ⟨h1, h2.lt⟩
theorem OwnI.setCell_lt {w : World} {B : Nat} {v : Value} {xs : List Int} (h : OwnI w B v xs) {p : Addr} (hp : p.block < B) (u : Value) : OwnI (w.setCell p u) B v xs :=
  h.of_block fun g hg => Below.heap_setCell w p u g (by have := (h.block_ge hg).1; omega)
theorem OwnI.setCell_ge {w : World} {B : Nat} {v : Value} {xs : List Int} (h : OwnI w B v xs) {p : Addr} (hp : ∀ g, v.ownBlock = some g → g ≠ p.block) (u : Value) : OwnI (w.setCell p u) B v xs :=
  h.of_block fun g hg => Below.heap_setCell w p u g (hp g hg)
/-- A new series is returned. -/
def NewS (w : World) (m : Int) (xs : List Int) (e : Ending) (w' : World) : Prop := ∃ A c, e = .returned (.agg #[.int .i64 m, .slice A xs.length c]) ∧ OwnI w' w.heap.size (.slice A xs.length c) xs ∧ Below w.heap.size w w'
theorem toS_any (w : World) (m : Int) (v : Value) (xs : List Int) (hv : RdI w v xs) (hl : xs.length ≤ 2000000) : Calls Try.prog 17 #[.agg #[.int .i64 m, v]] w (NewS w m xs) := by
  obtain ⟨A0, c0, rfl, hv1⟩ := id hv
  clear hv1
  go_enter Try.func17, Try.ntmps17
  go_wp2_with fail
  refine (toInt64S_any _ _ xs (hv.below ?_) hl).mono ?_
  · (repeat (first | assumption | exact Below.refl _ _ | refine Below.alloc ?_ (by first | omega | (simp; done) | (simp; omega)) _ | refine Below.setCell ?_ (by first | omega | (simp; done) | (simp; omega)) _ | refine below_drewN ?_ _))
  rintro e w1 ⟨A, c, rfl, hu, hb⟩
  obtain ⟨hc, hf⟩ := bcell hb
  have hz := hb.size
  simp at hz
  go_wp2
  refine bodyPost_ret (v := .agg #[.int .i64 m, .slice A xs.length c]) (by simp [results, Try.results17, go_sem, hc]) rfl ⟨A, c, rfl, ?_, ?_⟩
  · refine (((hu.setCell_lt ?_ _).setCell_lt ?_ _).setCell_lt ?_ _).mono (by simp; omega)
    all_goals simp
  · refine (((Below.trans ?_ (hb.mono ?_)).setCell ?_ _).setCell ?_ _).setCell ?_ _
    · (repeat (first | assumption | exact Below.refl _ _ | refine Below.alloc ?_ (by first | omega | (simp; done) | (simp; omega)) _ | refine Below.setCell ?_ (by first | omega | (simp; done) | (simp; omega)) _ | refine below_drewN ?_ _))
    all_goals (simp; try omega)
theorem szS_any (w : World) (m : Int) (v : Value) (xs : List Int) (q : Int) (hv : RdI w v xs) (hq : 0 ≤ q) (hq' : q ≤ 1048576) :
    Calls Try.prog 15 #[.agg #[.int .i64 m, v], .int .i64 q] w fun e w' => e = .returned (.int .i64 (szN q xs.length)) ∧ Below w.heap.size w w' := by
  obtain ⟨A0, c0, rfl, hv1⟩ := id hv
  clear hv1
  by_cases h : q < xs.length
  · have HF := Lib.hid (szN_lt h)
    go_enter Try.func15, Try.ntmps15
    go_wp2_with fail
    refine (szInt64S_any _ _ xs q (hv.below ?_) hq hq').mono ?_
    · (repeat (first | assumption | exact Below.refl _ _ | refine Below.alloc ?_ (by first | omega | (simp; done) | (simp; omega)) _ | refine Below.setCell ?_ (by first | omega | (simp; done) | (simp; omega)) _ | refine below_drewN ?_ _))
    rintro e w1 ⟨rfl, rfl⟩
    rw [HF.out]
    go_wp2
    go_ret
    exact ⟨by rw [HF.out]; rfl, by (repeat (first | assumption | exact Below.refl _ _ | refine Below.alloc ?_ (by first | omega | (simp; done) | (simp; omega)) _ | refine Below.setCell ?_ (by first | omega | (simp; done) | (simp; omega)) _ | refine below_drewN ?_ _))⟩
  · have HF := Lib.hid (szN_ge h)
    go_enter Try.func15, Try.ntmps15
    go_wp2_with fail
    refine (szInt64S_any _ _ xs q (hv.below ?_) hq hq').mono ?_
    · (repeat (first | assumption | exact Below.refl _ _ | refine Below.alloc ?_ (by first | omega | (simp; done) | (simp; omega)) _ | refine Below.setCell ?_ (by first | omega | (simp; done) | (simp; omega)) _ | refine below_drewN ?_ _))
    rintro e w1 ⟨rfl, rfl⟩
    rw [HF.out]
    go_wp2
    go_ret
    exact ⟨by rw [HF.out]; rfl, by (repeat (first | assumption | exact Below.refl _ _ | refine Below.alloc ?_ (by first | omega | (simp; done) | (simp; omega)) _ | refine Below.setCell ?_ (by first | omega | (simp; done) | (simp; omega)) _ | refine below_drewN ?_ _))⟩
theorem eqS_any (w : World) (m n : Int) (v u : Value) (xs ys : List Int) (hv : RdI w v xs) (hu : RdI w u ys) :
    Calls Try.prog 19 #[.agg #[.int .i64 m, v], .agg #[.int .i64 n, u]] w fun e w' => e = .returned (.bool (m == n && xs == ys)) ∧ Below w.heap.size w w' := by
  obtain ⟨A0, c0, rfl, hv1⟩ := id hv
  obtain ⟨A1, c1, rfl, hu1⟩ := id hu
  clear hv1 hu1
  by_cases h : m = n
  · have h1 : (m != n) = false := by simpa using h
    have HF : Hid ((m == n && xs == ys) = (xs == ys)) := by simp [Hid, h]
    clear h
    cases hs : (xs == ys)
    all_goals
      rw [hs] at HF
      have HS := Lib.hid hs
      clear hs
      go_enter Try.func19, Try.ntmps19
      go_wp2_with fail
      refine (eqInt64S_any _ _ _ xs ys (hv.below ?_) (hu.below ?_)).mono ?_
      · (repeat (first | assumption | exact Below.refl _ _ | refine Below.alloc ?_ (by first | omega | (simp; done) | (simp; omega)) _ | refine Below.setCell ?_ (by first | omega | (simp; done) | (simp; omega)) _ | refine below_drewN ?_ _))
      · (repeat (first | assumption | exact Below.refl _ _ | refine Below.alloc ?_ (by first | omega | (simp; done) | (simp; omega)) _ | refine Below.setCell ?_ (by first | omega | (simp; done) | (simp; omega)) _ | refine below_drewN ?_ _))
      rintro e w1 ⟨rfl, k, rfl⟩
      rw [HS.out]
      go_wp2
      go_ret
      exact ⟨by rw [HF.out]; rfl, by (repeat (first | assumption | exact Below.refl _ _ | refine Below.alloc ?_ (by first | omega | (simp; done) | (simp; omega)) _ | refine Below.setCell ?_ (by first | omega | (simp; done) | (simp; omega)) _ | refine below_drewN ?_ _))⟩
  · have h1 : (m != n) = true := by simpa using h
    have HF : Hid ((m == n && xs == ys) = false) := by simp [Hid, h]
    clear h
    go_enter Try.func19, Try.ntmps19
    go_wp2
    go_ret
    exact ⟨by rw [HF.out]; rfl, by (repeat (first | assumption | exact Below.refl _ _ | refine Below.alloc ?_ (by first | omega | (simp; done) | (simp; omega)) _ | refine Below.setCell ?_ (by first | omega | (simp; done) | (simp; omega)) _ | refine below_drewN ?_ _))⟩
theorem markS_any (w : World) (B : Nat) (m : Int) (v : Value) (xs : List Int) (n : Nat) (q : Int) (hv : OwnI w B v xs) (hn : xs.length = n) (hl : n ≤ 100000000) (hq : 0 ≤ q) (hq' : q ≤ 1000000000) :
    Calls Try.prog 20 #[.agg #[.int .i64 m, v], .int .i64 q] w (Marked w B v q n) := by
  obtain ⟨A0, c0, e0⟩ := hv.form
  subst e0
  have HN := Lib.hid hn
  clear hn
  go_enter Try.func20, Try.ntmps20
  go_wp2_with fail
  refine (markInt64S_any _ B _ xs n q (hv.alloc _) HN.out hl hq hq').mono ?_
  rintro e w1 ⟨rfl, ho, hg⟩
  go_wp2
  go_ret
  refine ⟨rfl, ho, hg.os, hg.tape, hg.output, ?_, fun k hk hne => (hg.block k (by simp; omega) hne).trans (Below.heap_alloc _ _ _ hk)⟩
  have := hg.size
  simp at this
  omega
theorem heldS_any (w : World) (B : Nat) (m : Int) (v : Value) (n : Nat) (q : Int) (hv : OwnI w B v (marks q n)) (hl : n ≤ 100000000) (hq : 0 ≤ q) (hq' : q ≤ 1000000000) :
    Calls Try.prog 21 #[.agg #[.int .i64 m, v], .int .i64 q] w fun e w' => e = .returned (.int .i64 (q + n)) ∧ Below w.heap.size w w' := by
  obtain ⟨A0, c0, e0⟩ := hv.form
  subst e0
  go_enter Try.func21, Try.ntmps21
  go_wp2_with fail
  refine (heldInt64S_any _ B _ n q (hv.alloc _) hl hq hq').mono ?_
  rintro e w1 ⟨rfl, rfl⟩
  go_wp2
  go_ret
  exact ⟨rfl, by (repeat (first | assumption | exact Below.refl _ _ | refine Below.alloc ?_ (by first | omega | (simp; done) | (simp; omega)) _ | refine Below.setCell ?_ (by first | omega | (simp; done) | (simp; omega)) _ | refine below_drewN ?_ _))⟩

/-! ### Series and curves -/
def isSer (m : Int) (xs : List Int) : Bool := isModB m && inB xs.length 2 11 && numsB m xs
theorem isSer_true {m : Int} {xs : List Int} (h : isSer m xs = true) : isModB m = true ∧ (2 ≤ xs.length ∧ xs.length ≤ 11) ∧ numsB m xs = true := by
  simp only [isSer, Bool.and_eq_true] at h
  have := inB_true.1 h.1.2
  exact ⟨h.1.1, by omega, h.2⟩
theorem isSer_num {m : Int} {xs : List Int} (h : isSer m xs = true) (k : Nat) : 0 ≤ xs.getD k 0 ∧ xs.getD k 0 < m := by
  obtain ⟨h1, h2, h3⟩ := isSer_true h
  have h4 := isModB_true h1
  rcases Nat.lt_or_ge k xs.length with hk | hk
  · rw [List.getD_eq_getElem?_getD, List.getElem?_eq_getElem hk]
    unfold numsB at h3
    rw [List.all_eq_true] at h3
    exact isNumB_true (h3 _ (List.getElem_mem hk))
  · rw [List.getD_eq_getElem?_getD, List.getElem?_eq_none hk]
    simp
    omega
theorem IsSeries1_pred (w : World) (b : Nat) (m : Int) (hm : isModB m = true) (hb : w.cell? ⟨b, 0, none⟩ = some (.int .i64 m)) (hb' : b < w.heap.size) : Pred w 103 #[.pointer (some ⟨b, 0, none⟩)] (fun a => isNumB a m) := by
  refine ⟨Try.call103, fun W x hW => ?_⟩
  have hc := (hW.cell (p := ⟨b, 0, none⟩) hb').trans hb
  have HM := Lib.hid hm
  clear hW hb hm
  go_enter Try.func103, Try.ntmps103
  go_wp2_with (go_at_call 59; refine (isNumber_any _ _ _ HM.out).mono ?_; rintro e w' ⟨rfl, k', rfl⟩)
  go_ret
  exact ⟨rfl, _, rfl⟩
theorem iDegree_any (m : Int) (A : Option Addr) (n c : Nat) (w : World) (hn : n ≤ 1000000000) : Calls Try.prog 54 #[.agg #[.int .i64 m, .slice A n c]] w fun e w' => e = .returned (.int .i64 ((n : Int) - 1)) ∧ Below w.heap.size w w' := by
  go_enter Try.func54, Try.ntmps54
  go_wp2
  go_ret
  exact ⟨rfl, by (repeat (first | assumption | exact Below.refl _ _ | refine Below.alloc ?_ (by first | omega | (simp; done) | (simp; omega)) _ | refine Below.setCell ?_ (by first | omega | (simp; done) | (simp; omega)) _ | refine below_drewN ?_ _))⟩
theorem iIsSeries_any (m : Int) (w : World) (v : Value) (xs : List Int) (B : Nat) (hv : OwnI w B v xs) (hl : xs.length ≤ 1000000000) :
    Calls Try.prog 53 #[.agg #[.int .i64 m, v]] w fun e w' => e = .returned (.bool (isSer m xs)) ∧ Below w.heap.size w w' := by
  obtain ⟨A, c, rfl⟩ := hv.form
  cases hm : isModB m
  · have HF : Hid (isSer m xs = false) := by simp [Hid, isSer, hm]
    have HM := Lib.hid hm
    clear hm
    go_enter Try.func53, Try.ntmps53
    go_wp2_with (go_at_call 101; refine (iIsModulus_any _ _).mono ?_; rintro e w' ⟨rfl, k', rfl⟩; rw [HM.out])
    go_ret
    exact ⟨by rw [HF.out]; rfl, by (repeat (first | assumption | exact Below.refl _ _ | refine Below.alloc ?_ (by first | omega | (simp; done) | (simp; omega)) _ | refine Below.setCell ?_ (by first | omega | (simp; done) | (simp; omega)) _ | refine below_drewN ?_ _))⟩
  · cases hn : inB xs.length 2 11
    · have HF : Hid (isSer m xs = false) := by simp [Hid, isSer, hn]
      have HN : Hid (inB ((xs.length : Int) - 1) 1 10 = false) := by
        unfold Hid; rw [inB_false] at hn ⊢; omega
      have HM := Lib.hid hm
      clear hm hn
      go_enter Try.func53, Try.ntmps53
      go_wp2_with (go_at_call 101; refine (iIsModulus_any _ _).mono ?_; rintro e w' ⟨rfl, k', rfl⟩; rw [HM.out])
      refine (iDegree_any m A xs.length c _ hl).mono ?_
      rintro e w1 ⟨rfl, hb1⟩
      go_wp2_with (go_at_call 62; refine (in_any _ _ _ _).mono ?_; rintro e w' ⟨rfl, k'', rfl⟩; rw [HN.out])
      go_ret
      exact ⟨by rw [HF.out]; rfl, below_drewN (Below.trans (by (repeat (first | assumption | exact Below.refl _ _ | refine Below.alloc ?_ (by first | omega | (simp; done) | (simp; omega)) _ | refine Below.setCell ?_ (by first | omega | (simp; done) | (simp; omega)) _ | refine below_drewN ?_ _))) (hb1.mono (by simp))) _⟩
    · have HF : Hid (isSer m xs = numsB m xs) := by simp [Hid, isSer, hm, hn]
      have HN : Hid (inB ((xs.length : Int) - 1) 1 10 = true) := by
        unfold Hid; rw [inB_true] at hn ⊢; omega
      have HM := Lib.hid hm
      have HA : Hid ((xs.all fun a => isNumB a m) = numsB m xs) := rfl
      clear hm hn
      go_enter Try.func53, Try.ntmps53
      go_wp2_with (go_at_call 101; refine (iIsModulus_any _ _).mono ?_; rintro e w' ⟨rfl, k', rfl⟩; rw [HM.out])
      refine (iDegree_any m A xs.length c _ hl).mono ?_
      rintro e w1 ⟨rfl, hb1⟩
      obtain ⟨hc, hf⟩ := bcell hb1
      have hz := hb1.size
      simp at hz
      go_wp2_with (go_at_call 62; refine (in_any _ _ _ _).mono ?_; rintro e w' ⟨rfl, k'', rfl⟩; rw [HN.out])
      refine (all_any _ _ xs B (OwnI.drewN (OwnI.keep ((hv.alloc _).drewN _) hb1 (Nat.le_refl _)) _) _ _ _ (IsSeries1_pred _ w.heap.size m HM.out (by simp [hc]) (by simp; omega))).mono ?_
      rintro e w2 ⟨rfl, hb2⟩
      rw [HA.out]
      go_wp2
      go_ret
      exact ⟨by rw [HF.out]; rfl, (below_drewN (Below.trans (by (repeat (first | assumption | exact Below.refl _ _ | refine Below.alloc ?_ (by first | omega | (simp; done) | (simp; omega)) _ | refine Below.setCell ?_ (by first | omega | (simp; done) | (simp; omega)) _ | refine below_drewN ?_ _))) (hb1.mono (by simp))) _).trans (hb2.mono (by simp; omega))⟩
theorem l02Is_any (m : Int) (w : World) (v : Value) (xs : List Int) (B : Nat) (hv : OwnI w B v xs) (hl : xs.length ≤ 1000000000) :
    Calls Try.prog 49 #[.agg #[.int .i64 m, v]] w fun e w' => e = .returned (.bool (isSer m xs)) ∧ Below w.heap.size w w' := by
  obtain ⟨A, c, rfl⟩ := hv.form
  cases hm : isModB m
  · have HF : Hid (isSer m xs = false) := by simp [Hid, isSer, hm]
    have HM := Lib.hid hm
    clear hm
    go_enter Try.func49, Try.ntmps49
    go_wp2_with (go_at_call 99; refine (sModulus_any _ _).mono ?_; rintro e w' ⟨rfl, k', rfl⟩; rw [HM.out])
    go_ret
    exact ⟨by rw [HF.out]; rfl, by (repeat (first | assumption | exact Below.refl _ _ | refine Below.alloc ?_ (by first | omega | (simp; done) | (simp; omega)) _ | refine Below.setCell ?_ (by first | omega | (simp; done) | (simp; omega)) _ | refine below_drewN ?_ _))⟩
  · cases hn : inB xs.length 2 11
    · have HF : Hid (isSer m xs = false) := by simp [Hid, isSer, hn]
      have HN := Lib.hid hn
      have HM := Lib.hid hm
      clear hm hn
      go_enter Try.func49, Try.ntmps49
      go_wp2_with (first | (go_at_call 99; refine (sModulus_any _ _).mono ?_; rintro e w' ⟨rfl, k', rfl⟩; rw [HM.out]) | (go_at_call 57; refine (l01In_any _ _ _ _).mono ?_; rintro e w' ⟨rfl, k'', rfl⟩; rw [HN.out]))
      go_ret
      exact ⟨by rw [HF.out]; rfl, by (repeat (first | assumption | exact Below.refl _ _ | refine Below.alloc ?_ (by first | omega | (simp; done) | (simp; omega)) _ | refine Below.setCell ?_ (by first | omega | (simp; done) | (simp; omega)) _ | refine below_drewN ?_ _))⟩
    · have HF : Hid (isSer m xs = numsB m xs) := by simp [Hid, isSer, hm, hn]
      have HN := Lib.hid hn
      have HM := Lib.hid hm
      clear hm hn
      go_enter Try.func49, Try.ntmps49
      go_wp2_with (first | (go_at_call 99; refine (sModulus_any _ _).mono ?_; rintro e w' ⟨rfl, k', rfl⟩; rw [HM.out]) | (go_at_call 57; refine (l01In_any _ _ _ _).mono ?_; rintro e w' ⟨rfl, k'', rfl⟩; rw [HN.out]))
      refine (l01Numbers_any m _ _ xs B HM.out (OwnI.drewN (hv.alloc _) _)).mono ?_
      rintro e w' ⟨rfl, k3, rfl⟩
      go_wp2
      go_ret
      exact ⟨by rw [HF.out]; rfl, by (repeat (first | assumption | exact Below.refl _ _ | refine Below.alloc ?_ (by first | omega | (simp; done) | (simp; omega)) _ | refine Below.setCell ?_ (by first | omega | (simp; done) | (simp; omega)) _ | refine below_drewN ?_ _))⟩
def isCur (m : Int) (xs : List Int) : Bool := isSer m xs && xs.getD 0 0 == 0
theorem l02Curve_any (m : Int) (w : World) (v : Value) (xs : List Int) (B : Nat) (hv : OwnI w B v xs) (hl : xs.length ≤ 1000000000) :
    Calls Try.prog 56 #[.agg #[.int .i64 m, v]] w fun e w' => e = .returned (.bool (isCur m xs)) ∧ Below w.heap.size w w' := by
  obtain ⟨A, c, e0, hc1, hc2, hA⟩ := hv.open_
  subst e0
  cases hs : isSer m xs
  · have HF : Hid (isCur m xs = false) := by simp [Hid, isCur, hs]
    have HS := Lib.hid hs
    clear hs hA
    go_enter Try.func56, Try.ntmps56
    go_wp2_with (go_at_call 49; refine (l02Is_any m _ _ xs B (hv.alloc _) hl).mono ?_; rintro e w1 ⟨rfl, hb1⟩; rw [HS.out])
    go_ret
    exact ⟨by rw [HF.out]; rfl, Below.trans (by (repeat (first | assumption | exact Below.refl _ _ | refine Below.alloc ?_ (by first | omega | (simp; done) | (simp; omega)) _ | refine Below.setCell ?_ (by first | omega | (simp; done) | (simp; omega)) _ | refine below_drewN ?_ _))) (hb1.mono (by simp))⟩
  · obtain ⟨_, ⟨h1, h2⟩, _⟩ := isSer_true hs
    obtain ⟨g, rfl, hg1, hg2, hcell, hfr⟩ := hA 0 (by omega)
    clear hA
    obtain ⟨x, hx⟩ : ∃ x, x = xs.getD 0 0 := ⟨_, rfl⟩
    rw [← hx] at hcell
    have HF : Hid (isCur m xs = (x == 0)) := by simp [Hid, isCur, hs, hx]
    have HS := Lib.hid hs
    clear hs hx
    unfold maxLen at hc2
    go_enter Try.func56, Try.ntmps56
    go_wp2_with (go_at_call 49; refine (l02Is_any m _ _ xs B (hv.alloc _) hl).mono ?_; rintro e w1 ⟨rfl, hb1⟩; rw [HS.out]; obtain ⟨hc, hf⟩ := bcell hb1; have hz := hb1.size; simp at hz)
    go_ret
    exact ⟨by rw [HF.out]; rfl, Below.trans (by (repeat (first | assumption | exact Below.refl _ _ | refine Below.alloc ?_ (by first | omega | (simp; done) | (simp; omega)) _ | refine Below.setCell ?_ (by first | omega | (simp; done) | (simp; omega)) _ | refine below_drewN ?_ _))) (hb1.mono (by simp))⟩

/-! ### What the laws' walks carry from world to world -/
/-- A box of two cells. -/
def Bx (w : World) (b : Nat) (x y : Value) : Prop := b < w.heap.size ∧ w.cell? ⟨b, 0, none⟩ = some x ∧ w.cell? ⟨b, 1, none⟩ = some y
theorem Bx.keep {w w' : World} {b : Nat} {x y : Value} (h : Bx w b x y) (R : Below w.heap.size w w') : Bx w' b x y :=
  ⟨Nat.lt_of_lt_of_le h.1 R.size, (R.cell (p := ⟨b, 0, none⟩) h.1).trans h.2.1, (R.cell (p := ⟨b, 1, none⟩) h.1).trans h.2.2⟩
theorem Bx.grown {w w' : World} {b : Nat} {x y u : Value} (h : Bx w b x y) (R : w.grownBy w' u.ownBlock) (hne : ∀ g, u.ownBlock = some g → g ≠ b) : Bx w' b x y := by
  have e : w'.heap[b]? = w.heap[b]? := R.block b h.1 fun e => hne b e.symm rfl
  exact ⟨Nat.lt_of_lt_of_le h.1 R.size, (World.cell?_of_block (a := ⟨b, 0, none⟩) e).trans h.2.1, (World.cell?_of_block (a := ⟨b, 1, none⟩) e).trans h.2.2⟩
theorem OwnI.grown {w w' : World} {B : Nat} {v u : Value} {xs : List Int} (h : OwnI w B v xs) (R : w.grownBy w' u.ownBlock) (hne : ∀ g g', v.ownBlock = some g → u.ownBlock = some g' → g ≠ g') : OwnI w' B v xs :=
  h.of_block fun g hg => R.block g (h.block_ge hg).2 fun e => hne g g hg e.symm rfl
theorem grownBy_behind {w W w' : World} {r : Option Nat} (h : Below w.heap.size w W) (h' : W.grownBy w' r) : w.grownBy w' r :=
  ⟨h'.os.trans h.os, h'.tape.trans h.tape, h'.output.trans h.output, Nat.le_trans h.size h'.size, fun k hk hne => (h'.block k (Nat.lt_of_lt_of_le hk h.size) hne).trans (h.block k hk)⟩
theorem below_grownBy {B : Nat} {w0 w w' : World} {r : Option Nat} (h : Below B w0 w) (hB : B ≤ w.heap.size) (h' : w.grownBy w' r) (hr : ∀ g, r = some g → B ≤ g) : Below B w0 w' :=
  h.grown h' hB fun b hb => hr b hb
theorem RdI.form {w : World} {v : Value} {xs : List Int} (h : RdI w v xs) : ∃ A c, v = .slice A xs.length c := by
  obtain ⟨A, c, h1, _⟩ := h
  exact ⟨A, c, h1⟩
/-! Names of one form for the laws' helpers. -/
abbrev OwnS := OwnI
abbrev OwnL := OwnI
abbrev RdS := RdI
abbrev RdL := RdI
abbrev NewL := NewI
theorem toL_any (w : World) (v : Value) (xs : List Int) (hv : RdI w v xs) (hl : xs.length ≤ 2000000) : Calls Try.prog 31 #[v] w (NewI w xs) := toInt64S_any w v xs hv hl
theorem eqL_any (w : World) (v u : Value) (xs ys : List Int) (hv : RdI w v xs) (hu : RdI w u ys) : Calls Try.prog 33 #[v, u] w fun e w' => e = .returned (.bool (xs == ys)) ∧ Below w.heap.size w w' :=
  (eqInt64S_any w v u xs ys hv hu).mono fun _ _ ⟨h, n, e⟩ => ⟨h, by rw [e]; exact below_drewN (Below.refl _ _) _⟩
theorem markL_any (w : World) (B : Nat) (v : Value) (xs : List Int) (n : Nat) (q : Int) (hv : OwnI w B v xs) (hn : xs.length = n) (hl : n ≤ 100000000) (hq : 0 ≤ q) (hq' : q ≤ 1000000000) :
    Calls Try.prog 34 #[v, .int .i64 q] w (Marked w B v q n) := markInt64S_any w B v xs n q hv hn hl hq hq'
theorem heldL_any (w : World) (B : Nat) (v : Value) (n : Nat) (q : Int) (hv : OwnI w B v (marks q n)) (hl : n ≤ 100000000) (hq : 0 ≤ q) (hq' : q ≤ 1000000000) :
    Calls Try.prog 35 #[v, .int .i64 q] w fun e w' => e = .returned (.int .i64 (q + n)) ∧ Below w.heap.size w w' :=
  (heldInt64S_any w B v n q hv hl hq hq').mono fun _ _ ⟨h, e⟩ => ⟨h, by rw [← e]; exact Below.refl _ _⟩
/-! What a function returns beside a code. -/
def RetB (w : World) (r : Bool) (e : Ending) (w' : World) : Prop := e = .returned (.bool r) ∧ Below w.heap.size w w'
def RetBI (w : World) (r : Bool × Int) (e : Ending) (w' : World) : Prop := e = .returned (.tuple #[.bool r.1, .int .i64 r.2]) ∧ Below w.heap.size w w'
def RetII (w : World) (r : Int × Int) (e : Ending) (w' : World) : Prop := e = .returned (.tuple #[.int .i64 r.1, .int .i64 r.2]) ∧ Below w.heap.size w w'
def RetSI (w : World) (r : (Int × List Int) × Int) (e : Ending) (w' : World) : Prop := ∃ A c, e = .returned (.tuple #[.agg #[.int .i64 r.1.1, .slice A r.1.2.length c], .int .i64 r.2]) ∧ OwnI w' w.heap.size (.slice A r.1.2.length c) r.1.2 ∧ Below w.heap.size w w'
def RetLI (w : World) (r : List Int × Int) (e : Ending) (w' : World) : Prop := ∃ A c, e = .returned (.tuple #[.slice A r.1.length c, .int .i64 r.2]) ∧ OwnI w' w.heap.size (.slice A r.1.length c) r.1 ∧ Below w.heap.size w w'
theorem RetB.of {w : World} {r r' : Bool} {e : Ending} {w' : World} (h : RetB w r e w') (he : Hid (r = r')) : RetB w r' e w' := by rw [← he.out]; exact h
theorem RetBI.of {w : World} {r r' : Bool × Int} {e : Ending} {w' : World} (h : RetBI w r e w') (he : Hid (r = r')) : RetBI w r' e w' := by rw [← he.out]; exact h
theorem RetII.of {w : World} {r r' : Int × Int} {e : Ending} {w' : World} (h : RetII w r e w') (he : Hid (r = r')) : RetII w r' e w' := by rw [← he.out]; exact h
theorem RetSI.of {w : World} {r r' : (Int × List Int) × Int} {e : Ending} {w' : World} (h : RetSI w r e w') (he : Hid (r = r')) : RetSI w r' e w' := by rw [← he.out]; exact h
theorem RetLI.of {w : World} {r r' : List Int × Int} {e : Ending} {w' : World} (h : RetLI w r e w') (he : Hid (r = r')) : RetLI w r' e w' := by rw [← he.out]; exact h

/-! ### The row's last step, where of the world only 'Below' is known -/
section
open Go.WideShapes Go.ChangeShapes
variable {H : Type} {enc : TypeId × Value → H} {P : Program}
theorem post_of_below {f : Func} {s : ChangeSpec} {apart fresh handsOn again : Bool} {W W' : World} {args : Array Value} {v : Value} {ds gs : List (DataW H)} {before pa pv : List MemPlace}
    (hW : DataW.Whole enc P f.params.toList s.vars apart W args.toList ds gs before)
    (hres : ∀ (b : Nat) (sp : Nat → Bool) (hd : Bool), DataW.TrodAll enc P W' b sp hd f.resultTypes.toList (v.resultList f.resultTypes.size) (s.fn H (ds ++ gs)).results [])
    (hargs : ∀ sp : Nat → Bool, (∀ p ∈ before, sp p.block = true) → DataW.TrodAll enc P W' 0 sp true f.params.toList args.toList (s.fn H (ds ++ gs)).args pa)
    (hvars : ∀ sp : Nat → Bool, (∀ p ∈ before, sp p.block = true) → DataW.TrodVars enc P W' sp s.vars (s.fn H (ds ++ gs)).vars pv)
    (hps : before = pa ++ pv) (hb : Below W.heap.size W W')
    (hok : ∀ (j : Nat) (t : TypeId) (r : Value), f.resultTypes[j]? = some t → (v.resultList f.resultTypes.size)[j]? = some r → Value.okWide P W' .any 0 t r) :
    s.post enc P f apart fresh handsOn again W args v W' := by
  have hlt : ∀ p ∈ before, p.block < W.heap.size := fun p hp => hW.lt p hp
  have hold : ∀ p ∈ before, (fun b => decide (b < W.heap.size)) p.block = true := fun p hp => by simpa using hlt p hp
  refine ⟨ds, gs, before, [], pa, pv, hW, hres _ _ _, hargs _ hold, hvars _ hold, World.keptBut_mono (fun p hp => ⟨hp, ?_⟩) (hb.frame (· ∈ before)), fun _ => ?_⟩
  · rw [hps, List.mem_append] at hp
    exact Or.inr hp
  · obtain ⟨_, _, _, _, _, hz, hn⟩ := hW
    refine ⟨hok, _, _, ([] ++ pa) ++ pv, ⟨[] ++ pa, pv, trodAll_append (hargs _ (fun _ _ => rfl)) (hres _ _ _), hvars _ (fun _ _ => rfl), rfl, ?_, ?_⟩, ?_⟩
    · intro b off hp
      have hin : MemPlace.cell b off ∈ before := by rw [hps]; simpa using hp
      rw [hb.frozen (hlt _ hin)]
      exact hz b off hin
    · intro ha
      have := hn ha
      rw [hps] at this
      simpa using this
    · intro p hp _
      rw [hps]
      simpa using hp
end

/-! ### The arguments read behind the call as they read before -/
section
open Go.ChangeShapes Go.WideShapes
variable {H : Type} {enc : TypeId × Value → H} {P : Program} {w w' : World} {base : Nat} {T : TypeId → Prop}
theorem mapM_len' {α β : Type} {f : α → Option β} : ∀ {l : List α} {r : List β}, l.mapM f = some r → r.length = l.length
  | [], r, h => by simp at h; simp [h]
  | x :: xs, r, h => by
    rw [List.mapM_cons] at h
    cases hx : f x with
    | none => simp [hx] at h
    | some y =>
      cases hxs : xs.mapM f with
      | none => simp [hx, hxs] at h
      | some ys =>
        simp [hx, hxs] at h
        subst h
        simp [mapM_len' hxs]
/-- A reading under 'every block is the caller's own' is a reading under whatever says so of the blocks that it met. -/
theorem trodStep_spared {sp : Nat → Bool} {r r' : TypeId → List Value → Option (DataW H × List MemPlace)} (K : Kids P T) (hpos : ∀ t e, T t → P.underlying t = some (.slice e) → 0 < P.cellsOf e)
    (hr : ∀ t cs x, T t → r t cs = some x → (∀ p ∈ x.2, sp p.block = true) → r' t cs = some x) {t : TypeId} (hT : T t) {cs : List Value} {x : DataW H × List MemPlace}
    (h : DataW.trodStep enc P w base (fun _ => true) true r t cs = some x) (hx : ∀ p ∈ x.2, sp p.block = true) : DataW.trodStep enc P w base sp true r' t cs = some x := by
  unfold DataW.trodStep at h ⊢
  split at h
  case h_1 => exact h
  case h_2 => exact h
  case h_3 => exact h
  case h_4 => exact h
  case h_5 => exact h
  case h_6 e a _ =>
    simp only [Option.map_eq_some_iff, Option.bind_eq_some_iff] at h ⊢
    obtain ⟨y, ⟨cs', hc, hy⟩, rfl⟩ := h
    exact ⟨y, ⟨cs', hc, hr _ _ _ (K.pointer hT ‹_›) hy fun p hp => hx p (List.mem_append_right _ hp)⟩, rfl⟩
  case h_7 => exact h
  case h_8 e a len cap hu =>
    simp only at h ⊢
    split at h
    · rename_i hc
      rw [if_pos hc]
      simp only [Option.map_eq_some_iff, Option.bind_eq_some_iff, if_true] at h ⊢
      obtain ⟨elems, he, rest, hrest, rfl⟩ := h
      have one : ∀ (i : Nat) (y : DataW H × List MemPlace), y ∈ elems ++ rest → (w.cells? base (a.add (i * P.cellsOf e)) (P.cellsOf e)).bind (r e) = some y → (w.cells? base (a.add (i * P.cellsOf e)) (P.cellsOf e)).bind (r' e) = some y := by
        intro i y hy hv
        simp only [Option.bind_eq_some_iff] at hv ⊢
        obtain ⟨cs', hc', hy'⟩ := hv
        exact ⟨cs', hc', hr _ _ _ (K.slice hT hu) hy' fun p hp => hx p (List.mem_append_right _ (List.mem_flatMap.2 ⟨y, hy, hp⟩))⟩
      refine ⟨elems, mapM_carry he (fun i y _ hy => one i y (List.mem_append_left _ hy)), rest, ?_, rfl⟩
      have hl : elems.length = len := by have := mapM_len' he; simpa using this
      have hl' : rest.length = cap - len := by have := mapM_len' hrest; simpa using this
      by_cases h0 : cap - len = 0
      · have hr0 : rest = [] := List.eq_nil_of_length_eq_zero (by omega)
        subst hr0
        rw [h0]
        split <;> rfl
      · have hs : sp a.block = true := by
          refine hx (.cell a.block (a.off + 0)) (List.mem_append_left _ (MemPlace.mem_row.2 ⟨0, ?_, rfl⟩))
          have := hpos _ _ hT hu
          exact Nat.mul_pos (by omega) this
        rw [if_pos hs]
        exact mapM_carry hrest (fun j y _ hy => one (len + j) y (List.mem_append_right _ hy))
    · cases h
  case h_9 =>
    split at h
    · rename_i hc
      rw [if_pos hc]
      simp only [Option.map_eq_some_iff] at h ⊢
      obtain ⟨xs, hxs, rfl⟩ := h
      exact ⟨xs, mapM_carry hxs (fun f y hf hy hv => hr _ _ _ ((K.struct hT ‹_›).1 f hf) hv fun p hp => hx p (List.mem_flatMap.2 ⟨y, hy, hp⟩)), rfl⟩
    · cases h
  case h_10 =>
    split at h
    · rename_i hc
      rw [if_pos hc]
      simp only [Option.map_eq_some_iff] at h ⊢
      obtain ⟨xs, hxs, rfl⟩ := h
      exact ⟨xs, mapM_carry hxs (fun f y _ hy hv => hr _ _ _ (K.array hT ‹_›).1 hv fun p hp => hx p (List.mem_flatMap.2 ⟨y, hy, hp⟩)), rfl⟩
    · cases h
  case h_11 => exact h
  case h_12 => exact h
  case h_13 => exact h
  case h_14 k e b _ =>
    split at h
    · rename_i es clock hb
      split at h
      · rename_i hc
        simp only [Option.bind_eq_some_iff] at h
        obtain ⟨entries, he, hd⟩ := h
        split at hd
        · rename_i hris
          have hxx := Option.some.inj hd
          subst hxx
          simp only [if_pos hc, Option.bind_eq_some_iff]
          refine ⟨entries, mapM_carry he (fun x y _ hy hv => ?_), by simp [hris]⟩
          simp only [Option.bind_eq_some_iff] at hv ⊢
          obtain ⟨key, hk, hz⟩ := hv
          refine ⟨key, hk, ?_⟩
          split at hz
          · rename_i hf
            rw [if_pos hf]
            simp only [Option.map_eq_some_iff] at hz ⊢
            obtain ⟨q, hq, rfl⟩ := hz
            exact ⟨q, hr _ _ _ (K.map hT ‹_›) hq fun p hp => hx p (List.mem_cons_of_mem _ (List.mem_flatMap.2 ⟨_, hy, hp⟩)), rfl⟩
          · cases hz
        · cases hd
      · cases h
    · cases h
  case h_15 => exact h
  case h_16 => exact h
  case h_17 => exact h
  case h_18 => exact h
  case h_19 => exact h
  case h_20 => exact h
  case h_21 => cases h
theorem trod_spared {sp : Nat → Bool} (K : Kids P T) (hpos : ∀ t e, T t → P.underlying t = some (.slice e) → 0 < P.cellsOf e) :
    ∀ (n : Nat) (t : TypeId) (cs : List Value) (x : DataW H × List MemPlace), T t → DataW.trod enc P w base (fun _ => true) true n t cs = some x → (∀ p ∈ x.2, sp p.block = true) → DataW.trod enc P w base sp true n t cs = some x := by
  intro n
  induction n with
  | zero => intro t cs x _ h; simp [DataW.trod] at h
  | succ n ih =>
    intro t cs x hT h hx
    rw [DataW.trod_step] at h ⊢
    exact trodStep_spared K hpos ih hT h hx
theorem sameAt_below (hb : Below w.heap.size w w') {p : MemPlace} (hp : p.block < w.heap.size) : w.sameAt w' p := by
  cases p with
  | cell b off => exact hb.cell (p := ⟨b, off, none⟩) hp
  | map b => exact hb.block b hp
theorem trodAll_keep (K : Kids P T) (hpos : ∀ t e, T t → P.underlying t = some (.slice e) → 0 < P.cellsOf e) (hb : Below w.heap.size w w') {sp : Nat → Bool} :
    ∀ {ts : List TypeId} {vs : List Value} {ds : List (DataW H)} {ps : List MemPlace}, (∀ t ∈ ts, T t) → DataW.TrodAll enc P w base (fun _ => true) true ts vs ds ps → (∀ p ∈ ps, p.block < w.heap.size) → (∀ p ∈ ps, sp p.block = true) → DataW.TrodAll enc P w' base sp true ts vs ds ps
  | [], vs, ds, ps, _, h, _, _ => by obtain ⟨rfl, rfl, rfl⟩ := trodAll_nil h; rfl
  | t :: ts, vs, ds, ps, hT, h, h1, h2 => by
    obtain ⟨v, vs', d, ds', p, q, rfl, rfl, rfl, ⟨n, hd⟩, hr⟩ := trodAll_cons h
    refine ⟨p, q, ⟨n, trod_spared K hpos n _ _ _ (hT t (by simp)) (DataW.trod_carry n _ _ _ hd fun x hx => sameAt_below hb (h1 x (List.mem_append_left _ hx))) fun x hx => h2 x (List.mem_append_left _ hx)⟩, ?_, rfl⟩
    exact trodAll_keep K hpos hb (fun x hx => hT x (by simp [hx])) hr (fun x hx => h1 x (List.mem_append_right _ hx)) (fun x hx => h2 x (List.mem_append_right _ hx))
/-- The row's last step: the law's answer is true, and nothing that lay in memory has changed. -/
theorem post_keeps {f : Func} {s : ChangeSpec} {apart fresh handsOn again : Bool} {W W' : World} {args : Array Value} {v : Value} {ds gs : List (DataW H)} {before p q : List MemPlace}
    (K : Kids P T) (hpos : ∀ t e, T t → P.underlying t = some (.slice e) → 0 < P.cellsOf e) (hT : ∀ t ∈ f.params.toList, T t)
    (hW : DataW.Whole enc P f.params.toList s.vars apart W args.toList ds gs before) (hA : DataW.TrodAll enc P W 0 (fun _ => true) true f.params.toList args.toList ds p) (hV : DataW.TrodVars enc P W (fun _ => true) s.vars gs q) (hs : s.vars = []) (hbf : before = p ++ q)
    (hsp : (s.fn H (ds ++ gs)).args = ds) (hsv : (s.fn H (ds ++ gs)).vars = [])
    (hres : ∀ (b : Nat) (sp : Nat → Bool) (hd : Bool), DataW.TrodAll enc P W' b sp hd f.resultTypes.toList (v.resultList f.resultTypes.size) (s.fn H (ds ++ gs)).results [])
    (hb : Below W.heap.size W W')
    (hok : ∀ (j : Nat) (t : TypeId) (r : Value), f.resultTypes[j]? = some t → (v.resultList f.resultTypes.size)[j]? = some r → Value.okWide P W' .any 0 t r) :
    s.post enc P f apart fresh handsOn again W args v W' := by
  rw [hs] at hV
  obtain ⟨rfl, rfl⟩ := trodVars_none hV
  refine post_of_below (pa := p) (pv := []) hW hres (fun sp h => ?_) (fun sp _ => ?_) hbf hb hok
  · rw [hsp]
    exact trodAll_keep K hpos hb hT hA hA.lt fun x hx => h x (by rw [hbf]; exact List.mem_append_left _ hx)
  · rw [hs, hsv]; rfl
end
theorem slices_pos : ∀ t e, t < Try.prog.types.size → Try.prog.underlying t = some (.slice e) → 0 < Try.prog.cellsOf e := by
  have h : (List.range Try.prog.types.size).all (fun t => match Try.prog.underlying t with | some (.slice e) => decide (0 < Try.prog.cellsOf e) | _ => true) = true := by kernel_rfl
  intro t e hlt ht
  have := List.all_eq_true.1 h t (List.mem_range.2 hlt)
  rw [ht] at this
  simpa using this
theorem kids_prog : Kids Try.prog (fun t => t < Try.prog.types.size) := kids_rows (by kernel_rfl) (by kernel_rfl)

/-! ### The laws' arguments, read -/
section
open Go.ChangeShapes Go.WideShapes
variable {H : Type} {enc : TypeId × Value → H} {w : World}
theorem rdI_of_trod {fuel : Nat} {v : Value} {x : DataW H × List MemPlace} (h : DataW.trod enc Try.prog w 0 (fun _ => true) true fuel 22 [v] = some x) : ∃ xs, RdI w v xs := by
  have hlt := DataW.trod_lt _ _ _ _ h
  rcases open_ints Try.underlying22 Try.underlying2 (by kernel_rfl) h with ⟨h1, _⟩ | ⟨a, len, cap, zs, h1, _, h2, h3, h4, rfl, h5, _⟩
  · obtain rfl : v = .slice none 0 0 := by simpa using h1
    exact ⟨[], none, 0, rfl, Nat.le_refl _, by unfold maxLen; omega, fun k hk => by simp at hk⟩
  · obtain rfl : v = .slice (some a) len cap := by simpa using h1
    simp only [if_true] at h4
    have hl : (zs.take len).length = len := by rw [List.length_take]; omega
    refine ⟨zs.take len, some a, cap, by rw [hl], by omega, h3, fun k hk => ?_⟩
    rw [hl] at hk
    have hc := h5 k (by omega)
    have hsp : a.spot = none := by
      have hc0 := h5 0 (by omega)
      have e0 : a.add 0 = a := by simp [Addr.add]
      rw [e0] at hc0
      unfold World.cell? at hc0
      cases hs : a.spot with
      | none => rfl
      | some _ =>
        split at hc0
        · simp [hs] at hc0
        · cases hc0
    obtain ⟨b, off, sp⟩ := a
    simp only at hsp
    subst hsp
    refine ⟨b, off, rfl, hlt (.cell b (off + k)) (MemPlace.mem_row.2 ⟨k, by omega, rfl⟩), ?_⟩
    rw [List.getD_eq_getElem?_getD, List.getElem?_take, if_pos hk, ← List.getD_eq_getElem?_getD]
    rw [add_plain] at hc
    exact hc
end

end Go.Proofs.Ytfdklbimdkaaiaa
