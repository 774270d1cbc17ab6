/- Contracts over this seat's translation. Condition: each contract's own. -/
import Derived.Test.YtfdklbimdkaaiaaQ
import Derived.ProofKit
import Derived.Laws.Bits64b
import Derived.Lib.Mul64
import Derived.OpenShut
import Derived.Below
import Derived.ChangeSame
import Derived.Deep.Modes
import Derived.Lib.SmallJoins
import Derived.ChangeSlices
import Derived.WalkKit
import Derived.WalkSpells
import Derived.WalkLawsBesides
import Derived.Deep.QuietTactic
import Derived.BigQuiet
import Derived.Deep.RegionHeld3
import Derived.Deep.RegionWith
import Derived.Deep.RegionLaw
import Derived.Deep.AppendLies
import Derived.Laws.CopyOwn
import Derived.Deep.DeepCutAuto
import Derived.Deep.OwnRows
import Derived.Deep.LoopGhost
import Derived.Deep.DeepFit
import Derived.Deep.DeepMust
import Derived.Deep.Draws
import Derived.Deep.CutRange
import Derived.Maps.AppendAt
import Derived.Lib.Hide
import Derived.StillTailTactics
import Derived.Laws.MakeOwn
import Derived.Deep.Matrix
set_option linter.unusedVariables false
open Go Go.RowKit
namespace Go.Proofs.Ytfdklbimdkaaiaa
/-! ### Lists of lists in memory; what lies in an interval of blocks -/
/-- Between w and w' only blocks from lo to below hi, and new ones, may differ. -/
def Within (lo hi : Nat) (w w' : World) : Prop := w'.os = w.os ∧ w'.tape = w.tape ∧ w'.output = w.output ∧ w.heap.size ≤ w'.heap.size ∧ ∀ k, k < w.heap.size → (k < lo ∨ hi ≤ k) → w'.heap[k]? = w.heap[k]?
theorem Within.refl (lo hi : Nat) (w : World) : Within lo hi w w := ⟨rfl, rfl, rfl, Nat.le_refl _, fun _ _ _ => rfl⟩
theorem Within.trans {lo hi : Nat} {a b c : World} (h : Within lo hi a b) (h' : Within lo hi b c) : Within lo hi a c :=
  ⟨h'.1.trans h.1, h'.2.1.trans h.2.1, h'.2.2.1.trans h.2.2.1, Nat.le_trans h.2.2.2.1 h'.2.2.2.1, fun k hk hn => (h'.2.2.2.2 k (Nat.lt_of_lt_of_le hk h.2.2.2.1) hn).trans (h.2.2.2.2 k hk hn)⟩
theorem Within.of_grownBy {lo hi : Nat} {w w' : World} {r : Option Nat} (h : w.grownBy w' r) (hr : ∀ g, r = some g → lo ≤ g ∧ g < hi) : Within lo hi w w' :=
  ⟨h.os, h.tape, h.output, h.size, fun k hk hn => h.block k hk fun e => by have := hr k e.symm; omega⟩
theorem Within.behind {lo hi : Nat} {w W w' : World} (h : Below w.heap.size w W) (h' : Within lo hi W w') : Within lo hi w w' :=
  ⟨h'.1.trans h.os, h'.2.1.trans h.tape, h'.2.2.1.trans h.output, Nat.le_trans h.size h'.2.2.2.1, fun k hk hn => (h'.2.2.2.2 k (Nat.lt_of_lt_of_le hk h.size) hn).trans (h.block k hk)⟩
theorem Within.below {lo hi B : Nat} {w0 w w' : World} (h0 : Below B w0 w) (hB : B ≤ w.heap.size) (h : Within lo hi w w') (hl : B ≤ lo) : Below B w0 w' :=
  ⟨h.1.trans h0.os, h.2.1.trans h0.tape, h.2.2.1.trans h0.output, Nat.le_trans h0.size h.2.2.2.1, fun k hk => (h.2.2.2.2 k (by omega) (.inl (by omega))).trans (h0.block k hk)⟩
theorem Bx.within {lo hi : Nat} {w w' : World} {b : Nat} {x y : Value} (h : Bx w b x y) (R : Within lo hi w w') (hne : b < lo ∨ hi ≤ b) : Bx w' b x y := by
  have e : w'.heap[b]? = w.heap[b]? := R.2.2.2.2 b h.1 hne
  exact ⟨Nat.lt_of_lt_of_le h.1 R.2.2.2.1, (World.cell?_of_block (a := ⟨b, 0, none⟩) e).trans h.2.1, (World.cell?_of_block (a := ⟨b, 1, none⟩) e).trans h.2.2⟩
/-- A list of int64 in a block from lo to below hi. -/
def OwnB (w : World) (lo hi : Nat) (v : Value) (xs : List Int) : Prop := OwnI w lo v xs ∧ ∀ g, v.ownBlock = some g → g < hi
theorem OwnI.toB {w : World} {lo : Nat} {v : Value} {xs : List Int} (h : OwnI w lo v xs) : OwnB w lo w.heap.size v xs := ⟨h, fun _ hg => (h.block_ge hg).2⟩
theorem OwnB.keep {w w' : World} {lo hi : Nat} {v : Value} {xs : List Int} (h : OwnB w lo hi v xs) (R : Below w.heap.size w w') : OwnB w' lo hi v xs := ⟨h.1.keep R (Nat.le_refl _), h.2⟩
theorem OwnB.within {w w' : World} {lo hi lo' hi' : Nat} {v : Value} {xs : List Int} (h : OwnB w lo hi v xs) (R : Within lo' hi' w w') (hd : hi ≤ lo' ∨ hi' ≤ lo) : OwnB w' lo hi v xs :=
  ⟨h.1.of_block fun g hg => R.2.2.2.2 g (h.1.block_ge hg).2 (by have := h.1.block_ge hg; have := h.2 g hg; omega), h.2⟩
theorem OwnB.rd {w : World} {lo hi : Nat} {v : Value} {xs : List Int} (h : OwnB w lo hi v xs) : RdI w v xs := h.1.rd
theorem OwnB.mono {w : World} {lo lo' hi hi' : Nat} {v : Value} {xs : List Int} (h : OwnB w lo hi v xs) (h1 : lo' ≤ lo) (h2 : hi ≤ hi') : OwnB w lo' hi' v xs := ⟨h.1.mono h1, fun g hg => Nat.lt_of_lt_of_le (h.2 g hg) h2⟩

/-- A list of lists of int64: the outer block and the rows' blocks lie from lo to below hi, no two of them the same. -/
def OwnP (w : World) (lo hi : Nat) (v : Value) (xss : List (List Int)) : Prop :=
  ∃ us : List Value, us.length = xss.length ∧ w.ownsRow lo 22 1 v us.length us ∧ (∀ g, v.ownBlock = some g → g < hi) ∧
    (∀ k, k < us.length → OwnI w lo (us.getD k (.slice none 0 0)) (xss.getD k []) ∧ ∀ g, (us.getD k (.slice none 0 0)).ownBlock = some g → g < hi ∧ v.ownBlock ≠ some g) ∧
    ∀ i j g, i < us.length → j < us.length → i ≠ j → (us.getD i (.slice none 0 0)).ownBlock = some g → (us.getD j (.slice none 0 0)).ownBlock ≠ some g
theorem ownsRow_of_block {w w' : World} {B : Nat} {t : TypeId} {sz : Nat} {v : Value} {n : Nat} {us : List Value} (h : w.ownsRow B t sz v n us) (hb : ∀ g, v.ownBlock = some g → w'.heap[g]? = w.heap[g]?) : w'.ownsRow B t sz v n us := by
  rcases h.2 with h0 | ⟨g, cap, cur, h1, h2, h3, h4⟩
  · exact ⟨h.1, .inl h0⟩
  · exact ⟨h.1, .inr ⟨g, cap, cur, h1, h2, (hb g (by rw [h1]; rfl)).trans h3, h4⟩⟩
theorem ownsRow_block_ge {w : World} {B : Nat} {t : TypeId} {sz : Nat} {v : Value} {n g : Nat} {us : List Value} (h : w.ownsRow B t sz v n us) (hg : v.ownBlock = some g) : B ≤ g ∧ g < w.heap.size := by
  rcases h.2 with ⟨rfl, _⟩ | ⟨g', cap, cur, rfl, h2, h3, _⟩
  · simp [Value.ownBlock] at hg
  · have : g' = g := by simpa [Value.ownBlock] using hg
    subst this
    exact ⟨h2, lt_of_block h3⟩
theorem OwnP.of_block {w w' : World} {lo hi : Nat} {v : Value} {xss : List (List Int)} (h : OwnP w lo hi v xss) (hb : ∀ k, k < w.heap.size → lo ≤ k → k < hi → w'.heap[k]? = w.heap[k]?) : OwnP w' lo hi v xss := by
  obtain ⟨us, h1, h2, h3, h4, h5⟩ := h
  refine ⟨us, h1, ownsRow_of_block h2 fun g hg => ?_, h3, fun k hk => ⟨(h4 k hk).1.of_block fun g hg => ?_, (h4 k hk).2⟩, h5⟩
  · have := ownsRow_block_ge h2 hg
    exact hb g this.2 this.1 (h3 g hg)
  · have := (h4 k hk).1.block_ge hg
    exact hb g this.2 this.1 ((h4 k hk).2 g hg).1
theorem OwnP.keep {w w' : World} {lo hi : Nat} {v : Value} {xss : List (List Int)} (h : OwnP w lo hi v xss) (R : Below w.heap.size w w') : OwnP w' lo hi v xss := h.of_block fun k hk _ _ => R.block k hk
theorem OwnP.within {w w' : World} {lo hi lo' hi' : Nat} {v : Value} {xss : List (List Int)} (h : OwnP w lo hi v xss) (R : Within lo' hi' w w') (hd : hi ≤ lo' ∨ hi' ≤ lo) : OwnP w' lo hi v xss :=
  h.of_block fun k hk h1 h2 => R.2.2.2.2 k hk (by omega)
theorem OwnP.drewN {w : World} {lo hi : Nat} {v : Value} {xss : List (List Int)} (h : OwnP w lo hi v xss) (n : Nat) : OwnP (w.drewN n) lo hi v xss := h
theorem OwnP.mono {w : World} {lo lo' hi hi' : Nat} {v : Value} {xss : List (List Int)} (h : OwnP w lo hi v xss) (h1 : lo' ≤ lo) (h2 : hi ≤ hi') : OwnP w lo' hi' v xss := by
  obtain ⟨us, k1, k2, k3, k4, k5⟩ := h
  refine ⟨us, k1, ?_, fun g hg => Nat.lt_of_lt_of_le (k3 g hg) h2, fun k hk => ⟨(k4 k hk).1.mono h1, fun g hg => ⟨Nat.lt_of_lt_of_le ((k4 k hk).2 g hg).1 h2, ((k4 k hk).2 g hg).2⟩⟩, k5⟩
  rcases k2.2 with h0 | ⟨g, cap, cur, e1, e2, e3⟩
  · exact ⟨k2.1, .inl h0⟩
  · exact ⟨k2.1, .inr ⟨g, cap, cur, e1, by omega, e3⟩⟩
theorem OwnP.form {w : World} {lo hi : Nat} {v : Value} {xss : List (List Int)} (h : OwnP w lo hi v xss) : ∃ A c, v = .slice A xss.length c ∧ xss.length ≤ c ∧ c ≤ maxLen := by
  obtain ⟨us, h1, h2, _⟩ := h
  rcases h2.2 with ⟨rfl, h0⟩ | ⟨g, cap, cur, rfl, _, _, e1, e2, _⟩
  · exact ⟨none, 0, by rw [← h1, h0], by omega, by unfold maxLen; omega⟩
  · exact ⟨_, cap, by rw [← h1], by omega, e2⟩
/-- Row k. -/
theorem OwnP.row {w : World} {lo hi : Nat} {v : Value} {xss : List (List Int)} (h : OwnP w lo hi v xss) {k : Nat} (hk : k < xss.length) :
    ∃ g c A c', v = .slice (some ⟨g, 0, none⟩) xss.length c ∧ lo ≤ g ∧ g < hi ∧ g < w.heap.size ∧ w.cell? ⟨g, k, none⟩ = some (.slice A (xss.getD k []).length c') ∧ w.frozen? ⟨g, k, none⟩ = false ∧
      OwnI w lo (.slice A (xss.getD k []).length c') (xss.getD k []) ∧ (∀ b, (Value.slice A (xss.getD k []).length c').ownBlock = some b → b < hi ∧ b ≠ g) ∧
      ∀ w' ys, OwnI w' lo (.slice A (xss.getD k []).length c') ys → w.grownBy w' (Value.slice A (xss.getD k []).length c').ownBlock → OwnP w' lo hi v (xss.set k ys) := by
  obtain ⟨us, h1, h2, h3, h4, h5⟩ := h
  rcases h2.2 with ⟨rfl, h0⟩ | ⟨g, cap, cur, e0, e1, e2, e3, e4, e5, e6⟩
  · omega
  · have hku : k < us.length := by omega
    obtain ⟨A, c', hu⟩ := (h4 k hku).1.form
    have hcell : w.cell? ⟨g, k, none⟩ = some (us.getD k (.slice none 0 0)) := by
      rw [cell_of_row w g k cur _ (0, 0) e2]
      have e : cur.toList[k]? = us[k]? := by rw [← e6, List.getElem?_take, if_pos (by omega)]
      simp only [Array.getElem?_toList] at e
      rw [e, List.getD_eq_getElem?_getD, List.getElem?_eq_getElem hku]
      rfl
    refine ⟨g, cap, A, c', by rw [e0, h1], e1, h3 g (by rw [e0]; rfl), lt_of_block e2, by rw [hcell, hu], by simp [World.frozen?, e2], by rw [← hu]; exact (h4 k hku).1, fun b hb => ?_, fun w' ys hw hg => ?_⟩
    · rw [← hu] at hb
      have := (h4 k hku).2 b hb
      refine ⟨this.1, fun e => this.2 ?_⟩
      rw [e0, e]; rfl
    · rw [← hu] at hw hg
      refine ⟨us, by simp [h1], ownsRow_of_block h2 fun b hb => ?_, h3, fun j hj => ?_, h5⟩
      · refine hg.block b (ownsRow_block_ge h2 hb).2 fun e => ?_
        exact ((h4 k hku).2 b e.symm).2 hb
      · by_cases hjk : j = k
        · subst hjk
          rw [show (xss.set j ys).getD j [] = ys by simp [List.getD_eq_getElem?_getD, hk]]
          exact ⟨hw, (h4 j hj).2⟩
        · rw [show (xss.set k ys).getD j [] = xss.getD j [] by simp [List.getD_eq_getElem?_getD, Ne.symm hjk]]
          refine ⟨(h4 j hj).1.of_block fun b hb => ?_, (h4 j hj).2⟩
          refine hg.block b ((h4 j hj).1.block_ge hb).2 fun e => ?_
          exact h5 j k b hj hku hjk hb e.symm

/-! ### Lists of lists that are only read; the laws' comparisons and marks -/
def rowA (xss : List (List Int)) (k : Nat) : List Int := xss.getD k []
/-- The slice value v reads as the lists xss. -/
def RdP (w : World) (v : Value) (xss : List (List Int)) : Prop :=
  ∃ A c, v = .slice A xss.length c ∧ xss.length ≤ c ∧ c ≤ maxLen ∧ ∀ k, k < xss.length → ∃ b off u, A = some ⟨b, off, none⟩ ∧ b < w.heap.size ∧ w.cell? ⟨b, off + k, none⟩ = some u ∧ RdI w u (xss.getD k [])
theorem RdP.below {w w' : World} {v : Value} {xss : List (List Int)} (h : RdP w v xss) (hb : Below w.heap.size w w') : RdP w' v xss := by
  obtain ⟨A, c, h1, h2, h3, h4⟩ := h
  refine ⟨A, c, h1, h2, h3, fun k hk => ?_⟩
  obtain ⟨b, off, u, h5, h6, h7, h8⟩ := h4 k hk
  exact ⟨b, off, u, h5, by have := hb.size; omega, (hb.cell (p := ⟨b, off + k, none⟩) h6).trans h7, h8.below hb⟩
theorem RdP.form {w : World} {v : Value} {xss : List (List Int)} (h : RdP w v xss) : ∃ A c, v = .slice A xss.length c := by
  obtain ⟨A, c, h1, _⟩ := h
  exact ⟨A, c, h1⟩
theorem OwnP.rd {w : World} {lo hi : Nat} {v : Value} {xss : List (List Int)} (h : OwnP w lo hi v xss) : RdP w v xss := by
  obtain ⟨A, c, rfl, h1, h2⟩ := h.form
  refine ⟨A, c, rfl, h1, h2, fun k hk => ?_⟩
  obtain ⟨g, c2, A2, c', e, _, _, h5, h6, _, h7, _⟩ := h.row hk
  simp only [Value.slice.injEq] at e
  exact ⟨g, 0, _, e.1, h5, by rw [Nat.zero_add]; exact h6, h7.rd⟩
def cntP : List (List Int) → Nat
  | [] => 0
  | r :: rs => r.length + cntP rs
theorem cntP_append (a b : List (List Int)) : cntP (a ++ b) = cntP a + cntP b := by
  induction a with
  | nil => simp [cntP]
  | cons r rs ih => simp [cntP, ih]; omega
theorem cntP_take_succ (xss : List (List Int)) (k : Nat) (hk : k < xss.length) : cntP (xss.take (k + 1)) = cntP (xss.take k) + (xss.getD k []).length := by
  rw [List.take_succ_eq_append_getElem hk, cntP_append, List.getD_eq_getElem?_getD, List.getElem?_eq_getElem hk]
  simp [cntP]
theorem cntP_take_le (xss : List (List Int)) (k : Nat) : cntP (xss.take k) ≤ cntP xss := by
  have := cntP_append (xss.take k) (xss.drop k)
  rw [List.take_append_drop] at this
  omega
def mkP : Int → List (List Int) → List (List Int)
  | _, [] => []
  | q, r :: rs => marks q r.length :: mkP (q + r.length) rs
theorem length_mkP (q : Int) (xss : List (List Int)) : (mkP q xss).length = xss.length := by
  induction xss generalizing q with
  | nil => rfl
  | cons r rs ih => simp [mkP, ih]
theorem mkP_append (q : Int) (a b : List (List Int)) : mkP q (a ++ b) = mkP q a ++ mkP (q + cntP a) b := by
  induction a generalizing q with
  | nil => simp [mkP, cntP]
  | cons r rs ih =>
    simp only [List.cons_append, mkP, ih, cntP]
    congr 3
    omega
theorem mkP_step (q : Int) (xss : List (List Int)) (k : Nat) (hk : k < xss.length) :
    (mkP q (xss.take k) ++ xss.drop k).set k (marks (q + cntP (xss.take k)) (xss.getD k []).length) = mkP q (xss.take (k + 1)) ++ xss.drop (k + 1) := by
  have h1 : (xss.take k).length = k := by simp; omega
  rw [List.set_append_right _ _ (by rw [length_mkP]; omega), length_mkP, h1, Nat.sub_self, List.drop_eq_getElem_cons hk, List.set_cons_zero, List.take_succ_eq_append_getElem hk, mkP_append, List.append_assoc, List.getD_eq_getElem?_getD, List.getElem?_eq_getElem hk]
  rfl
theorem getD_mkP (q : Int) (xss : List (List Int)) (k : Nat) (hk : k < xss.length) : (mkP q xss).getD k [] = marks (q + cntP (xss.take k)) (xss.getD k []).length := by
  have h := mkP_append q (xss.take k) (xss.drop k)
  rw [List.take_append_drop] at h
  have h1 : (mkP q (xss.take k)).length = k := by rw [length_mkP]; simp; omega
  rw [h, List.getD_eq_getElem?_getD, List.getElem?_append_right (by omega), h1, Nat.sub_self, List.drop_eq_getElem_cons hk, List.getD_eq_getElem?_getD, List.getElem?_eq_getElem hk]
  rfl
theorem getD_mix (q : Int) (xss : List (List Int)) (k : Nat) (hk : k < xss.length) : (mkP q (xss.take k) ++ xss.drop k).getD k [] = xss.getD k [] := by
  have h1 : (mkP q (xss.take k)).length = k := by rw [length_mkP]; simp; omega
  rw [List.getD_eq_getElem?_getD, List.getElem?_append_right (by omega), h1, Nat.sub_self, List.drop_eq_getElem_cons hk, List.getD_eq_getElem?_getD, List.getElem?_eq_getElem hk]
  rfl
theorem length_mix (q : Int) (xss : List (List Int)) (k : Nat) (hk : k ≤ xss.length) : (mkP q (xss.take k) ++ xss.drop k).length = xss.length := by
  rw [List.length_append, length_mkP, List.length_take, List.length_drop]; omega
def MarkedQ (w : World) (lo hi : Nat) (v : Value) (q : Int) (xss : List (List Int)) (e : Ending) (w' : World) : Prop := e = .returned (.int .i64 (q + (cntP xss : Int))) ∧ OwnP w' lo hi v (mkP q xss) ∧ Within lo hi w w'

/-! ### append of a row -/
theorem T.infoRow : (Try.prog.info? 22).map (fun i => (i.zero, i.size, i.bytes)) = some (some (.slice none 0 0), 1, 24) := by kernel_rfl
theorem getD_append_lt {us : List Value} {u : Value} {k : Nat} (h : k < us.length) : (us ++ [u]).getD k (.slice none 0 0) = us.getD k (.slice none 0 0) := by
  rw [List.getD_eq_getElem?_getD, List.getElem?_append_left h, ← List.getD_eq_getElem?_getD]
theorem getD_append_eq {us : List Value} {u : Value} : (us ++ [u]).getD us.length (.slice none 0 0) = u := by
  rw [List.getD_eq_getElem?_getD, List.getElem?_append_right (Nat.le_refl _)]; simp
theorem getDR_append_lt {xss : List (List Int)} {y : List Int} {k : Nat} (h : k < xss.length) : (xss ++ [y]).getD k [] = xss.getD k [] := by
  rw [List.getD_eq_getElem?_getD, List.getElem?_append_left h, ← List.getD_eq_getElem?_getD]
theorem getDR_append_eq {xss : List (List Int)} {y : List Int} {n : Nat} (h : xss.length = n) : (xss ++ [y]).getD n [] = y := by
  rw [List.getD_eq_getElem?_getD, List.getElem?_append_right (by omega), h]; simp
/-- A row more. -/
theorem OwnP.push {W w' : World} {lo hi : Nat} {v v' u : Value} {us : List Value} {xss : List (List Int)} {ys : List Int}
    (hl : us.length = xss.length) (h2 : W.ownsRow lo 22 1 v us.length us) (h3 : ∀ g, v.ownBlock = some g → g < hi)
    (h4 : ∀ k, k < us.length → OwnI W lo (us.getD k (.slice none 0 0)) (xss.getD k []) ∧ ∀ g, (us.getD k (.slice none 0 0)).ownBlock = some g → g < hi ∧ v.ownBlock ≠ some g)
    (h5 : ∀ i j g, i < us.length → j < us.length → i ≠ j → (us.getD i (.slice none 0 0)).ownBlock = some g → (us.getD j (.slice none 0 0)).ownBlock ≠ some g)
    (hhi : hi ≤ W.heap.size) (hu : OwnI W lo u ys) (hu2 : ∀ g, u.ownBlock = some g → hi ≤ g)
    (n2 : w'.ownsRow lo 22 1 v' (us.length + 1) (us ++ [u])) (hg : W.grownBy w' v.ownBlock) (hb : v'.ownBlock = v.ownBlock ∨ v'.ownBlock = some W.heap.size) :
    OwnP w' lo w'.heap.size v' (xss ++ [ys]) := by
  have hz := hg.size
  refine ⟨us ++ [u], by simp [hl], by simpa using n2, fun g hg' => (ownsRow_block_ge n2 hg').2, fun k hk => ?_, fun i j g hi1 hj1 hij hgi => ?_⟩
  · rcases Nat.lt_or_ge k us.length with h | h
    · rw [getD_append_lt h, getDR_append_lt (by omega)]
      refine ⟨(h4 k h).1.of_block fun g hg' => hg.block g ((h4 k h).1.block_ge hg').2 fun e => ((h4 k h).2 g hg').2 e.symm, fun g hg' => ?_⟩
      have q := (h4 k h).2 g hg'
      refine ⟨by omega, fun e => ?_⟩
      rcases hb with hb | hb
      · exact q.2 (hb.symm.trans e)
      · rw [hb] at e
        have : W.heap.size = g := by simpa using e
        omega
    · have hk' : k = us.length := by simp at hk; omega
      subst hk'
      rw [getD_append_eq, getDR_append_eq hl.symm]
      refine ⟨hu.of_block fun g hg' => hg.block g (hu.block_ge hg').2 fun e => ?_, fun g hg' => ?_⟩
      · have := h3 g e.symm
        have := hu2 g hg'
        omega
      · have q := hu.block_ge hg'
        have q2 := hu2 g hg'
        refine ⟨by omega, fun e => ?_⟩
        rcases hb with hb | hb
        · have := h3 g (hb.symm.trans e)
          omega
        · rw [hb] at e
          have : W.heap.size = g := by simpa using e
          omega
  · simp only [List.length_append, List.length_singleton] at hi1 hj1
    rcases Nat.lt_or_ge i us.length with h | h <;> rcases Nat.lt_or_ge j us.length with h' | h'
    · rw [getD_append_lt h] at hgi
      rw [getD_append_lt h']
      exact h5 i j g h h' hij hgi
    · have : j = us.length := by omega
      subst this
      rw [getD_append_lt h] at hgi
      rw [getD_append_eq]
      intro e
      have := ((h4 i h).2 g hgi).1
      have := hu2 g e
      omega
    · have : i = us.length := by omega
      subst this
      rw [getD_append_eq] at hgi
      rw [getD_append_lt h']
      intro e
      have := ((h4 j h').2 g e).1
      have := hu2 g hgi
      omega
    · omega
theorem appendP {W : World} {ops : Array Oper} {rest : List Oper} {o : Oper} {a : Act} {Q : Exit → Act → World → Prop} (s x : Operand) (lo hi : Nat) (v u : Value) (xss : List (List Int)) (ys : List Int) (b : Nat)
    (hgd : o.guard = none) (ho : o.op = .call { callee := .builtin .append, args := #[s, x], argTypes := #[69, 69] })
    (hs : a.eval s = v) (hx : a.eval x = .slice (some ⟨b, 0, none⟩) 1 1) (hv : OwnP W lo hi v xss) (hhi : hi ≤ W.heap.size) (hu : OwnI W lo u ys) (hu2 : ∀ g, u.ownBlock = some g → hi ≤ g)
    (hb : W.heap[b]? = some (.cells #[u] 22 (0, 0))) (hl : xss.length ≤ 1000000000000) (hB : lo ≤ W.heap.size)
    (h : ∀ A c w', OwnP w' lo w'.heap.size (.slice A (xss.length + 1) c) (xss ++ [ys]) → W.grownBy w' v.ownBlock → wpList Try.prog ops Q rest (a.put o.dst (.slice A (xss.length + 1) c)) w') :
    wpList Try.prog ops Q (o :: rest) a W := by
  obtain ⟨i0, hi0, hz0, hz1, hz2⟩ := info_parts T.infoRow
  obtain ⟨us, h1, h2, h3, h4, h5⟩ := hv
  obtain ⟨Au, cu, eu⟩ := hu.form
  refine wpList_append_own_at W hgd s x 69 ho lo 22 i0 (.slice none 0 0) 1 24 Try.underlying69 hi0 hz0 hz1 hz2 rfl (by decide) v us.length us hs h2 ⟨b, 0, none⟩ 1 1 [u] hx rfl (World.news_of_block (cs := #[u]) hb) (fun q hq => by simp at hq; subst hq; subst eu; rfl) (by unfold maxLen; omega) (by omega) hB ?_
  intro v' w' n2 hg _ hbl
  have ho' := OwnP.push h1 h2 h3 h4 h5 hhi hu hu2 n2 hg hbl
  obtain ⟨A, c, e, _⟩ := ho'.form
  rw [show (xss ++ [ys]).length = xss.length + 1 by simp] at e
  subst e
  exact h A c w' ho' hg
def RetQI (w : World) (r : List (List Int) × Int) (e : Ending) (w' : World) : Prop := ∃ A c, e = .returned (.tuple #[.slice A r.1.length c, .int .i64 r.2]) ∧ OwnP w' w.heap.size w'.heap.size (.slice A r.1.length c) r.1 ∧ Below w.heap.size w w'
theorem RetQI.of {w : World} {r r' : List (List Int) × Int} {e : Ending} {w' : World} (h : RetQI w r e w') (he : Hid (r = r')) : RetQI w r' e w' := by rw [← he.out]; exact h
theorem OwnP.nil_ (w : World) (lo hi : Nat) : OwnP w lo hi (.slice none 0 0) [] := ⟨[], rfl, World.ownsRow_nil _ _ _ _, fun g hg => by simp [Value.ownBlock] at hg, fun k hk => by simp at hk, fun i j g hi1 => by simp at hi1⟩
theorem OwnP.lit0 (w : World) {lo : Nat} (h : lo ≤ w.heap.size) : OwnP (w.alloc (.cells #[] 22)) lo (w.heap.size + 1) (.slice (some ⟨w.heap.size, 0, none⟩) 0 0) [] :=
  ⟨[], rfl, World.ownsRow_lit w #[] 0 h (by unfold maxLen; omega) rfl, fun g hg => by simp [Value.ownBlock] at hg; omega, fun k hk => by simp at hk, fun i j g hi1 => by simp at hi1⟩
/-! ### Marks and held marks, blocks in intervals -/
theorem markLB_any (w : World) (lo hi : Nat) (v : Value) (xs : List Int) (q : Int) (hv : OwnB w lo hi v xs) (hl : xs.length ≤ 100000000) (hq : 0 ≤ q) (hq' : q ≤ 500000000) :
    Calls Try.prog 34 #[v, .int .i64 q] w fun e w' => e = .returned (.int .i64 (q + (xs.length : Int))) ∧ OwnB w' lo hi v (marks q xs.length) ∧ Within lo hi w w' :=
  (markInt64S_any w lo v xs xs.length q hv.1 rfl hl hq (by omega)).mono fun _ _ ⟨h1, h2, h3⟩ => ⟨h1, ⟨h2, hv.2⟩, Within.of_grownBy h3 fun g hg => ⟨(hv.1.block_ge hg).1, hv.2 g hg⟩⟩
theorem heldLB_any (w : World) (lo hi : Nat) (v : Value) (xs : List Int) (q : Int) (hv : OwnB w lo hi v (marks q xs.length)) (hl : xs.length ≤ 100000000) (hq : 0 ≤ q) (hq' : q ≤ 500000000) :
    Calls Try.prog 35 #[v, .int .i64 q] w fun e w' => e = .returned (.int .i64 (q + (xs.length : Int))) ∧ Below w.heap.size w w' := heldL_any w lo v xs.length q hv.1 hl hq (by omega)
theorem markSB_any (w : World) (lo hi : Nat) (m : Int) (v : Value) (xs : List Int) (q : Int) (hv : OwnB w lo hi v xs) (hl : xs.length ≤ 100000000) (hq : 0 ≤ q) (hq' : q ≤ 500000000) :
    Calls Try.prog 20 #[.agg #[.int .i64 m, v], .int .i64 q] w fun e w' => e = .returned (.int .i64 (q + (xs.length : Int))) ∧ OwnB w' lo hi v (marks q xs.length) ∧ Within lo hi w w' :=
  (markS_any w lo m v xs xs.length q hv.1 rfl hl hq (by omega)).mono fun _ _ ⟨h1, h2, h3⟩ => ⟨h1, ⟨h2, hv.2⟩, Within.of_grownBy h3 fun g hg => ⟨(hv.1.block_ge hg).1, hv.2 g hg⟩⟩
theorem heldSB_any (w : World) (lo hi : Nat) (m : Int) (v : Value) (xs : List Int) (q : Int) (hv : OwnB w lo hi v (marks q xs.length)) (hl : xs.length ≤ 100000000) (hq : 0 ≤ q) (hq' : q ≤ 500000000) :
    Calls Try.prog 21 #[.agg #[.int .i64 m, v], .int .i64 q] w fun e w' => e = .returned (.int .i64 (q + (xs.length : Int))) ∧ Below w.heap.size w w' := heldS_any w lo m v xs.length q hv.1 hl hq (by omega)
/-- How much a list of lists takes. -/
def szP (xss : List (List Int)) : Nat := xss.length + cntP xss
theorem cntP_le_szP (xss : List (List Int)) : cntP xss ≤ szP xss := by unfold szP; omega
theorem length_le_szP (xss : List (List Int)) : xss.length ≤ szP xss := by unfold szP; omega

/-! ### weierstrass (impl) -/
theorem Bf.allocAt {w : World} {b : Nat} {x y : Value} {t : TypeId} (h : b = w.heap.size) : Bf (w.alloc (.cells #[x, y] t)) b x y := by subst h; exact Bf.alloc1 w x y t
theorem Bf.drew2 {w : World} {b : Nat} {x y : Value} (h : Bf w b x y) : Bf w.drew b x y := h
inductive GSpec
  | val (v : Value)
  | ser (xs : List Int)
def growF (m : Int) (n : Nat) (specs : List GSpec) (i : Nat) (v : Value) (lo hi : Nat) (w : World) : Prop :=
  match specs[i]? with
  | some (.val u) => v = u
  | some (.ser xs) => ∃ A c, v = .agg #[.int .i64 m, .slice A n c] ∧ OwnI w lo (.slice A n c) xs
  | none => True
theorem growF_keep (m : Int) (n : Nat) (specs : List GSpec) : ∀ i v lo hi w w', growF m n specs i v lo hi w → Below w.heap.size w w' → growF m n specs i v lo hi w' := by
  intro i v lo hi w w' h hb
  unfold growF at *
  split at h
  · exact h
  · obtain ⟨A, c, e, o⟩ := h
    exact ⟨A, c, e, o.keep hb (Nat.le_refl _)⟩
  · trivial
theorem growF_ser {m : Int} {n : Nat} {specs : List GSpec} {i : Nat} {v : Value} {lo hi : Nat} {w : World} (h : growF m n specs i v lo hi w) {xs : List Int} (e : specs[i]? = some (.ser xs)) : ∃ A c, v = .agg #[.int .i64 m, .slice A n c] ∧ OwnI w lo (.slice A n c) xs := by
  unfold growF at h
  rw [e] at h
  exact h
theorem wp_region_growS {id : Nat} {l : List Oper} {a0 : Act} {w0 : World} {Q : Exit → Act → World → Prop} (hm : Try.prog.follows .mixedOrders = true) {T : Nat} {oT : Oper} (hB : growB a0.tmps.size l.toArray = true) (hS : succB l.toArray T = true) (hoT : l[T]? = some oT)
    (ds : List (Option Tmp)) (hds : (List.range T).map (dstAt l.toArray) = ds)
    (m : Int) (n : Nat) (specs : List GSpec) (L : Nat) (hL : L < T) (xs : List Int) (hx : specs[L]? = some (.ser xs))
    (hstep : stepsG Try.prog l a0 w0 (growF m n specs) 0 l)
    (hend : ∀ (A : Option Addr) (c : Nat) (lo : Nat) (V : Nat → Value) (w : World), V L = .agg #[.int .i64 m, .slice A n c] → OwnI w lo (.slice A n c) xs → w0.heap.size ≤ lo → Below w0.heap.size w0 w → ∀ K : Act → World → Prop, (∀ a w, Q .normal a w → K a w) → Oper.wp Try.prog oT (putsD ds V 0 a0) w K Q) :
    (Code.region id l.toArray true).wp Try.prog Q a0 w0 :=
  wp_region_growD hm hB hS hoT ds hds (growF m n specs) (growF_keep m n specs) hstep fun V LO HI w h1 h2 h3 K hK => by
    obtain ⟨A, c, v, o⟩ := growF_ser (h2 L hL).1 hx
    exact hend A c (LO L) V w v o (h2 L hL).2.1 h1 K hK
theorem cell_store2 {w : World} {b g a : Nat} {x y u : Value} (h : w.cell? ⟨g, a, none⟩ = some u) (hne : g ≠ b) : ((w.setCell ⟨b, 0, none⟩ x).setCell ⟨b, 1, none⟩ y).cell? ⟨g, a, none⟩ = some u := by
  rw [World.cell?_setCell_other _ _ _ _ (by intro e; injection e with e1; exact hne e1.symm), World.cell?_setCell_other _ _ _ _ (by intro e; injection e with e1; exact hne e1.symm)]
  exact h
theorem OwnI.farB {w : World} {B : Nat} {v : Value} {xs : List Int} {p : Addr} {u : Value} (h : OwnI w B v xs) (hp : p.block < B ∨ w.heap.size ≤ p.block) : OwnI (w.setCell p u) B v xs :=
  h.setCell_ge (fun g hg => h.off hp g hg) u
theorem OwnI.zero {w : World} {B : Nat} {v : Value} {xs : List Int} (h : OwnI w B v xs) : OwnI w 0 v xs := h.mono (Nat.zero_le _)
set_option maxRecDepth 16000 in
set_option maxHeartbeats 16000000 in
theorem weierstrass_any (w : World) (m d : Int) (v : Value) (xs ys : List Int) (n B : Nat) (hv : OwnI w B v xs) (hx : xs.length = 5) (hm : 2 ≤ m) (hm' : m ≤ 10000) (hd : d + 1 = (n : Int)) (hn1 : 2 ≤ n) (hn2 : n ≤ 1000) (hy : weiL m n (co xs) = ys) :
    Calls Try.prog 79 #[.int .i64 m, .int .i64 d, v] w (NewS w m ys) := by
  obtain ⟨A, cp, e0, hc1, hc2, hA⟩ := hv.open_
  rw [hx] at e0 hA hc1
  obtain ⟨b, rfl, -, hb, c0, -⟩ := hA 0 (by omega)
  subst e0
  obtain ⟨b1, e1, -, -, c1, -⟩ := hA 1 (by omega)
  obtain ⟨b2, e2, -, -, c2, -⟩ := hA 2 (by omega)
  obtain ⟨b3, e3, -, -, c3, -⟩ := hA 3 (by omega)
  obtain ⟨b4, e4, -, -, c4, -⟩ := hA 4 (by omega)
  simp only [Option.some.injEq, Addr.mk.injEq, and_true] at e1 e2 e3 e4
  rw [← e1] at c1
  rw [← e2] at c2
  rw [← e3] at c3
  rw [← e4] at c4
  clear e1 e2 e3 e4 hA hv b1 b2 b3 b4
  unfold maxLen at hc2
  have hd1 : d = (n : Int) - 1 := by omega
  subst hd1
  have HY := Lib.hid hy
  have HYL : Hid (ys.length = n) := by unfold Hid; rw [← hy]; exact length_lst _ _
  obtain ⟨a, ha⟩ : ∃ a, a = co xs := ⟨_, rfl⟩
  rw [← ha] at HY
  obtain ⟨A0, hA0⟩ : ∃ A0, A0 = a 0 := ⟨_, rfl⟩
  obtain ⟨A1, hA1⟩ : ∃ A1, A1 = a 1 := ⟨_, rfl⟩
  obtain ⟨A2, hA2⟩ : ∃ A2, A2 = a 2 := ⟨_, rfl⟩
  obtain ⟨A3, hA3⟩ : ∃ A3, A3 = a 3 := ⟨_, rfl⟩
  obtain ⟨A4, hA4⟩ : ∃ A4, A4 = a 4 := ⟨_, rfl⟩
  have C0 : Hid (w.cell? ⟨b, 0, none⟩ = some (.int .i64 A0)) := by unfold Hid; rw [hA0, ha]; exact c0
  have C1 : Hid (w.cell? ⟨b, 1, none⟩ = some (.int .i64 A1)) := by unfold Hid; rw [hA1, ha]; exact c1
  have C2 : Hid (w.cell? ⟨b, 2, none⟩ = some (.int .i64 A2)) := by unfold Hid; rw [hA2, ha]; exact c2
  have C3 : Hid (w.cell? ⟨b, 3, none⟩ = some (.int .i64 A3)) := by unfold Hid; rw [hA3, ha]; exact c3
  have C4 : Hid (w.cell? ⟨b, 4, none⟩ = some (.int .i64 A4)) := by unfold Hid; rw [hA4, ha]; exact c4
  have HA0 := Lib.hid hA0
  have HA1 := Lib.hid hA1
  have HA2 := Lib.hid hA2
  have HA3 := Lib.hid hA3
  have HA4 := Lib.hid hA4
  clear hy hx c0 c1 c2 c3 c4 ha hd hA0 hA1 hA2 hA3 hA4
  obtain ⟨Z, hZ⟩ : ∃ Z, varL n = Z := ⟨_, rfl⟩
  obtain ⟨Z2, hZ2⟩ : ∃ Z2, timesL m n Z Z = Z2 := ⟨_, rfl⟩
  obtain ⟨Z3, hZ3⟩ : ∃ Z3, timesL m n Z2 Z = Z3 := ⟨_, rfl⟩
  have lZ : Hid (Z.length = n) := by unfold Hid; rw [← hZ]; exact length_varL n
  have nZ : Hid (NumL m Z) := by unfold Hid; rw [← hZ]; exact NumL.lst (by omega) fun k _ => by split <;> omega
  have lZ2 : Hid (Z2.length = n) := by unfold Hid; rw [← hZ2]; exact length_timesL _ _ _ _
  have nZ2 : Hid (NumL m Z2) := by unfold Hid; rw [← hZ2]; exact NumL.timesL (by omega) _ _ _
  have lZ3 : Hid (Z3.length = n) := by unfold Hid; rw [← hZ3]; exact length_timesL _ _ _ _
  have nZ3 : Hid (NumL m Z3) := by unfold Hid; rw [← hZ3]; exact NumL.timesL (by omega) _ _ _
  have HZ := Lib.hid hZ
  have HZ2 := Lib.hid hZ2
  have HZ3 := Lib.hid hZ3
  clear hZ hZ2 hZ3
  go_enter Try.func79, Try.ntmps79
  go_wp2_with (first | (go_at_call 111; have _h := hbc; refine (times_any _ m m _ _ Z2 Z Z3 n _ _ ((oc.out.alloc _)) (((ob.out.alloc _).keep hbc (Nat.le_refl _)).alloc _) hm (by omega) nZ2.out nZ.out lZ2.out lZ.out (by omega) (by omega) HZ3.out).mono ?_; (rintro e wd ⟨Ad, cd, rfl, od, hbd⟩; rw [lZ3.out] at od ⊢; have od := Lib.hid od)) | (go_at_call 111; refine (times_any _ m m _ _ Z Z Z2 n _ _ (ob.out.alloc _) (ob.out.alloc _) hm (by omega) nZ.out nZ.out lZ.out lZ.out (by omega) (by omega) HZ2.out).mono ?_; (rintro e wc ⟨Ac, cc, rfl, oc, hbc⟩; rw [lZ2.out] at oc ⊢; have oc := Lib.hid oc; have Pz : Bf wc wb.heap.size (.int .i64 m) (.slice Ab n cb) := (Bf.alloc1 wb _ _ 26).keep hbc; have pza := Pz.1.2.1; have pzb := Pz.1.2.2; have pzc := Pz.1.1)) | (go_at_call 114; refine (variable_any _ m _ n (by omega) (by omega) (by omega)).mono ?_; (rintro e wb ⟨Ab, cb, rfl, ob, hbb⟩; rw [HZ.out] at ob ⊢; rw [lZ.out] at ob ⊢; have ob := Lib.hid ob)) | (go_at_call 60; refine (zero_any _ m _ n (by omega) (by omega)).mono ?_; (rintro e we ⟨ge, rfl, hge, hre, hbe⟩; have hre := Lib.hid hre)))
  obtain ⟨bz, hbz⟩ : ∃ bz, bz = wb.heap.size := ⟨_, rfl⟩
  obtain ⟨bY, hbY⟩ : ∃ bY, bY = wc.heap.size := ⟨_, rfl⟩
  obtain ⟨bX, hbX⟩ : ∃ bX, bX = wd.heap.size := ⟨_, rfl⟩
  obtain ⟨bw, hbw⟩ : ∃ bw, bw = we.heap.size := ⟨_, rfl⟩
  have s1 := hbb.size
  have s2 := hbc.size
  have s3 := hbd.size
  have s4 := hbe.size
  simp at s1 s2 s3 s4 hge
  obtain ⟨W0, hW0⟩ : ∃ W0, W0 = we.alloc (.cells #[.int .i64 m, .slice (some ⟨ge, 0, none⟩) n n] 26) := ⟨_, rfl⟩
  have P0 : Bf W0 w.heap.size (.int .i64 0) (.slice none 0 0) := by rw [hW0]; exact ((((((((Bf.alloc1 w _ _ 26).keep hbb).alloc _).keep hbc).alloc _).keep hbd).alloc _).keep hbe).alloc _
  have BZ : Bf W0 bz (.int .i64 m) (.slice Ab n cb) := by rw [hW0, hbz]; exact ((((((Bf.alloc1 wb _ _ 26).keep hbc).alloc _).keep hbd).alloc _).keep hbe).alloc _
  have BY : Bf W0 bY (.int .i64 m) (.slice Ac n cc) := by rw [hW0, hbY]; exact ((((Bf.alloc1 wc _ _ 26).keep hbd).alloc _).keep hbe).alloc _
  have BX : Bf W0 bX (.int .i64 m) (.slice Ad n cd) := by rw [hW0, hbX]; exact ((Bf.alloc1 wd _ _ 26).keep hbe).alloc _
  have BW : Bf W0 bw (.int .i64 m) (.slice (some ⟨ge, 0, none⟩) n n) := by rw [hW0, hbw]; exact Bf.alloc1 we _ _ 26
  have OZ : Hid (OwnI W0 0 (.slice Ab n cb) Z) := by unfold Hid; rw [hW0]; exact ((((((((ob.out.zero.alloc _).keep hbc (Nat.le_refl _)).alloc _).keep hbd (Nat.le_refl _)).alloc _).keep hbe (Nat.le_refl _)).alloc _))
  have OZ2 : Hid (OwnI W0 0 (.slice Ac n cc) Z2) := by unfold Hid; rw [hW0]; exact (((((oc.out.zero.alloc _).keep hbd (Nat.le_refl _)).alloc _).keep hbe (Nat.le_refl _)).alloc _)
  have OZ3 : Hid (OwnI W0 0 (.slice Ad n cd) Z3) := by unfold Hid; rw [hW0]; exact (((od.out.zero.alloc _).keep hbe (Nat.le_refl _)).alloc _)
  have OW : Hid (OwnI W0 (w.heap.size + 1) (.slice (some ⟨ge, 0, none⟩) n n) (weiI m n a 0)) := by unfold Hid; rw [hW0]; exact ((hre.out.own' (by omega) (by simp)).alloc _)
  have FZ : Off (.slice Ab n cb) bw := ob.out.off (.inr (by omega))
  have FY : Off (.slice Ac n cc) bw := oc.out.off (.inr (by omega))
  have FX : Off (.slice Ad n cd) bw := od.out.off (.inr (by omega))
  have FW : Off (.slice (some ⟨ge, 0, none⟩) n n) bw := (hre.out.own (Nat.zero_le _)).off (.inr (by omega))
  have KW0 : Below w.heap.size w W0 := by
    rw [hW0]
    exact (((((((below_alloc1 w _).trans (hbb.mono (by simp))).alloc (by omega) _).trans (hbc.mono (by simp; omega))).alloc (by omega) _).trans (hbd.mono (by simp; omega))).alloc (by omega) _).trans (hbe.mono (by simp; omega)) |>.alloc (by omega) _
  have ho1 : w.heap.size < bz := by omega
  have ho2 : bz < bY := by omega
  have ho3 : bY < bX := by omega
  have ho4 : bX < bw := by omega
  rw [← hbz, ← hbY, ← hbX, ← hbw, ← hW0]
  clear ob oc od hre hbb hbc hbd hbe Pz pza pzb pzc s1 s2 s3 s4 hbz hbY hbX hbw hW0 hge
  go_loopw [26] (fun s wr => ∃ (k : Nat) (Aw : Option Addr) (cw : Nat), k ≤ n - 1 ∧ s = .int .i64 k ∧ Hid (Bf wr w.heap.size (.int .i64 0) (.slice none 0 0)) ∧ Hid (Bf wr bz (.int .i64 m) (.slice Ab n cb)) ∧ Hid (Bf wr bY (.int .i64 m) (.slice Ac n cc)) ∧ Hid (Bf wr bX (.int .i64 m) (.slice Ad n cd)) ∧ Hid (Bf wr bw (.int .i64 m) (.slice Aw n cw)) ∧ Hid (OwnI wr 0 (.slice Ab n cb) Z) ∧ Hid (OwnI wr 0 (.slice Ac n cc) Z2) ∧ Hid (OwnI wr 0 (.slice Ad n cd) Z3) ∧ Hid (OwnI wr (w.heap.size + 1) (.slice Aw n cw) (weiI m n a k)) ∧ Off (.slice Aw n cw) bw ∧ Hid (Below w.heap.size w wr)) (fun s _ => n - (intOf s).toNat)
  case atStart => exact ⟨0, _, _, Nat.zero_le _, rfl, P0, BZ, BY, BX, BW, OZ, OZ2, OZ3, OW, FW, KW0⟩
  case round =>
    clear P0 BZ BY BX BW OZ OZ2 OZ3 OW FW KW0
    obtain ⟨k, Aw, cw, hk, rfl, HP, HBZ, HBY, HBX, HBW, HOZ, HOY, HOX, HOW, FW, HB⟩ := hrel
    have zB := HB.out.size
    have zW := HBW.out.1.1
    by_cases hlt : k < n - 1
    · have hlt1 : (k : Int) < (n : Int) - 1 := by omega
      obtain ⟨W, hW⟩ : ∃ W, weiI m n a k = W := ⟨_, rfl⟩
      have lW : Hid (W.length = n) := by unfold Hid; rw [← hW]; exact length_weiI _ _ _ _
      have nW : Hid (NumL m W) := by unfold Hid; rw [← hW]; exact NumL_weiI hm _ _ _
      rw [hW] at HOW
      obtain ⟨W2, hW2⟩ : ∃ W2, timesL m n W W = W2 := ⟨_, rfl⟩
      obtain ⟨ZW, hZW⟩ : ∃ ZW, timesL m n Z W = ZW := ⟨_, rfl⟩
      obtain ⟨S0, hS0⟩ : ∃ S0, scaleL m (A0 % m) ZW = S0 := ⟨_, rfl⟩
      obtain ⟨N1, hN1⟩ : ∃ N1, plusL m n Z3 S0 = N1 := ⟨_, rfl⟩
      obtain ⟨YW, hYW⟩ : ∃ YW, timesL m n Z2 W = YW := ⟨_, rfl⟩
      obtain ⟨S1, hS1⟩ : ∃ S1, scaleL m (A1 % m) YW = S1 := ⟨_, rfl⟩
      obtain ⟨N2, hN2⟩ : ∃ N2, plusL m n N1 S1 = N2 := ⟨_, rfl⟩
      obtain ⟨S2, hS2⟩ : ∃ S2, scaleL m (A2 % m) W2 = S2 := ⟨_, rfl⟩
      obtain ⟨N3, hN3⟩ : ∃ N3, plusL m n N2 S2 = N3 := ⟨_, rfl⟩
      obtain ⟨ZQ, hZQ⟩ : ∃ ZQ, timesL m n Z W2 = ZQ := ⟨_, rfl⟩
      obtain ⟨S3, hS3⟩ : ∃ S3, scaleL m (A3 % m) ZQ = S3 := ⟨_, rfl⟩
      obtain ⟨N4, hN4⟩ : ∃ N4, plusL m n N3 S3 = N4 := ⟨_, rfl⟩
      obtain ⟨W3, hW3⟩ : ∃ W3, timesL m n W2 W = W3 := ⟨_, rfl⟩
      obtain ⟨S4, hS4⟩ : ∃ S4, scaleL m (A4 % m) W3 = S4 := ⟨_, rfl⟩
      obtain ⟨N5, hN5⟩ : ∃ N5, plusL m n N4 S4 = N5 := ⟨_, rfl⟩
      have lW2 : Hid (W2.length = n) := by unfold Hid; rw [← hW2]; exact length_timesL _ _ _ _
      have nW2 : Hid (NumL m W2) := by unfold Hid; rw [← hW2]; exact NumL.timesL (by omega) _ _ _
      have lZW : Hid (ZW.length = n) := by unfold Hid; rw [← hZW]; exact length_timesL _ _ _ _
      have nZW : Hid (NumL m ZW) := by unfold Hid; rw [← hZW]; exact NumL.timesL (by omega) _ _ _
      have lS0 : Hid (S0.length = n) := by unfold Hid; rw [← hS0, length_scaleL]; exact lZW.out
      have nS0 : Hid (NumL m S0) := by unfold Hid; rw [← hS0]; exact NumL.lst (by omega) fun k _ => ⟨Int.emod_nonneg _ (by omega), Int.emod_lt_of_pos _ (by omega)⟩
      have lN1 : Hid (N1.length = n) := by unfold Hid; rw [← hN1]; exact length_plusL _ _ _ _
      have nN1 : Hid (NumL m N1) := by unfold Hid; rw [← hN1]; exact NumL.plusL (by omega) _ _ _
      have lYW : Hid (YW.length = n) := by unfold Hid; rw [← hYW]; exact length_timesL _ _ _ _
      have nYW : Hid (NumL m YW) := by unfold Hid; rw [← hYW]; exact NumL.timesL (by omega) _ _ _
      have lS1 : Hid (S1.length = n) := by unfold Hid; rw [← hS1, length_scaleL]; exact lYW.out
      have nS1 : Hid (NumL m S1) := by unfold Hid; rw [← hS1]; exact NumL.lst (by omega) fun k _ => ⟨Int.emod_nonneg _ (by omega), Int.emod_lt_of_pos _ (by omega)⟩
      have lN2 : Hid (N2.length = n) := by unfold Hid; rw [← hN2]; exact length_plusL _ _ _ _
      have nN2 : Hid (NumL m N2) := by unfold Hid; rw [← hN2]; exact NumL.plusL (by omega) _ _ _
      have lS2 : Hid (S2.length = n) := by unfold Hid; rw [← hS2, length_scaleL]; exact lW2.out
      have nS2 : Hid (NumL m S2) := by unfold Hid; rw [← hS2]; exact NumL.lst (by omega) fun k _ => ⟨Int.emod_nonneg _ (by omega), Int.emod_lt_of_pos _ (by omega)⟩
      have lN3 : Hid (N3.length = n) := by unfold Hid; rw [← hN3]; exact length_plusL _ _ _ _
      have nN3 : Hid (NumL m N3) := by unfold Hid; rw [← hN3]; exact NumL.plusL (by omega) _ _ _
      have lZQ : Hid (ZQ.length = n) := by unfold Hid; rw [← hZQ]; exact length_timesL _ _ _ _
      have nZQ : Hid (NumL m ZQ) := by unfold Hid; rw [← hZQ]; exact NumL.timesL (by omega) _ _ _
      have lS3 : Hid (S3.length = n) := by unfold Hid; rw [← hS3, length_scaleL]; exact lZQ.out
      have nS3 : Hid (NumL m S3) := by unfold Hid; rw [← hS3]; exact NumL.lst (by omega) fun k _ => ⟨Int.emod_nonneg _ (by omega), Int.emod_lt_of_pos _ (by omega)⟩
      have lN4 : Hid (N4.length = n) := by unfold Hid; rw [← hN4]; exact length_plusL _ _ _ _
      have nN4 : Hid (NumL m N4) := by unfold Hid; rw [← hN4]; exact NumL.plusL (by omega) _ _ _
      have lW3 : Hid (W3.length = n) := by unfold Hid; rw [← hW3]; exact length_timesL _ _ _ _
      have nW3 : Hid (NumL m W3) := by unfold Hid; rw [← hW3]; exact NumL.timesL (by omega) _ _ _
      have lS4 : Hid (S4.length = n) := by unfold Hid; rw [← hS4, length_scaleL]; exact lW3.out
      have nS4 : Hid (NumL m S4) := by unfold Hid; rw [← hS4]; exact NumL.lst (by omega) fun k _ => ⟨Int.emod_nonneg _ (by omega), Int.emod_lt_of_pos _ (by omega)⟩
      have lN5 : Hid (N5.length = n) := by unfold Hid; rw [← hN5]; exact length_plusL _ _ _ _
      have nN5 : Hid (NumL m N5) := by unfold Hid; rw [← hN5]; exact NumL.plusL (by omega) _ _ _
      have HW2 := Lib.hid hW2
      have HZW := Lib.hid hZW
      have HS0 := Lib.hid hS0
      have HN1 := Lib.hid hN1
      have HYW := Lib.hid hYW
      have HS1 := Lib.hid hS1
      have HN2 := Lib.hid hN2
      have HS2 := Lib.hid hS2
      have HN3 := Lib.hid hN3
      have HZQ := Lib.hid hZQ
      have HS3 := Lib.hid hS3
      have HN4 := Lib.hid hN4
      have HW3 := Lib.hid hW3
      have HS4 := Lib.hid hS4
      have HN5 := Lib.hid hN5
      have HFIN : Hid (weiI m n a (k + 1) = N5) := by
        show weiS m n a (weiI m n a k) = N5
        unfold weiS
        rw [HZ.out, HZ2.out, HZ3.out, hW, ← HA0.out, ← HA1.out, ← HA2.out, ← HA3.out, ← HA4.out, hW2, hZW, hS0, hN1, hYW, hS1, hN2, hS2, hN3, hZQ, hS3, hN4, hW3, hS4, hN5]
      clear hW hW2 hZW hS0 hN1 hYW hS1 hN2 hS2 hN3 hZQ hS3 hN4 hW3 hS4 hN5
      have w1a := HBW.out.1.2.1
      have w1b := HBW.out.1.2.2
      go_upto_region 8 with (go_at_call 111; refine (times_any _ m m _ _ W W W2 n _ _ HOW.out HOW.out hm (by omega) nW.out nW.out lW.out lW.out (by omega) (by omega) HW2.out).mono ?_; (rintro e wQ ⟨AQ, cQ, rfl, oQ, hbQ⟩; rw [lW2.out] at oQ ⊢; have oQ := Lib.hid oQ))
      obtain ⟨bq, hbq⟩ : ∃ bq, bq = wQ.heap.size := ⟨_, rfl⟩
      obtain ⟨V, hV⟩ : ∃ V, V = wQ.alloc (.cells #[.int .i64 m, .slice AQ n cQ] 26) := ⟨_, rfl⟩
      have SP : Bf V w.heap.size (.int .i64 0) (.slice none 0 0) := by rw [hV]; exact (HP.out.keep hbQ).alloc _
      have SZ : Bf V bz (.int .i64 m) (.slice Ab n cb) := by rw [hV]; exact (HBZ.out.keep hbQ).alloc _
      have SY : Bf V bY (.int .i64 m) (.slice Ac n cc) := by rw [hV]; exact (HBY.out.keep hbQ).alloc _
      have SX : Bf V bX (.int .i64 m) (.slice Ad n cd) := by rw [hV]; exact (HBX.out.keep hbQ).alloc _
      have SW : Bf V bw (.int .i64 m) (.slice Aw n cw) := by rw [hV]; exact (HBW.out.keep hbQ).alloc _
      have SQ : Bf V bq (.int .i64 m) (.slice AQ n cQ) := by rw [hV, hbq]; exact Bf.alloc1 wQ _ _ _
      have OZ : Hid (OwnI V 0 (.slice Ab n cb) Z) := by unfold Hid; rw [hV]; exact (HOZ.out.keep hbQ (Nat.le_refl _)).alloc _
      have OZ2 : Hid (OwnI V 0 (.slice Ac n cc) Z2) := by unfold Hid; rw [hV]; exact (HOY.out.keep hbQ (Nat.le_refl _)).alloc _
      have OZ3 : Hid (OwnI V 0 (.slice Ad n cd) Z3) := by unfold Hid; rw [hV]; exact (HOX.out.keep hbQ (Nat.le_refl _)).alloc _
      have OW : Hid (OwnI V 0 (.slice Aw n cw) W) := by unfold Hid; rw [hV]; exact (HOW.out.zero.keep hbQ (Nat.le_refl _)).alloc _
      have OW2 : Hid (OwnI V 0 (.slice AQ n cQ) W2) := by unfold Hid; rw [hV]; exact oQ.out.zero.alloc _
      have sQ := hbQ.size
      have KV : Below w.heap.size w V := by rw [hV]; exact (HB.out.trans (hbQ.mono zB)).alloc (by omega) _
      have hbV : b < V.heap.size := by have := KV.size; omega
      have D0 := (KV.cell (p := ⟨b, 0, none⟩) hb).trans C0.out
      have D1 := (KV.cell (p := ⟨b, 1, none⟩) hb).trans C1.out
      have D2 := (KV.cell (p := ⟨b, 2, none⟩) hb).trans C2.out
      have D3 := (KV.cell (p := ⟨b, 3, none⟩) hb).trans C3.out
      have D4 := (KV.cell (p := ⟨b, 4, none⟩) hb).trans C4.out
      have hq1 : bw < bq := by omega
      have zV1 : V.heap.size ≤ bq + 1 := by rw [hV, hbq]; simp
      have zV2 : bq + 1 ≤ V.heap.size := by rw [hV, hbq]; simp
      rw [← hbq, ← hV]
      clear hbq hV HP HBZ HBY HBX HBW HOZ HOY HOX HOW oQ hbQ sQ w1a w1b zB zW HB
      have e1 := SZ.1.2.1
      have e2 := SZ.1.2.2
      have e3 := SY.1.2.1
      have e4 := SY.1.2.2
      have e5 := SX.1.2.1
      have e6 := SX.1.2.2
      have e7 := SW.1.2.1
      have e8 := SW.1.2.2
      have e9 := SQ.1.2.1
      have e10 := SQ.1.2.2
      go_cut [12] from 31 to 53 (fun s wx => ∃ (bn : Nat) (A' : Option Addr) (c' : Nat), s = .pointer (some ⟨bn, 0, none⟩) ∧ V.heap.size ≤ bn ∧ Hid (Bf wx bn (.int .i64 m) (.slice A' n c')) ∧ Hid (OwnI wx 0 (.slice A' n c') N3) ∧ Hid (Below V.heap.size V wx))
      case first =>
        go_region_held3 (fun w' => w'.cell? ⟨bz, 0, none⟩ = some (.int .i64 m) ∧ w'.cell? ⟨bz, 1, none⟩ = some (.slice Ab n cb) ∧ w'.cell? ⟨bY, 0, none⟩ = some (.int .i64 m) ∧ w'.cell? ⟨bY, 1, none⟩ = some (.slice Ac n cc) ∧ w'.cell? ⟨bX, 0, none⟩ = some (.int .i64 m) ∧ w'.cell? ⟨bX, 1, none⟩ = some (.slice Ad n cd) ∧ w'.cell? ⟨bw, 0, none⟩ = some (.int .i64 m) ∧ w'.cell? ⟨bw, 1, none⟩ = some (.slice Aw n cw) ∧ w'.cell? ⟨bq, 0, none⟩ = some (.int .i64 m) ∧ w'.cell? ⟨bq, 1, none⟩ = some (.slice AQ n cQ) ∧ w'.cell? ⟨b, 0, none⟩ = some (.int .i64 A0) ∧ w'.cell? ⟨b, 1, none⟩ = some (.int .i64 A1) ∧ w'.cell? ⟨b, 2, none⟩ = some (.int .i64 A2))
          (first | with_reducible exact ⟨e1, e2, e3, e4, e5, e6, e7, e8, e9, e10, D0, D1, D2⟩ | (refine (fun (h : Below V.heap.size V _) => ⟨(SZ.keep h).1.2.1, (SZ.keep h).1.2.2, (SY.keep h).1.2.1, (SY.keep h).1.2.2, (SX.keep h).1.2.1, (SX.keep h).1.2.2, (SW.keep h).1.2.1, (SW.keep h).1.2.2, (SQ.keep h).1.2.1, (SQ.keep h).1.2.2, (h.cell (p := ⟨b, 0, none⟩) hbV).trans D0, (h.cell (p := ⟨b, 1, none⟩) hbV).trans D1, (h.cell (p := ⟨b, 2, none⟩) hbV).trans D2⟩) ?_; (repeat (first | with_reducible assumption | with_reducible exact Below.refl _ _ | (with_reducible refine Below.alloc ?_ ?_ _; rotate_left; (focus (first | exact Nat.le_refl _ | omega | (simp; done) | (simp; omega)))) | (with_reducible refine Below.setCell ?_ ?_ _; rotate_left; (focus (first | exact Nat.le_refl _ | omega | (simp; done) | (simp; omega)))) | with_reducible refine below_drew ?_ | with_reducible refine below_drewN ?_ _ | (with_reducible refine Below.trans ?_ (Below.mono hbH ?_); rotate_left; (focus (first | exact Nat.le_refl _ | omega | (simp; done) | (simp; omega)))) | (with_reducible refine Below.trans ?_ (Below.mono hbG ?_); rotate_left; (focus (first | exact Nat.le_refl _ | omega | (simp; done) | (simp; omega)))) | (with_reducible refine Below.trans ?_ (Below.mono hbF ?_); rotate_left; (focus (first | exact Nat.le_refl _ | omega | (simp; done) | (simp; omega)))) | (with_reducible refine Below.trans ?_ (Below.mono hbE ?_); rotate_left; (focus (first | exact Nat.le_refl _ | omega | (simp; done) | (simp; omega)))) | (with_reducible refine Below.trans ?_ (Below.mono hbD ?_); rotate_left; (focus (first | exact Nat.le_refl _ | omega | (simp; done) | (simp; omega)))) | (with_reducible refine Below.trans ?_ (Below.mono hbC ?_); rotate_left; (focus (first | exact Nat.le_refl _ | omega | (simp; done) | (simp; omega)))) | (with_reducible refine Below.trans ?_ (Below.mono hbB ?_); rotate_left; (focus (first | exact Nat.le_refl _ | omega | (simp; done) | (simp; omega)))) | (with_reducible refine Below.trans ?_ (Below.mono hbA ?_); rotate_left; (focus (first | exact Nat.le_refl _ | omega | (simp; done) | (simp; omega)))))); done) | go_keep)
          (first | (go_at_call 115; have _h := hbG; refine (serPlus_any _ m m _ _ N2 S2 N3 n _ _ (OF.out.keep (C := wF.heap.size) (by (repeat (first | with_reducible assumption | with_reducible exact Below.refl _ _ | (with_reducible refine Below.alloc ?_ ?_ _; rotate_left; (focus (first | exact Nat.le_refl _ | omega | (simp; done) | (simp; omega)))) | (with_reducible refine Below.setCell ?_ ?_ _; rotate_left; (focus (first | exact Nat.le_refl _ | omega | (simp; done) | (simp; omega)))) | with_reducible refine below_drew ?_ | with_reducible refine below_drewN ?_ _ | (with_reducible refine Below.trans ?_ (Below.mono hbH ?_); rotate_left; (focus (first | exact Nat.le_refl _ | omega | (simp; done) | (simp; omega)))) | (with_reducible refine Below.trans ?_ (Below.mono hbG ?_); rotate_left; (focus (first | exact Nat.le_refl _ | omega | (simp; done) | (simp; omega)))) | (with_reducible refine Below.trans ?_ (Below.mono hbF ?_); rotate_left; (focus (first | exact Nat.le_refl _ | omega | (simp; done) | (simp; omega)))) | (with_reducible refine Below.trans ?_ (Below.mono hbE ?_); rotate_left; (focus (first | exact Nat.le_refl _ | omega | (simp; done) | (simp; omega)))) | (with_reducible refine Below.trans ?_ (Below.mono hbD ?_); rotate_left; (focus (first | exact Nat.le_refl _ | omega | (simp; done) | (simp; omega)))) | (with_reducible refine Below.trans ?_ (Below.mono hbC ?_); rotate_left; (focus (first | exact Nat.le_refl _ | omega | (simp; done) | (simp; omega)))) | (with_reducible refine Below.trans ?_ (Below.mono hbB ?_); rotate_left; (focus (first | exact Nat.le_refl _ | omega | (simp; done) | (simp; omega)))) | (with_reducible refine Below.trans ?_ (Below.mono hbA ?_); rotate_left; (focus (first | exact Nat.le_refl _ | omega | (simp; done) | (simp; omega))))))) (Nat.le_refl _)) (OG.out.keep (C := wG.heap.size) (by (repeat (first | with_reducible assumption | with_reducible exact Below.refl _ _ | (with_reducible refine Below.alloc ?_ ?_ _; rotate_left; (focus (first | exact Nat.le_refl _ | omega | (simp; done) | (simp; omega)))) | (with_reducible refine Below.setCell ?_ ?_ _; rotate_left; (focus (first | exact Nat.le_refl _ | omega | (simp; done) | (simp; omega)))) | with_reducible refine below_drew ?_ | with_reducible refine below_drewN ?_ _ | (with_reducible refine Below.trans ?_ (Below.mono hbH ?_); rotate_left; (focus (first | exact Nat.le_refl _ | omega | (simp; done) | (simp; omega)))) | (with_reducible refine Below.trans ?_ (Below.mono hbG ?_); rotate_left; (focus (first | exact Nat.le_refl _ | omega | (simp; done) | (simp; omega)))) | (with_reducible refine Below.trans ?_ (Below.mono hbF ?_); rotate_left; (focus (first | exact Nat.le_refl _ | omega | (simp; done) | (simp; omega)))) | (with_reducible refine Below.trans ?_ (Below.mono hbE ?_); rotate_left; (focus (first | exact Nat.le_refl _ | omega | (simp; done) | (simp; omega)))) | (with_reducible refine Below.trans ?_ (Below.mono hbD ?_); rotate_left; (focus (first | exact Nat.le_refl _ | omega | (simp; done) | (simp; omega)))) | (with_reducible refine Below.trans ?_ (Below.mono hbC ?_); rotate_left; (focus (first | exact Nat.le_refl _ | omega | (simp; done) | (simp; omega)))) | (with_reducible refine Below.trans ?_ (Below.mono hbB ?_); rotate_left; (focus (first | exact Nat.le_refl _ | omega | (simp; done) | (simp; omega)))) | (with_reducible refine Below.trans ?_ (Below.mono hbA ?_); rotate_left; (focus (first | exact Nat.le_refl _ | omega | (simp; done) | (simp; omega))))))) (Nat.le_refl _)) hm (by omega) nN2.out nS2.out lN2.out lS2.out (by omega) (by omega) HN3.out).mono ?_; (rintro e wH ⟨AH, cH, rfl, oH, hbH⟩; rw [lN3.out] at oH ⊢; have OH := Lib.hid oH; clear oH; have KH : Below V.heap.size V wH := (by (repeat (first | with_reducible assumption | with_reducible exact Below.refl _ _ | (with_reducible refine Below.alloc ?_ ?_ _; rotate_left; (focus (first | exact Nat.le_refl _ | omega | (simp; done) | (simp; omega)))) | (with_reducible refine Below.setCell ?_ ?_ _; rotate_left; (focus (first | exact Nat.le_refl _ | omega | (simp; done) | (simp; omega)))) | with_reducible refine below_drew ?_ | with_reducible refine below_drewN ?_ _ | (with_reducible refine Below.trans ?_ (Below.mono hbH ?_); rotate_left; (focus (first | exact Nat.le_refl _ | omega | (simp; done) | (simp; omega)))) | (with_reducible refine Below.trans ?_ (Below.mono hbG ?_); rotate_left; (focus (first | exact Nat.le_refl _ | omega | (simp; done) | (simp; omega)))) | (with_reducible refine Below.trans ?_ (Below.mono hbF ?_); rotate_left; (focus (first | exact Nat.le_refl _ | omega | (simp; done) | (simp; omega)))) | (with_reducible refine Below.trans ?_ (Below.mono hbE ?_); rotate_left; (focus (first | exact Nat.le_refl _ | omega | (simp; done) | (simp; omega)))) | (with_reducible refine Below.trans ?_ (Below.mono hbD ?_); rotate_left; (focus (first | exact Nat.le_refl _ | omega | (simp; done) | (simp; omega)))) | (with_reducible refine Below.trans ?_ (Below.mono hbC ?_); rotate_left; (focus (first | exact Nat.le_refl _ | omega | (simp; done) | (simp; omega)))) | (with_reducible refine Below.trans ?_ (Below.mono hbB ?_); rotate_left; (focus (first | exact Nat.le_refl _ | omega | (simp; done) | (simp; omega)))) | (with_reducible refine Below.trans ?_ (Below.mono hbA ?_); rotate_left; (focus (first | exact Nat.le_refl _ | omega | (simp; done) | (simp; omega))))))); have zH := KH.size; obtain ⟨hcH, hfH⟩ := bcell hbH; have qH := hbH.size; (try simp at qH); (first | (have yH0 : V.heap.size < wH.heap.size := (by omega)) | skip); (first | (have yH1 : wA.heap.size < wH.heap.size := (by omega)) | skip); (first | (have yH2 : wB.heap.size < wH.heap.size := (by omega)) | skip); (first | (have yH3 : wC.heap.size < wH.heap.size := (by omega)) | skip); (first | (have yH4 : wD.heap.size < wH.heap.size := (by omega)) | skip); (first | (have yH5 : wE.heap.size < wH.heap.size := (by omega)) | skip); (first | (have yH6 : wF.heap.size < wH.heap.size := (by omega)) | skip); (first | (have yH7 : wG.heap.size < wH.heap.size := (by omega)) | skip))) | (go_at_call 69; have _h := hbF; refine (scaled_any _ m _ W2 S2 A2 _ (OW2.out.keep (C := V.heap.size) (by (repeat (first | with_reducible assumption | with_reducible exact Below.refl _ _ | (with_reducible refine Below.alloc ?_ ?_ _; rotate_left; (focus (first | exact Nat.le_refl _ | omega | (simp; done) | (simp; omega)))) | (with_reducible refine Below.setCell ?_ ?_ _; rotate_left; (focus (first | exact Nat.le_refl _ | omega | (simp; done) | (simp; omega)))) | with_reducible refine below_drew ?_ | with_reducible refine below_drewN ?_ _ | (with_reducible refine Below.trans ?_ (Below.mono hbH ?_); rotate_left; (focus (first | exact Nat.le_refl _ | omega | (simp; done) | (simp; omega)))) | (with_reducible refine Below.trans ?_ (Below.mono hbG ?_); rotate_left; (focus (first | exact Nat.le_refl _ | omega | (simp; done) | (simp; omega)))) | (with_reducible refine Below.trans ?_ (Below.mono hbF ?_); rotate_left; (focus (first | exact Nat.le_refl _ | omega | (simp; done) | (simp; omega)))) | (with_reducible refine Below.trans ?_ (Below.mono hbE ?_); rotate_left; (focus (first | exact Nat.le_refl _ | omega | (simp; done) | (simp; omega)))) | (with_reducible refine Below.trans ?_ (Below.mono hbD ?_); rotate_left; (focus (first | exact Nat.le_refl _ | omega | (simp; done) | (simp; omega)))) | (with_reducible refine Below.trans ?_ (Below.mono hbC ?_); rotate_left; (focus (first | exact Nat.le_refl _ | omega | (simp; done) | (simp; omega)))) | (with_reducible refine Below.trans ?_ (Below.mono hbB ?_); rotate_left; (focus (first | exact Nat.le_refl _ | omega | (simp; done) | (simp; omega)))) | (with_reducible refine Below.trans ?_ (Below.mono hbA ?_); rotate_left; (focus (first | exact Nat.le_refl _ | omega | (simp; done) | (simp; omega))))))) (Nat.le_refl _)) hm (by omega) nW2.out (by rw [lW2.out]; omega) (by rw [lW2.out]; omega) HS2.out).mono ?_; (rintro e wG ⟨AG, cG, rfl, oG, hbG⟩; rw [lS2.out] at oG ⊢; have OG := Lib.hid oG; clear oG; have KG : Below V.heap.size V wG := (by (repeat (first | with_reducible assumption | with_reducible exact Below.refl _ _ | (with_reducible refine Below.alloc ?_ ?_ _; rotate_left; (focus (first | exact Nat.le_refl _ | omega | (simp; done) | (simp; omega)))) | (with_reducible refine Below.setCell ?_ ?_ _; rotate_left; (focus (first | exact Nat.le_refl _ | omega | (simp; done) | (simp; omega)))) | with_reducible refine below_drew ?_ | with_reducible refine below_drewN ?_ _ | (with_reducible refine Below.trans ?_ (Below.mono hbH ?_); rotate_left; (focus (first | exact Nat.le_refl _ | omega | (simp; done) | (simp; omega)))) | (with_reducible refine Below.trans ?_ (Below.mono hbG ?_); rotate_left; (focus (first | exact Nat.le_refl _ | omega | (simp; done) | (simp; omega)))) | (with_reducible refine Below.trans ?_ (Below.mono hbF ?_); rotate_left; (focus (first | exact Nat.le_refl _ | omega | (simp; done) | (simp; omega)))) | (with_reducible refine Below.trans ?_ (Below.mono hbE ?_); rotate_left; (focus (first | exact Nat.le_refl _ | omega | (simp; done) | (simp; omega)))) | (with_reducible refine Below.trans ?_ (Below.mono hbD ?_); rotate_left; (focus (first | exact Nat.le_refl _ | omega | (simp; done) | (simp; omega)))) | (with_reducible refine Below.trans ?_ (Below.mono hbC ?_); rotate_left; (focus (first | exact Nat.le_refl _ | omega | (simp; done) | (simp; omega)))) | (with_reducible refine Below.trans ?_ (Below.mono hbB ?_); rotate_left; (focus (first | exact Nat.le_refl _ | omega | (simp; done) | (simp; omega)))) | (with_reducible refine Below.trans ?_ (Below.mono hbA ?_); rotate_left; (focus (first | exact Nat.le_refl _ | omega | (simp; done) | (simp; omega))))))); have zG := KG.size; obtain ⟨hcG, hfG⟩ := bcell hbG; have qG := hbG.size; (try simp at qG); (first | (have yG0 : V.heap.size < wG.heap.size := (by omega)) | skip); (first | (have yG1 : wA.heap.size < wG.heap.size := (by omega)) | skip); (first | (have yG2 : wB.heap.size < wG.heap.size := (by omega)) | skip); (first | (have yG3 : wC.heap.size < wG.heap.size := (by omega)) | skip); (first | (have yG4 : wD.heap.size < wG.heap.size := (by omega)) | skip); (first | (have yG5 : wE.heap.size < wG.heap.size := (by omega)) | skip); (first | (have yG6 : wF.heap.size < wG.heap.size := (by omega)) | skip))) | (go_at_call 115; have _h := hbE; refine (serPlus_any _ m m _ _ N1 S1 N2 n _ _ (OC.out.keep (C := wC.heap.size) (by (repeat (first | with_reducible assumption | with_reducible exact Below.refl _ _ | (with_reducible refine Below.alloc ?_ ?_ _; rotate_left; (focus (first | exact Nat.le_refl _ | omega | (simp; done) | (simp; omega)))) | (with_reducible refine Below.setCell ?_ ?_ _; rotate_left; (focus (first | exact Nat.le_refl _ | omega | (simp; done) | (simp; omega)))) | with_reducible refine below_drew ?_ | with_reducible refine below_drewN ?_ _ | (with_reducible refine Below.trans ?_ (Below.mono hbH ?_); rotate_left; (focus (first | exact Nat.le_refl _ | omega | (simp; done) | (simp; omega)))) | (with_reducible refine Below.trans ?_ (Below.mono hbG ?_); rotate_left; (focus (first | exact Nat.le_refl _ | omega | (simp; done) | (simp; omega)))) | (with_reducible refine Below.trans ?_ (Below.mono hbF ?_); rotate_left; (focus (first | exact Nat.le_refl _ | omega | (simp; done) | (simp; omega)))) | (with_reducible refine Below.trans ?_ (Below.mono hbE ?_); rotate_left; (focus (first | exact Nat.le_refl _ | omega | (simp; done) | (simp; omega)))) | (with_reducible refine Below.trans ?_ (Below.mono hbD ?_); rotate_left; (focus (first | exact Nat.le_refl _ | omega | (simp; done) | (simp; omega)))) | (with_reducible refine Below.trans ?_ (Below.mono hbC ?_); rotate_left; (focus (first | exact Nat.le_refl _ | omega | (simp; done) | (simp; omega)))) | (with_reducible refine Below.trans ?_ (Below.mono hbB ?_); rotate_left; (focus (first | exact Nat.le_refl _ | omega | (simp; done) | (simp; omega)))) | (with_reducible refine Below.trans ?_ (Below.mono hbA ?_); rotate_left; (focus (first | exact Nat.le_refl _ | omega | (simp; done) | (simp; omega))))))) (Nat.le_refl _)) (OE.out.keep (C := wE.heap.size) (by (repeat (first | with_reducible assumption | with_reducible exact Below.refl _ _ | (with_reducible refine Below.alloc ?_ ?_ _; rotate_left; (focus (first | exact Nat.le_refl _ | omega | (simp; done) | (simp; omega)))) | (with_reducible refine Below.setCell ?_ ?_ _; rotate_left; (focus (first | exact Nat.le_refl _ | omega | (simp; done) | (simp; omega)))) | with_reducible refine below_drew ?_ | with_reducible refine below_drewN ?_ _ | (with_reducible refine Below.trans ?_ (Below.mono hbH ?_); rotate_left; (focus (first | exact Nat.le_refl _ | omega | (simp; done) | (simp; omega)))) | (with_reducible refine Below.trans ?_ (Below.mono hbG ?_); rotate_left; (focus (first | exact Nat.le_refl _ | omega | (simp; done) | (simp; omega)))) | (with_reducible refine Below.trans ?_ (Below.mono hbF ?_); rotate_left; (focus (first | exact Nat.le_refl _ | omega | (simp; done) | (simp; omega)))) | (with_reducible refine Below.trans ?_ (Below.mono hbE ?_); rotate_left; (focus (first | exact Nat.le_refl _ | omega | (simp; done) | (simp; omega)))) | (with_reducible refine Below.trans ?_ (Below.mono hbD ?_); rotate_left; (focus (first | exact Nat.le_refl _ | omega | (simp; done) | (simp; omega)))) | (with_reducible refine Below.trans ?_ (Below.mono hbC ?_); rotate_left; (focus (first | exact Nat.le_refl _ | omega | (simp; done) | (simp; omega)))) | (with_reducible refine Below.trans ?_ (Below.mono hbB ?_); rotate_left; (focus (first | exact Nat.le_refl _ | omega | (simp; done) | (simp; omega)))) | (with_reducible refine Below.trans ?_ (Below.mono hbA ?_); rotate_left; (focus (first | exact Nat.le_refl _ | omega | (simp; done) | (simp; omega))))))) (Nat.le_refl _)) hm (by omega) nN1.out nS1.out lN1.out lS1.out (by omega) (by omega) HN2.out).mono ?_; (rintro e wF ⟨AF, cF, rfl, oF, hbF⟩; rw [lN2.out] at oF ⊢; have OF := Lib.hid oF; clear oF; have KF : Below V.heap.size V wF := (by (repeat (first | with_reducible assumption | with_reducible exact Below.refl _ _ | (with_reducible refine Below.alloc ?_ ?_ _; rotate_left; (focus (first | exact Nat.le_refl _ | omega | (simp; done) | (simp; omega)))) | (with_reducible refine Below.setCell ?_ ?_ _; rotate_left; (focus (first | exact Nat.le_refl _ | omega | (simp; done) | (simp; omega)))) | with_reducible refine below_drew ?_ | with_reducible refine below_drewN ?_ _ | (with_reducible refine Below.trans ?_ (Below.mono hbH ?_); rotate_left; (focus (first | exact Nat.le_refl _ | omega | (simp; done) | (simp; omega)))) | (with_reducible refine Below.trans ?_ (Below.mono hbG ?_); rotate_left; (focus (first | exact Nat.le_refl _ | omega | (simp; done) | (simp; omega)))) | (with_reducible refine Below.trans ?_ (Below.mono hbF ?_); rotate_left; (focus (first | exact Nat.le_refl _ | omega | (simp; done) | (simp; omega)))) | (with_reducible refine Below.trans ?_ (Below.mono hbE ?_); rotate_left; (focus (first | exact Nat.le_refl _ | omega | (simp; done) | (simp; omega)))) | (with_reducible refine Below.trans ?_ (Below.mono hbD ?_); rotate_left; (focus (first | exact Nat.le_refl _ | omega | (simp; done) | (simp; omega)))) | (with_reducible refine Below.trans ?_ (Below.mono hbC ?_); rotate_left; (focus (first | exact Nat.le_refl _ | omega | (simp; done) | (simp; omega)))) | (with_reducible refine Below.trans ?_ (Below.mono hbB ?_); rotate_left; (focus (first | exact Nat.le_refl _ | omega | (simp; done) | (simp; omega)))) | (with_reducible refine Below.trans ?_ (Below.mono hbA ?_); rotate_left; (focus (first | exact Nat.le_refl _ | omega | (simp; done) | (simp; omega))))))); have zF := KF.size; obtain ⟨hcF, hfF⟩ := bcell hbF; have qF := hbF.size; (try simp at qF); (first | (have yF0 : V.heap.size < wF.heap.size := (by omega)) | skip); (first | (have yF1 : wA.heap.size < wF.heap.size := (by omega)) | skip); (first | (have yF2 : wB.heap.size < wF.heap.size := (by omega)) | skip); (first | (have yF3 : wC.heap.size < wF.heap.size := (by omega)) | skip); (first | (have yF4 : wD.heap.size < wF.heap.size := (by omega)) | skip); (first | (have yF5 : wE.heap.size < wF.heap.size := (by omega)) | skip))) | (go_at_call 69; have _h := hbD; refine (scaled_any _ m _ YW S1 A1 _ (OD.out.keep (C := wD.heap.size) (by (repeat (first | with_reducible assumption | with_reducible exact Below.refl _ _ | (with_reducible refine Below.alloc ?_ ?_ _; rotate_left; (focus (first | exact Nat.le_refl _ | omega | (simp; done) | (simp; omega)))) | (with_reducible refine Below.setCell ?_ ?_ _; rotate_left; (focus (first | exact Nat.le_refl _ | omega | (simp; done) | (simp; omega)))) | with_reducible refine below_drew ?_ | with_reducible refine below_drewN ?_ _ | (with_reducible refine Below.trans ?_ (Below.mono hbH ?_); rotate_left; (focus (first | exact Nat.le_refl _ | omega | (simp; done) | (simp; omega)))) | (with_reducible refine Below.trans ?_ (Below.mono hbG ?_); rotate_left; (focus (first | exact Nat.le_refl _ | omega | (simp; done) | (simp; omega)))) | (with_reducible refine Below.trans ?_ (Below.mono hbF ?_); rotate_left; (focus (first | exact Nat.le_refl _ | omega | (simp; done) | (simp; omega)))) | (with_reducible refine Below.trans ?_ (Below.mono hbE ?_); rotate_left; (focus (first | exact Nat.le_refl _ | omega | (simp; done) | (simp; omega)))) | (with_reducible refine Below.trans ?_ (Below.mono hbD ?_); rotate_left; (focus (first | exact Nat.le_refl _ | omega | (simp; done) | (simp; omega)))) | (with_reducible refine Below.trans ?_ (Below.mono hbC ?_); rotate_left; (focus (first | exact Nat.le_refl _ | omega | (simp; done) | (simp; omega)))) | (with_reducible refine Below.trans ?_ (Below.mono hbB ?_); rotate_left; (focus (first | exact Nat.le_refl _ | omega | (simp; done) | (simp; omega)))) | (with_reducible refine Below.trans ?_ (Below.mono hbA ?_); rotate_left; (focus (first | exact Nat.le_refl _ | omega | (simp; done) | (simp; omega))))))) (Nat.le_refl _)) hm (by omega) nYW.out (by rw [lYW.out]; omega) (by rw [lYW.out]; omega) HS1.out).mono ?_; (rintro e wE ⟨AE, cE, rfl, oE, hbE⟩; rw [lS1.out] at oE ⊢; have OE := Lib.hid oE; clear oE; have KE : Below V.heap.size V wE := (by (repeat (first | with_reducible assumption | with_reducible exact Below.refl _ _ | (with_reducible refine Below.alloc ?_ ?_ _; rotate_left; (focus (first | exact Nat.le_refl _ | omega | (simp; done) | (simp; omega)))) | (with_reducible refine Below.setCell ?_ ?_ _; rotate_left; (focus (first | exact Nat.le_refl _ | omega | (simp; done) | (simp; omega)))) | with_reducible refine below_drew ?_ | with_reducible refine below_drewN ?_ _ | (with_reducible refine Below.trans ?_ (Below.mono hbH ?_); rotate_left; (focus (first | exact Nat.le_refl _ | omega | (simp; done) | (simp; omega)))) | (with_reducible refine Below.trans ?_ (Below.mono hbG ?_); rotate_left; (focus (first | exact Nat.le_refl _ | omega | (simp; done) | (simp; omega)))) | (with_reducible refine Below.trans ?_ (Below.mono hbF ?_); rotate_left; (focus (first | exact Nat.le_refl _ | omega | (simp; done) | (simp; omega)))) | (with_reducible refine Below.trans ?_ (Below.mono hbE ?_); rotate_left; (focus (first | exact Nat.le_refl _ | omega | (simp; done) | (simp; omega)))) | (with_reducible refine Below.trans ?_ (Below.mono hbD ?_); rotate_left; (focus (first | exact Nat.le_refl _ | omega | (simp; done) | (simp; omega)))) | (with_reducible refine Below.trans ?_ (Below.mono hbC ?_); rotate_left; (focus (first | exact Nat.le_refl _ | omega | (simp; done) | (simp; omega)))) | (with_reducible refine Below.trans ?_ (Below.mono hbB ?_); rotate_left; (focus (first | exact Nat.le_refl _ | omega | (simp; done) | (simp; omega)))) | (with_reducible refine Below.trans ?_ (Below.mono hbA ?_); rotate_left; (focus (first | exact Nat.le_refl _ | omega | (simp; done) | (simp; omega))))))); have zE := KE.size; obtain ⟨hcE, hfE⟩ := bcell hbE; have qE := hbE.size; (try simp at qE); (first | (have yE0 : V.heap.size < wE.heap.size := (by omega)) | skip); (first | (have yE1 : wA.heap.size < wE.heap.size := (by omega)) | skip); (first | (have yE2 : wB.heap.size < wE.heap.size := (by omega)) | skip); (first | (have yE3 : wC.heap.size < wE.heap.size := (by omega)) | skip); (first | (have yE4 : wD.heap.size < wE.heap.size := (by omega)) | skip))) | (go_at_call 111; have _h := hbC; refine (times_any _ m m _ _ Z2 W YW n _ _ (OZ2.out.keep (C := V.heap.size) (by (repeat (first | with_reducible assumption | with_reducible exact Below.refl _ _ | (with_reducible refine Below.alloc ?_ ?_ _; rotate_left; (focus (first | exact Nat.le_refl _ | omega | (simp; done) | (simp; omega)))) | (with_reducible refine Below.setCell ?_ ?_ _; rotate_left; (focus (first | exact Nat.le_refl _ | omega | (simp; done) | (simp; omega)))) | with_reducible refine below_drew ?_ | with_reducible refine below_drewN ?_ _ | (with_reducible refine Below.trans ?_ (Below.mono hbH ?_); rotate_left; (focus (first | exact Nat.le_refl _ | omega | (simp; done) | (simp; omega)))) | (with_reducible refine Below.trans ?_ (Below.mono hbG ?_); rotate_left; (focus (first | exact Nat.le_refl _ | omega | (simp; done) | (simp; omega)))) | (with_reducible refine Below.trans ?_ (Below.mono hbF ?_); rotate_left; (focus (first | exact Nat.le_refl _ | omega | (simp; done) | (simp; omega)))) | (with_reducible refine Below.trans ?_ (Below.mono hbE ?_); rotate_left; (focus (first | exact Nat.le_refl _ | omega | (simp; done) | (simp; omega)))) | (with_reducible refine Below.trans ?_ (Below.mono hbD ?_); rotate_left; (focus (first | exact Nat.le_refl _ | omega | (simp; done) | (simp; omega)))) | (with_reducible refine Below.trans ?_ (Below.mono hbC ?_); rotate_left; (focus (first | exact Nat.le_refl _ | omega | (simp; done) | (simp; omega)))) | (with_reducible refine Below.trans ?_ (Below.mono hbB ?_); rotate_left; (focus (first | exact Nat.le_refl _ | omega | (simp; done) | (simp; omega)))) | (with_reducible refine Below.trans ?_ (Below.mono hbA ?_); rotate_left; (focus (first | exact Nat.le_refl _ | omega | (simp; done) | (simp; omega))))))) (Nat.le_refl _)) (OW.out.keep (C := V.heap.size) (by (repeat (first | with_reducible assumption | with_reducible exact Below.refl _ _ | (with_reducible refine Below.alloc ?_ ?_ _; rotate_left; (focus (first | exact Nat.le_refl _ | omega | (simp; done) | (simp; omega)))) | (with_reducible refine Below.setCell ?_ ?_ _; rotate_left; (focus (first | exact Nat.le_refl _ | omega | (simp; done) | (simp; omega)))) | with_reducible refine below_drew ?_ | with_reducible refine below_drewN ?_ _ | (with_reducible refine Below.trans ?_ (Below.mono hbH ?_); rotate_left; (focus (first | exact Nat.le_refl _ | omega | (simp; done) | (simp; omega)))) | (with_reducible refine Below.trans ?_ (Below.mono hbG ?_); rotate_left; (focus (first | exact Nat.le_refl _ | omega | (simp; done) | (simp; omega)))) | (with_reducible refine Below.trans ?_ (Below.mono hbF ?_); rotate_left; (focus (first | exact Nat.le_refl _ | omega | (simp; done) | (simp; omega)))) | (with_reducible refine Below.trans ?_ (Below.mono hbE ?_); rotate_left; (focus (first | exact Nat.le_refl _ | omega | (simp; done) | (simp; omega)))) | (with_reducible refine Below.trans ?_ (Below.mono hbD ?_); rotate_left; (focus (first | exact Nat.le_refl _ | omega | (simp; done) | (simp; omega)))) | (with_reducible refine Below.trans ?_ (Below.mono hbC ?_); rotate_left; (focus (first | exact Nat.le_refl _ | omega | (simp; done) | (simp; omega)))) | (with_reducible refine Below.trans ?_ (Below.mono hbB ?_); rotate_left; (focus (first | exact Nat.le_refl _ | omega | (simp; done) | (simp; omega)))) | (with_reducible refine Below.trans ?_ (Below.mono hbA ?_); rotate_left; (focus (first | exact Nat.le_refl _ | omega | (simp; done) | (simp; omega))))))) (Nat.le_refl _)) hm (by omega) nZ2.out nW.out lZ2.out lW.out (by omega) (by omega) HYW.out).mono ?_; (rintro e wD ⟨AD, cD, rfl, oD, hbD⟩; rw [lYW.out] at oD ⊢; have OD := Lib.hid oD; clear oD; have KD : Below V.heap.size V wD := (by (repeat (first | with_reducible assumption | with_reducible exact Below.refl _ _ | (with_reducible refine Below.alloc ?_ ?_ _; rotate_left; (focus (first | exact Nat.le_refl _ | omega | (simp; done) | (simp; omega)))) | (with_reducible refine Below.setCell ?_ ?_ _; rotate_left; (focus (first | exact Nat.le_refl _ | omega | (simp; done) | (simp; omega)))) | with_reducible refine below_drew ?_ | with_reducible refine below_drewN ?_ _ | (with_reducible refine Below.trans ?_ (Below.mono hbH ?_); rotate_left; (focus (first | exact Nat.le_refl _ | omega | (simp; done) | (simp; omega)))) | (with_reducible refine Below.trans ?_ (Below.mono hbG ?_); rotate_left; (focus (first | exact Nat.le_refl _ | omega | (simp; done) | (simp; omega)))) | (with_reducible refine Below.trans ?_ (Below.mono hbF ?_); rotate_left; (focus (first | exact Nat.le_refl _ | omega | (simp; done) | (simp; omega)))) | (with_reducible refine Below.trans ?_ (Below.mono hbE ?_); rotate_left; (focus (first | exact Nat.le_refl _ | omega | (simp; done) | (simp; omega)))) | (with_reducible refine Below.trans ?_ (Below.mono hbD ?_); rotate_left; (focus (first | exact Nat.le_refl _ | omega | (simp; done) | (simp; omega)))) | (with_reducible refine Below.trans ?_ (Below.mono hbC ?_); rotate_left; (focus (first | exact Nat.le_refl _ | omega | (simp; done) | (simp; omega)))) | (with_reducible refine Below.trans ?_ (Below.mono hbB ?_); rotate_left; (focus (first | exact Nat.le_refl _ | omega | (simp; done) | (simp; omega)))) | (with_reducible refine Below.trans ?_ (Below.mono hbA ?_); rotate_left; (focus (first | exact Nat.le_refl _ | omega | (simp; done) | (simp; omega))))))); have zD := KD.size; obtain ⟨hcD, hfD⟩ := bcell hbD; have qD := hbD.size; (try simp at qD); (first | (have yD0 : V.heap.size < wD.heap.size := (by omega)) | skip); (first | (have yD1 : wA.heap.size < wD.heap.size := (by omega)) | skip); (first | (have yD2 : wB.heap.size < wD.heap.size := (by omega)) | skip); (first | (have yD3 : wC.heap.size < wD.heap.size := (by omega)) | skip))) | (go_at_call 115; have _h := hbB; refine (serPlus_any _ m m _ _ Z3 S0 N1 n _ _ (OZ3.out.keep (C := V.heap.size) (by (repeat (first | with_reducible assumption | with_reducible exact Below.refl _ _ | (with_reducible refine Below.alloc ?_ ?_ _; rotate_left; (focus (first | exact Nat.le_refl _ | omega | (simp; done) | (simp; omega)))) | (with_reducible refine Below.setCell ?_ ?_ _; rotate_left; (focus (first | exact Nat.le_refl _ | omega | (simp; done) | (simp; omega)))) | with_reducible refine below_drew ?_ | with_reducible refine below_drewN ?_ _ | (with_reducible refine Below.trans ?_ (Below.mono hbH ?_); rotate_left; (focus (first | exact Nat.le_refl _ | omega | (simp; done) | (simp; omega)))) | (with_reducible refine Below.trans ?_ (Below.mono hbG ?_); rotate_left; (focus (first | exact Nat.le_refl _ | omega | (simp; done) | (simp; omega)))) | (with_reducible refine Below.trans ?_ (Below.mono hbF ?_); rotate_left; (focus (first | exact Nat.le_refl _ | omega | (simp; done) | (simp; omega)))) | (with_reducible refine Below.trans ?_ (Below.mono hbE ?_); rotate_left; (focus (first | exact Nat.le_refl _ | omega | (simp; done) | (simp; omega)))) | (with_reducible refine Below.trans ?_ (Below.mono hbD ?_); rotate_left; (focus (first | exact Nat.le_refl _ | omega | (simp; done) | (simp; omega)))) | (with_reducible refine Below.trans ?_ (Below.mono hbC ?_); rotate_left; (focus (first | exact Nat.le_refl _ | omega | (simp; done) | (simp; omega)))) | (with_reducible refine Below.trans ?_ (Below.mono hbB ?_); rotate_left; (focus (first | exact Nat.le_refl _ | omega | (simp; done) | (simp; omega)))) | (with_reducible refine Below.trans ?_ (Below.mono hbA ?_); rotate_left; (focus (first | exact Nat.le_refl _ | omega | (simp; done) | (simp; omega))))))) (Nat.le_refl _)) (OB.out.keep (C := wB.heap.size) (by (repeat (first | with_reducible assumption | with_reducible exact Below.refl _ _ | (with_reducible refine Below.alloc ?_ ?_ _; rotate_left; (focus (first | exact Nat.le_refl _ | omega | (simp; done) | (simp; omega)))) | (with_reducible refine Below.setCell ?_ ?_ _; rotate_left; (focus (first | exact Nat.le_refl _ | omega | (simp; done) | (simp; omega)))) | with_reducible refine below_drew ?_ | with_reducible refine below_drewN ?_ _ | (with_reducible refine Below.trans ?_ (Below.mono hbH ?_); rotate_left; (focus (first | exact Nat.le_refl _ | omega | (simp; done) | (simp; omega)))) | (with_reducible refine Below.trans ?_ (Below.mono hbG ?_); rotate_left; (focus (first | exact Nat.le_refl _ | omega | (simp; done) | (simp; omega)))) | (with_reducible refine Below.trans ?_ (Below.mono hbF ?_); rotate_left; (focus (first | exact Nat.le_refl _ | omega | (simp; done) | (simp; omega)))) | (with_reducible refine Below.trans ?_ (Below.mono hbE ?_); rotate_left; (focus (first | exact Nat.le_refl _ | omega | (simp; done) | (simp; omega)))) | (with_reducible refine Below.trans ?_ (Below.mono hbD ?_); rotate_left; (focus (first | exact Nat.le_refl _ | omega | (simp; done) | (simp; omega)))) | (with_reducible refine Below.trans ?_ (Below.mono hbC ?_); rotate_left; (focus (first | exact Nat.le_refl _ | omega | (simp; done) | (simp; omega)))) | (with_reducible refine Below.trans ?_ (Below.mono hbB ?_); rotate_left; (focus (first | exact Nat.le_refl _ | omega | (simp; done) | (simp; omega)))) | (with_reducible refine Below.trans ?_ (Below.mono hbA ?_); rotate_left; (focus (first | exact Nat.le_refl _ | omega | (simp; done) | (simp; omega))))))) (Nat.le_refl _)) hm (by omega) nZ3.out nS0.out lZ3.out lS0.out (by omega) (by omega) HN1.out).mono ?_; (rintro e wC ⟨AC, cC, rfl, oC, hbC⟩; rw [lN1.out] at oC ⊢; have OC := Lib.hid oC; clear oC; have KC : Below V.heap.size V wC := (by (repeat (first | with_reducible assumption | with_reducible exact Below.refl _ _ | (with_reducible refine Below.alloc ?_ ?_ _; rotate_left; (focus (first | exact Nat.le_refl _ | omega | (simp; done) | (simp; omega)))) | (with_reducible refine Below.setCell ?_ ?_ _; rotate_left; (focus (first | exact Nat.le_refl _ | omega | (simp; done) | (simp; omega)))) | with_reducible refine below_drew ?_ | with_reducible refine below_drewN ?_ _ | (with_reducible refine Below.trans ?_ (Below.mono hbH ?_); rotate_left; (focus (first | exact Nat.le_refl _ | omega | (simp; done) | (simp; omega)))) | (with_reducible refine Below.trans ?_ (Below.mono hbG ?_); rotate_left; (focus (first | exact Nat.le_refl _ | omega | (simp; done) | (simp; omega)))) | (with_reducible refine Below.trans ?_ (Below.mono hbF ?_); rotate_left; (focus (first | exact Nat.le_refl _ | omega | (simp; done) | (simp; omega)))) | (with_reducible refine Below.trans ?_ (Below.mono hbE ?_); rotate_left; (focus (first | exact Nat.le_refl _ | omega | (simp; done) | (simp; omega)))) | (with_reducible refine Below.trans ?_ (Below.mono hbD ?_); rotate_left; (focus (first | exact Nat.le_refl _ | omega | (simp; done) | (simp; omega)))) | (with_reducible refine Below.trans ?_ (Below.mono hbC ?_); rotate_left; (focus (first | exact Nat.le_refl _ | omega | (simp; done) | (simp; omega)))) | (with_reducible refine Below.trans ?_ (Below.mono hbB ?_); rotate_left; (focus (first | exact Nat.le_refl _ | omega | (simp; done) | (simp; omega)))) | (with_reducible refine Below.trans ?_ (Below.mono hbA ?_); rotate_left; (focus (first | exact Nat.le_refl _ | omega | (simp; done) | (simp; omega))))))); have zC := KC.size; obtain ⟨hcC, hfC⟩ := bcell hbC; have qC := hbC.size; (try simp at qC); (first | (have yC0 : V.heap.size < wC.heap.size := (by omega)) | skip); (first | (have yC1 : wA.heap.size < wC.heap.size := (by omega)) | skip); (first | (have yC2 : wB.heap.size < wC.heap.size := (by omega)) | skip))) | (go_at_call 69; have _h := hbA; refine (scaled_any _ m _ ZW S0 A0 _ (OA.out.keep (C := wA.heap.size) (by (repeat (first | with_reducible assumption | with_reducible exact Below.refl _ _ | (with_reducible refine Below.alloc ?_ ?_ _; rotate_left; (focus (first | exact Nat.le_refl _ | omega | (simp; done) | (simp; omega)))) | (with_reducible refine Below.setCell ?_ ?_ _; rotate_left; (focus (first | exact Nat.le_refl _ | omega | (simp; done) | (simp; omega)))) | with_reducible refine below_drew ?_ | with_reducible refine below_drewN ?_ _ | (with_reducible refine Below.trans ?_ (Below.mono hbH ?_); rotate_left; (focus (first | exact Nat.le_refl _ | omega | (simp; done) | (simp; omega)))) | (with_reducible refine Below.trans ?_ (Below.mono hbG ?_); rotate_left; (focus (first | exact Nat.le_refl _ | omega | (simp; done) | (simp; omega)))) | (with_reducible refine Below.trans ?_ (Below.mono hbF ?_); rotate_left; (focus (first | exact Nat.le_refl _ | omega | (simp; done) | (simp; omega)))) | (with_reducible refine Below.trans ?_ (Below.mono hbE ?_); rotate_left; (focus (first | exact Nat.le_refl _ | omega | (simp; done) | (simp; omega)))) | (with_reducible refine Below.trans ?_ (Below.mono hbD ?_); rotate_left; (focus (first | exact Nat.le_refl _ | omega | (simp; done) | (simp; omega)))) | (with_reducible refine Below.trans ?_ (Below.mono hbC ?_); rotate_left; (focus (first | exact Nat.le_refl _ | omega | (simp; done) | (simp; omega)))) | (with_reducible refine Below.trans ?_ (Below.mono hbB ?_); rotate_left; (focus (first | exact Nat.le_refl _ | omega | (simp; done) | (simp; omega)))) | (with_reducible refine Below.trans ?_ (Below.mono hbA ?_); rotate_left; (focus (first | exact Nat.le_refl _ | omega | (simp; done) | (simp; omega))))))) (Nat.le_refl _)) hm (by omega) nZW.out (by rw [lZW.out]; omega) (by rw [lZW.out]; omega) HS0.out).mono ?_; (rintro e wB ⟨AB, cB, rfl, oB, hbB⟩; rw [lS0.out] at oB ⊢; have OB := Lib.hid oB; clear oB; have KB : Below V.heap.size V wB := (by (repeat (first | with_reducible assumption | with_reducible exact Below.refl _ _ | (with_reducible refine Below.alloc ?_ ?_ _; rotate_left; (focus (first | exact Nat.le_refl _ | omega | (simp; done) | (simp; omega)))) | (with_reducible refine Below.setCell ?_ ?_ _; rotate_left; (focus (first | exact Nat.le_refl _ | omega | (simp; done) | (simp; omega)))) | with_reducible refine below_drew ?_ | with_reducible refine below_drewN ?_ _ | (with_reducible refine Below.trans ?_ (Below.mono hbH ?_); rotate_left; (focus (first | exact Nat.le_refl _ | omega | (simp; done) | (simp; omega)))) | (with_reducible refine Below.trans ?_ (Below.mono hbG ?_); rotate_left; (focus (first | exact Nat.le_refl _ | omega | (simp; done) | (simp; omega)))) | (with_reducible refine Below.trans ?_ (Below.mono hbF ?_); rotate_left; (focus (first | exact Nat.le_refl _ | omega | (simp; done) | (simp; omega)))) | (with_reducible refine Below.trans ?_ (Below.mono hbE ?_); rotate_left; (focus (first | exact Nat.le_refl _ | omega | (simp; done) | (simp; omega)))) | (with_reducible refine Below.trans ?_ (Below.mono hbD ?_); rotate_left; (focus (first | exact Nat.le_refl _ | omega | (simp; done) | (simp; omega)))) | (with_reducible refine Below.trans ?_ (Below.mono hbC ?_); rotate_left; (focus (first | exact Nat.le_refl _ | omega | (simp; done) | (simp; omega)))) | (with_reducible refine Below.trans ?_ (Below.mono hbB ?_); rotate_left; (focus (first | exact Nat.le_refl _ | omega | (simp; done) | (simp; omega)))) | (with_reducible refine Below.trans ?_ (Below.mono hbA ?_); rotate_left; (focus (first | exact Nat.le_refl _ | omega | (simp; done) | (simp; omega))))))); have zB := KB.size; obtain ⟨hcB, hfB⟩ := bcell hbB; have qB := hbB.size; (try simp at qB); (first | (have yB0 : V.heap.size < wB.heap.size := (by omega)) | skip); (first | (have yB1 : wA.heap.size < wB.heap.size := (by omega)) | skip))) | (go_at_call 111; refine (times_any _ m m _ _ Z W ZW n _ _ (OZ.out.keep (C := V.heap.size) (by (repeat (first | with_reducible assumption | with_reducible exact Below.refl _ _ | (with_reducible refine Below.alloc ?_ ?_ _; rotate_left; (focus (first | exact Nat.le_refl _ | omega | (simp; done) | (simp; omega)))) | (with_reducible refine Below.setCell ?_ ?_ _; rotate_left; (focus (first | exact Nat.le_refl _ | omega | (simp; done) | (simp; omega)))) | with_reducible refine below_drew ?_ | with_reducible refine below_drewN ?_ _ | (with_reducible refine Below.trans ?_ (Below.mono hbH ?_); rotate_left; (focus (first | exact Nat.le_refl _ | omega | (simp; done) | (simp; omega)))) | (with_reducible refine Below.trans ?_ (Below.mono hbG ?_); rotate_left; (focus (first | exact Nat.le_refl _ | omega | (simp; done) | (simp; omega)))) | (with_reducible refine Below.trans ?_ (Below.mono hbF ?_); rotate_left; (focus (first | exact Nat.le_refl _ | omega | (simp; done) | (simp; omega)))) | (with_reducible refine Below.trans ?_ (Below.mono hbE ?_); rotate_left; (focus (first | exact Nat.le_refl _ | omega | (simp; done) | (simp; omega)))) | (with_reducible refine Below.trans ?_ (Below.mono hbD ?_); rotate_left; (focus (first | exact Nat.le_refl _ | omega | (simp; done) | (simp; omega)))) | (with_reducible refine Below.trans ?_ (Below.mono hbC ?_); rotate_left; (focus (first | exact Nat.le_refl _ | omega | (simp; done) | (simp; omega)))) | (with_reducible refine Below.trans ?_ (Below.mono hbB ?_); rotate_left; (focus (first | exact Nat.le_refl _ | omega | (simp; done) | (simp; omega)))) | (with_reducible refine Below.trans ?_ (Below.mono hbA ?_); rotate_left; (focus (first | exact Nat.le_refl _ | omega | (simp; done) | (simp; omega))))))) (Nat.le_refl _)) (OW.out.keep (C := V.heap.size) (by (repeat (first | with_reducible assumption | with_reducible exact Below.refl _ _ | (with_reducible refine Below.alloc ?_ ?_ _; rotate_left; (focus (first | exact Nat.le_refl _ | omega | (simp; done) | (simp; omega)))) | (with_reducible refine Below.setCell ?_ ?_ _; rotate_left; (focus (first | exact Nat.le_refl _ | omega | (simp; done) | (simp; omega)))) | with_reducible refine below_drew ?_ | with_reducible refine below_drewN ?_ _ | (with_reducible refine Below.trans ?_ (Below.mono hbH ?_); rotate_left; (focus (first | exact Nat.le_refl _ | omega | (simp; done) | (simp; omega)))) | (with_reducible refine Below.trans ?_ (Below.mono hbG ?_); rotate_left; (focus (first | exact Nat.le_refl _ | omega | (simp; done) | (simp; omega)))) | (with_reducible refine Below.trans ?_ (Below.mono hbF ?_); rotate_left; (focus (first | exact Nat.le_refl _ | omega | (simp; done) | (simp; omega)))) | (with_reducible refine Below.trans ?_ (Below.mono hbE ?_); rotate_left; (focus (first | exact Nat.le_refl _ | omega | (simp; done) | (simp; omega)))) | (with_reducible refine Below.trans ?_ (Below.mono hbD ?_); rotate_left; (focus (first | exact Nat.le_refl _ | omega | (simp; done) | (simp; omega)))) | (with_reducible refine Below.trans ?_ (Below.mono hbC ?_); rotate_left; (focus (first | exact Nat.le_refl _ | omega | (simp; done) | (simp; omega)))) | (with_reducible refine Below.trans ?_ (Below.mono hbB ?_); rotate_left; (focus (first | exact Nat.le_refl _ | omega | (simp; done) | (simp; omega)))) | (with_reducible refine Below.trans ?_ (Below.mono hbA ?_); rotate_left; (focus (first | exact Nat.le_refl _ | omega | (simp; done) | (simp; omega))))))) (Nat.le_refl _)) hm (by omega) nZ.out nW.out lZ.out lW.out (by omega) (by omega) HZW.out).mono ?_; (rintro e wA ⟨AA, cA, rfl, oA, hbA⟩; rw [lZW.out] at oA ⊢; have OA := Lib.hid oA; clear oA; have KA : Below V.heap.size V wA := (by (repeat (first | with_reducible assumption | with_reducible exact Below.refl _ _ | (with_reducible refine Below.alloc ?_ ?_ _; rotate_left; (focus (first | exact Nat.le_refl _ | omega | (simp; done) | (simp; omega)))) | (with_reducible refine Below.setCell ?_ ?_ _; rotate_left; (focus (first | exact Nat.le_refl _ | omega | (simp; done) | (simp; omega)))) | with_reducible refine below_drew ?_ | with_reducible refine below_drewN ?_ _ | (with_reducible refine Below.trans ?_ (Below.mono hbH ?_); rotate_left; (focus (first | exact Nat.le_refl _ | omega | (simp; done) | (simp; omega)))) | (with_reducible refine Below.trans ?_ (Below.mono hbG ?_); rotate_left; (focus (first | exact Nat.le_refl _ | omega | (simp; done) | (simp; omega)))) | (with_reducible refine Below.trans ?_ (Below.mono hbF ?_); rotate_left; (focus (first | exact Nat.le_refl _ | omega | (simp; done) | (simp; omega)))) | (with_reducible refine Below.trans ?_ (Below.mono hbE ?_); rotate_left; (focus (first | exact Nat.le_refl _ | omega | (simp; done) | (simp; omega)))) | (with_reducible refine Below.trans ?_ (Below.mono hbD ?_); rotate_left; (focus (first | exact Nat.le_refl _ | omega | (simp; done) | (simp; omega)))) | (with_reducible refine Below.trans ?_ (Below.mono hbC ?_); rotate_left; (focus (first | exact Nat.le_refl _ | omega | (simp; done) | (simp; omega)))) | (with_reducible refine Below.trans ?_ (Below.mono hbB ?_); rotate_left; (focus (first | exact Nat.le_refl _ | omega | (simp; done) | (simp; omega)))) | (with_reducible refine Below.trans ?_ (Below.mono hbA ?_); rotate_left; (focus (first | exact Nat.le_refl _ | omega | (simp; done) | (simp; omega))))))); have zA := KA.size; obtain ⟨hcA, hfA⟩ := bcell hbA; have qA := hbA.size; (try simp at qA); (first | (have yA0 : V.heap.size < wA.heap.size := (by omega)) | skip))))
        all_goals
          go_wp2_with fail
          go_meet
          refine ⟨_, AH, cH, rfl, ?_, ?_, ?_, ?_⟩
          · (first | omega | (simp; done) | (simp; omega) | (right; omega) | (right; simp; done) | (right; simp; omega) | (left; omega) | (left; simp; done) | (left; simp; omega) | (simp [World.setCell]; done) | (simp [World.setCell]; omega))
          · unfold Hid
            (repeat (first | with_reducible assumption | with_reducible exact Bf.alloc1 _ _ _ _ | (with_reducible refine Bf.allocAt ?_; simp; done) | (with_reducible refine Bf.setCell ?_ ?_ _; rotate_left; (focus (first | (simp; done) | (simp; omega)))) | with_reducible refine Bf.store2 (x := .int .i64 0) (y := .slice none 0 0) ?_ | with_reducible refine Bf.alloc ?_ _ | with_reducible refine Bf.drew2 ?_ | with_reducible refine Bf.keep ?_ hbH | with_reducible refine Bf.keep ?_ hbG | with_reducible refine Bf.keep ?_ hbF | with_reducible refine Bf.keep ?_ hbE | with_reducible refine Bf.keep ?_ hbD | with_reducible refine Bf.keep ?_ hbC | with_reducible refine Bf.keep ?_ hbB | with_reducible refine Bf.keep ?_ hbA))
          · unfold Hid
            apply OwnI.zero
            (repeat (first | with_reducible exact OH.out | with_reducible apply OwnI.farB | with_reducible apply OwnI.alloc))
            all_goals (first | omega | (simp; done) | (simp; omega) | (right; omega) | (right; simp; done) | (right; simp; omega) | (left; omega) | (left; simp; done) | (left; simp; omega) | (simp [World.setCell]; done) | (simp [World.setCell]; omega))
          · unfold Hid
            (repeat (first | with_reducible assumption | with_reducible exact Below.refl _ _ | (with_reducible refine Below.alloc ?_ ?_ _; rotate_left; (focus (first | exact Nat.le_refl _ | omega | (simp; done) | (simp; omega)))) | (with_reducible refine Below.setCell ?_ ?_ _; rotate_left; (focus (first | exact Nat.le_refl _ | omega | (simp; done) | (simp; omega)))) | with_reducible refine below_drew ?_ | with_reducible refine below_drewN ?_ _ | (with_reducible refine Below.trans ?_ (Below.mono hbH ?_); rotate_left; (focus (first | exact Nat.le_refl _ | omega | (simp; done) | (simp; omega)))) | (with_reducible refine Below.trans ?_ (Below.mono hbG ?_); rotate_left; (focus (first | exact Nat.le_refl _ | omega | (simp; done) | (simp; omega)))) | (with_reducible refine Below.trans ?_ (Below.mono hbF ?_); rotate_left; (focus (first | exact Nat.le_refl _ | omega | (simp; done) | (simp; omega)))) | (with_reducible refine Below.trans ?_ (Below.mono hbE ?_); rotate_left; (focus (first | exact Nat.le_refl _ | omega | (simp; done) | (simp; omega)))) | (with_reducible refine Below.trans ?_ (Below.mono hbD ?_); rotate_left; (focus (first | exact Nat.le_refl _ | omega | (simp; done) | (simp; omega)))) | (with_reducible refine Below.trans ?_ (Below.mono hbC ?_); rotate_left; (focus (first | exact Nat.le_refl _ | omega | (simp; done) | (simp; omega)))) | (with_reducible refine Below.trans ?_ (Below.mono hbB ?_); rotate_left; (focus (first | exact Nat.le_refl _ | omega | (simp; done) | (simp; omega)))) | (with_reducible refine Below.trans ?_ (Below.mono hbA ?_); rotate_left; (focus (first | exact Nat.le_refl _ | omega | (simp; done) | (simp; omega)))))) 
      case rest =>
        clear e1 e2 e3 e4 e5 e6 e7 e8 e9 e10
        obtain ⟨bn, ANx, cNx, rfl, hbn, HBN, HON, HK⟩ := hcut
        obtain ⟨bn', hbn'⟩ : ∃ x, x = bn := ⟨_, rfl⟩
        have zK := HK.out.size
        have zN := HBN.out.1.1
        have hbw0 : bw < V.heap.size := SW.1.1
        have SP2 := Lib.hid (SP.keep HK.out)
        have SZ2 := SZ.keep HK.out
        have SY2 := SY.keep HK.out
        have SX2 := SX.keep HK.out
        have SW2 := SW.keep HK.out
        have SQ2 := SQ.keep HK.out
        have TZ := Lib.hid (OZ.out.keep HK.out (Nat.le_refl _))
        have TY := Lib.hid (OZ2.out.keep HK.out (Nat.le_refl _))
        have TX := Lib.hid (OZ3.out.keep HK.out (Nat.le_refl _))
        have TW := Lib.hid (OW.out.keep HK.out (Nat.le_refl _))
        have TQ := Lib.hid (OW2.out.keep HK.out (Nat.le_refl _))
        have KU := KV.trans (HK.out.mono KV.size)
        have d3 := (HK.out.cell (p := ⟨b, 3, none⟩) hbV).trans D3
        have d4 := (HK.out.cell (p := ⟨b, 4, none⟩) hbV).trans D4
        have hUw : w.heap.size ≤ V.heap.size := KV.size
        clear SP SZ SY SX SW SQ OZ OZ2 OZ3 OW OW2 KV D0 D1 D2 D3 D4 zV1 zV2 hbn' bn'
        have hbnw : bw < bn := by omega
        have hbV2 := Nat.lt_of_lt_of_le hbV zK
        have zW2 : bw < wc.heap.size := by omega
        have hbb : b < bz := by omega
        clear HK hbn
        go_upto_region 9 with fail
        refine wp_region_growS (T := 17) (by kernel_rfl) (by kernel_rfl) (by kernel_rfl) rfl [some 54, some 55, some 56, some 57, some 58, some 59, some 60, some 61, some 62, some 63, some 64, some 65, some 66, some 67, some 68, some 69, some 70] (by kernel_rfl) m n [.val (.agg #[.int .i64 m, .slice ANx n cNx]), .val (.agg #[.int .i64 m, .slice Ab n cb]), .val (.agg #[.int .i64 m, .slice AQ n cQ]), .ser ZQ, .val (.slice (some ⟨b, 0, none⟩) 5 cp), .val (.pointer (some ⟨b, 3, none⟩)), .val (.int .i64 A3), .ser S3, .ser N4, .val (.agg #[.int .i64 m, .slice AQ n cQ]), .val (.agg #[.int .i64 m, .slice Aw n cw]), .ser W3, .val (.slice (some ⟨b, 0, none⟩) 5 cp), .val (.pointer (some ⟨b, 4, none⟩)), .val (.int .i64 A4), .ser S4, .ser N5] 16 (by decide) N5 rfl ?_ ?_
        · refine And.intro ?_ (And.intro ?_ (And.intro ?_ (And.intro ?_ (And.intro ?_ (And.intro ?_ (And.intro ?_ (And.intro ?_ (And.intro ?_ (And.intro ?_ (And.intro ?_ (And.intro ?_ (And.intro ?_ (And.intro ?_ (And.intro ?_ (And.intro ?_ (And.intro ?_ trivial))))))))))))))))
          · show stepG _ _ _ _ _ 0 _; intro V LO HI w9 A hA hb9 hd K hk; have f12 : A.tmps[12]? = some (.pointer (some ⟨bn, 0, none⟩)) := (hA.base 12 (by kernel_rfl)).trans (by rfl); have q1 := (HBN.out.keep hb9).1.2.1; have q2 := (HBN.out.keep hb9).1.2.2; go_simp; exact hk _ w9 _ _ (Nat.le_refl _) (Nat.le_refl _) (Nat.le_refl _) (Below.refl _ _) rfl
          · show stepG _ _ _ _ _ 1 _; intro V LO HI w9 A hA hb9 hd K hk; have f7 : A.tmps[7]? = some (.pointer (some ⟨bz, 0, none⟩)) := (hA.base 7 (by kernel_rfl)).trans (by rfl); have q1 := (SZ2.keep hb9).1.2.1; have q2 := (SZ2.keep hb9).1.2.2; go_simp; exact hk _ w9 _ _ (Nat.le_refl _) (Nat.le_refl _) (Nat.le_refl _) (Below.refl _ _) rfl
          · show stepG _ _ _ _ _ 2 _; intro V LO HI w9 A hA hb9 hd K hk; have f11 : A.tmps[11]? = some (.pointer (some ⟨bq, 0, none⟩)) := (hA.base 11 (by kernel_rfl)).trans (by rfl); have q1 := (SQ2.keep hb9).1.2.1; have q2 := (SQ2.keep hb9).1.2.2; go_simp; exact hk _ w9 _ _ (Nat.le_refl _) (Nat.le_refl _) (Nat.le_refl _) (Below.refl _ _) rfl
          · show stepG _ _ _ _ _ 3 _; intro V LO HI w9 A hA hb9 hd K hk; have f55 : A.tmps[55]? = some (.agg #[.int .i64 m, .slice Ab n cb]) := (hA.own 1 55 (by kernel_rfl) (by omega)).trans (congrArg some (show V 1 = _ from (hd ⟨1, .data⟩ (by simp) rfl).1)); have f56 : A.tmps[56]? = some (.agg #[.int .i64 m, .slice AQ n cQ]) := (hA.own 2 56 (by kernel_rfl) (by omega)).trans (congrArg some (show V 2 = _ from (hd ⟨2, .data⟩ (by simp) rfl).1)); go_simp; refine (times_any w9 m m _ _ Z W2 ZQ n _ _ (TZ.out.keep hb9 (Nat.le_refl _)) (TQ.out.keep hb9 (Nat.le_refl _)) hm (by omega) nZ.out nW2.out lZ.out lW2.out (by omega) (by omega) HZQ.out).mono ?_; rintro e w2 ⟨Y, y, rfl, oy, hby⟩; rw [lZQ.out] at oy ⊢; exact hk _ w2 _ _ (Nat.le_refl _) hby.size (Nat.le_refl _) hby ⟨Y, y, rfl, oy⟩
          · show stepG _ _ _ _ _ 4 _; intro V LO HI w9 A hA hb9 hd K hk; have f2 : A.tmps[2]? = some (.slice (some ⟨b, 0, none⟩) 5 cp) := (hA.base 2 (by kernel_rfl)).trans (by rfl); go_simp; exact hk _ w9 _ _ (Nat.le_refl _) (Nat.le_refl _) (Nat.le_refl _) (Below.refl _ _) rfl
          · show stepG _ _ _ _ _ 5 _; intro V LO HI w9 A hA hb9 hd K hk; have f58 : A.tmps[58]? = some (.slice (some ⟨b, 0, none⟩) 5 cp) := (hA.own 4 58 (by kernel_rfl) (by omega)).trans (congrArg some (show V 4 = _ from (hd ⟨4, .data⟩ (by simp) rfl).1)); go_simp; exact hk _ w9 _ _ (Nat.le_refl _) (Nat.le_refl _) (Nat.le_refl _) (Below.refl _ _) rfl
          · show stepG _ _ _ _ _ 6 _; intro V LO HI w9 A hA hb9 hd K hk; have f59 : A.tmps[59]? = some (.pointer (some ⟨b, 3, none⟩)) := (hA.own 5 59 (by kernel_rfl) (by omega)).trans (congrArg some (show V 5 = _ from (hd ⟨5, .data⟩ (by simp) rfl).1)); have q1 := (hb9.cell (p := ⟨b, 3, none⟩) hbV2).trans d3; go_simp; exact hk _ w9 _ _ (Nat.le_refl _) (Nat.le_refl _) (Nat.le_refl _) (Below.refl _ _) rfl
          · show stepG _ _ _ _ _ 7 _; intro V LO HI w9 A hA hb9 hd K hk; obtain ⟨X3, x3, v3, o3⟩ := (hd ⟨3, .data⟩ (by simp) rfl).1; have f57 := (hA.own 3 57 (by kernel_rfl) (by omega)).trans (congrArg some v3); have f60 : A.tmps[60]? = some (.int .i64 A3) := (hA.own 6 60 (by kernel_rfl) (by omega)).trans (congrArg some (show V 6 = _ from (hd ⟨6, .data⟩ (by simp) rfl).1)); go_simp; refine (scaled_any w9 m _ ZQ S3 A3 _ o3 hm (by omega) nZQ.out (by rw [lZQ.out]; omega) (by rw [lZQ.out]; omega) HS3.out).mono ?_; rintro e w2 ⟨Y, y, rfl, oy, hby⟩; rw [lS3.out] at oy ⊢; exact hk _ w2 _ _ (Nat.le_refl _) hby.size (Nat.le_refl _) hby ⟨Y, y, rfl, oy⟩
          · show stepG _ _ _ _ _ 8 _; intro V LO HI w9 A hA hb9 hd K hk; have f54 : A.tmps[54]? = some (.agg #[.int .i64 m, .slice ANx n cNx]) := (hA.own 0 54 (by kernel_rfl) (by omega)).trans (congrArg some (show V 0 = _ from (hd ⟨0, .data⟩ (by simp) rfl).1)); obtain ⟨X7, x7, v7, o7⟩ := (hd ⟨7, .data⟩ (by simp) rfl).1; have f61 := (hA.own 7 61 (by kernel_rfl) (by omega)).trans (congrArg some v7); go_simp; refine (serPlus_any w9 m m _ _ N3 S3 N4 n _ _ (HON.out.keep hb9 (Nat.le_refl _)) o7 hm (by omega) nN3.out nS3.out lN3.out lS3.out (by omega) (by omega) HN4.out).mono ?_; rintro e w2 ⟨Y, y, rfl, oy, hby⟩; rw [lN4.out] at oy ⊢; exact hk _ w2 _ _ (Nat.le_refl _) hby.size (Nat.le_refl _) hby ⟨Y, y, rfl, oy⟩
          · show stepG _ _ _ _ _ 9 _; intro V LO HI w9 A hA hb9 hd K hk; have f11 : A.tmps[11]? = some (.pointer (some ⟨bq, 0, none⟩)) := (hA.base 11 (by kernel_rfl)).trans (by rfl); have q1 := (SQ2.keep hb9).1.2.1; have q2 := (SQ2.keep hb9).1.2.2; go_simp; exact hk _ w9 _ _ (Nat.le_refl _) (Nat.le_refl _) (Nat.le_refl _) (Below.refl _ _) rfl
          · show stepG _ _ _ _ _ 10 _; intro V LO HI w9 A hA hb9 hd K hk; have f10 : A.tmps[10]? = some (.pointer (some ⟨bw, 0, none⟩)) := (hA.base 10 (by kernel_rfl)).trans (by rfl); have q1 := (SW2.keep hb9).1.2.1; have q2 := (SW2.keep hb9).1.2.2; go_simp; exact hk _ w9 _ _ (Nat.le_refl _) (Nat.le_refl _) (Nat.le_refl _) (Below.refl _ _) rfl
          · show stepG _ _ _ _ _ 11 _; intro V LO HI w9 A hA hb9 hd K hk; have f63 : A.tmps[63]? = some (.agg #[.int .i64 m, .slice AQ n cQ]) := (hA.own 9 63 (by kernel_rfl) (by omega)).trans (congrArg some (show V 9 = _ from (hd ⟨9, .data⟩ (by simp) rfl).1)); have f64 : A.tmps[64]? = some (.agg #[.int .i64 m, .slice Aw n cw]) := (hA.own 10 64 (by kernel_rfl) (by omega)).trans (congrArg some (show V 10 = _ from (hd ⟨10, .data⟩ (by simp) rfl).1)); go_simp; refine (times_any w9 m m _ _ W2 W W3 n _ _ (TQ.out.keep hb9 (Nat.le_refl _)) (TW.out.keep hb9 (Nat.le_refl _)) hm (by omega) nW2.out nW.out lW2.out lW.out (by omega) (by omega) HW3.out).mono ?_; rintro e w2 ⟨Y, y, rfl, oy, hby⟩; rw [lW3.out] at oy ⊢; exact hk _ w2 _ _ (Nat.le_refl _) hby.size (Nat.le_refl _) hby ⟨Y, y, rfl, oy⟩
          · show stepG _ _ _ _ _ 12 _; intro V LO HI w9 A hA hb9 hd K hk; have f2 : A.tmps[2]? = some (.slice (some ⟨b, 0, none⟩) 5 cp) := (hA.base 2 (by kernel_rfl)).trans (by rfl); go_simp; exact hk _ w9 _ _ (Nat.le_refl _) (Nat.le_refl _) (Nat.le_refl _) (Below.refl _ _) rfl
          · show stepG _ _ _ _ _ 13 _; intro V LO HI w9 A hA hb9 hd K hk; have f66 : A.tmps[66]? = some (.slice (some ⟨b, 0, none⟩) 5 cp) := (hA.own 12 66 (by kernel_rfl) (by omega)).trans (congrArg some (show V 12 = _ from (hd ⟨12, .data⟩ (by simp) rfl).1)); go_simp; exact hk _ w9 _ _ (Nat.le_refl _) (Nat.le_refl _) (Nat.le_refl _) (Below.refl _ _) rfl
          · show stepG _ _ _ _ _ 14 _; intro V LO HI w9 A hA hb9 hd K hk; have f67 : A.tmps[67]? = some (.pointer (some ⟨b, 4, none⟩)) := (hA.own 13 67 (by kernel_rfl) (by omega)).trans (congrArg some (show V 13 = _ from (hd ⟨13, .data⟩ (by simp) rfl).1)); have q1 := (hb9.cell (p := ⟨b, 4, none⟩) hbV2).trans d4; go_simp; exact hk _ w9 _ _ (Nat.le_refl _) (Nat.le_refl _) (Nat.le_refl _) (Below.refl _ _) rfl
          · show stepG _ _ _ _ _ 15 _; intro V LO HI w9 A hA hb9 hd K hk; obtain ⟨X11, x11, v11, o11⟩ := (hd ⟨11, .data⟩ (by simp) rfl).1; have f65 := (hA.own 11 65 (by kernel_rfl) (by omega)).trans (congrArg some v11); have f68 : A.tmps[68]? = some (.int .i64 A4) := (hA.own 14 68 (by kernel_rfl) (by omega)).trans (congrArg some (show V 14 = _ from (hd ⟨14, .data⟩ (by simp) rfl).1)); go_simp; refine (scaled_any w9 m _ W3 S4 A4 _ o11 hm (by omega) nW3.out (by rw [lW3.out]; omega) (by rw [lW3.out]; omega) HS4.out).mono ?_; rintro e w2 ⟨Y, y, rfl, oy, hby⟩; rw [lS4.out] at oy ⊢; exact hk _ w2 _ _ (Nat.le_refl _) hby.size (Nat.le_refl _) hby ⟨Y, y, rfl, oy⟩
          · show stepG _ _ _ _ _ 16 _; intro V LO HI w9 A hA hb9 hd K hk; obtain ⟨X8, x8, v8, o8⟩ := (hd ⟨8, .data⟩ (by simp) rfl).1; have f62 := (hA.own 8 62 (by kernel_rfl) (by omega)).trans (congrArg some v8); obtain ⟨X15, x15, v15, o15⟩ := (hd ⟨15, .data⟩ (by simp) rfl).1; have f69 := (hA.own 15 69 (by kernel_rfl) (by omega)).trans (congrArg some v15); go_simp; refine (serPlus_any w9 m m _ _ N4 S4 N5 n _ _ o8 o15 hm (by omega) nN4.out nS4.out lN4.out lS4.out (by omega) (by omega) HN5.out).mono ?_; rintro e w2 ⟨Y, y, rfl, oy, hby⟩; rw [lN5.out] at oy ⊢; exact hk _ w2 _ _ (Nat.le_refl _) hby.size (Nat.le_refl _) hby ⟨Y, y, rfl, oy⟩
        · intro AN cN lo V w9 v16 ON hlo KN K hK
          have gN := SW2.keep KN
          have g1 := gN.1.2.1
          have g2 := gN.1.2.2
          have g3 := gN.2.1
          have g4 := gN.2.2
          have zN9 := KN.size
          have FN : Off (.slice AN n cN) bw := ON.off (.inl (by omega))
          have ON2 := Lib.hid (ON.mono (B' := w.heap.size + 1) (by omega))
          clear ON hlo
          simp only [putsD, put_lit, List.set_cons_zero, List.set_cons_succ, Nat.reduceAdd, Nat.zero_add]
          simp only [v16]
          clear v16
          go_simp
          refine hK _ _ ?_
          clear hK
          go_wp2
          go_roundw
          case rel => exact ⟨k + 1, AN, cN, by omega, by go_num, (((SP2.out.keep KN).setCell (by simp; omega) _).setCell (by simp; omega) _), (((SZ2.keep KN).setCell (by simp; omega) _).setCell (by simp; omega) _), (((SY2.keep KN).setCell (by simp; omega) _).setCell (by simp; omega) _), (((SX2.keep KN).setCell (by simp; omega) _).setCell (by simp; omega) _), (SW2.keep KN).store2, (TZ.out.keep KN (Nat.le_refl _)).store FZ, (TY.out.keep KN (Nat.le_refl _)).store FY, (TX.out.keep KN (Nat.le_refl _)).store FX, (by unfold Hid; rw [HFIN.out]; exact ON2.out.store FN), FN, ((KU.trans (KN.mono KU.size)).setCell (by simp; omega) _).setCell (by simp; omega) _⟩
          case measure => first | (simp [intOf]; done) | (simp [intOf]; omega)
    · have hkn : k = n - 1 := by omega
      have hR := HOW.out
      rw [hkn, weiI_all hm, HY.out] at hR
      have hd5 : decide ((k : Int) < (n : Int) - 1) = false := by simp; omega
      have w1a := HBW.out.1.2.1
      have w1b := HBW.out.1.2.2
      have q1 := HP.out.1.2.1
      have q2 := HP.out.1.2.2
      have q3 := HP.out.2.1
      have q4 := HP.out.2.2
      have zP := HP.out.1.1
      clear hkn
      go_wp2
      refine bodyPost_ret (v := .agg #[.int .i64 m, .slice Aw n cw]) (by simp [results, Try.results79, go_sem, q1, q2]) rfl ⟨Aw, cw, by rw [HYL.out], ?_, ?_⟩
      · rw [HYL.out]
        have h9 := (hR.farB (p := ⟨w.heap.size, 0, none⟩) (u := .int .i64 m) (.inl (by show w.heap.size < w.heap.size + 1; omega))).farB (p := ⟨w.heap.size, 1, none⟩) (u := .slice Aw n cw) (.inl (by show w.heap.size < w.heap.size + 1; omega))
        exact h9.mono (by omega)
      · exact (HB.out.setCell (by first | (simp; done) | (simp; omega)) _).setCell (by first | (simp; done) | (simp; omega)) _

/-! ### WeierstrassSeries: the two functions -/
theorem stdB_true {m d : Int} {xs : List Int} (h : stdB m d xs = true) : (2 ≤ m ∧ m ≤ 10000) ∧ (1 ≤ d ∧ d ≤ 10) ∧ numsB m xs = true := by
  simp only [stdB, Bool.and_eq_true] at h
  exact ⟨isModB_true h.1.1, inB_true.1 h.1.2, h.2⟩
theorem numsB_numL {m : Int} {xs : List Int} (hm : 0 < m) (h : numsB m xs = true) : NumL m xs := by
  intro k
  rcases Nat.lt_or_ge k xs.length with hk | hk
  · rw [List.getD_eq_getElem?_getD, List.getElem?_eq_getElem hk]
    unfold numsB at h
    rw [List.all_eq_true] at h
    exact isNumB_true (h _ (List.getElem_mem hk))
  · rw [List.getD_eq_getElem?_getD, List.getElem?_eq_none hk]
    simp
    omega
theorem weiB_true {m d : Int} {xs : List Int} (h : weiB m d xs = true) : xs.length = 5 ∧ (2 ≤ m ∧ m ≤ 10000) ∧ (1 ≤ d ∧ d ≤ 10) ∧ NumL m xs := by
  simp only [weiB, Bool.and_eq_true, beq_iff_eq] at h
  obtain ⟨h1, h2⟩ := h
  obtain ⟨a, b, c⟩ := stdB_true h2
  exact ⟨h1, a, b, numsB_numL (by omega) c⟩
def WeierstrassSeriesR (m d : Int) (xs : List Int) : (Int × List Int) × Int :=
  if weiB m d xs = true then ((m, weiL m (d + 1).toNat (co xs)), 0) else ((0, []), 2)
theorem WeierstrassSeriesR_len (m d : Int) (xs : List Int) : (WeierstrassSeriesR m d xs).1.2.length ≤ 100 := by
  unfold WeierstrassSeriesR
  cases h : weiB m d xs
  · simp
  · have := weiB_true h
    simp [weiL, length_lst]
    omega
theorem sWeierstrassSeriesR_any (w : World) (m d : Int) (v : Value) (xs : List Int) (B : Nat) (hv : OwnI w B v xs) (hl : xs.length ≤ 2000000) : Calls Try.prog 38 #[.int .i64 m, .int .i64 d, v] w (RetSI w (WeierstrassSeriesR m d xs)) := by
  cases hs : weiB m d xs
  · have HF : WeierstrassSeriesR m d xs = ((0, []), 2) := by simp [WeierstrassSeriesR, hs]
    rw [HF]
    have HS := Lib.hid hs
    clear HF hs
    go_enter Try.func38, Try.ntmps38
    go_wp2_with (go_at_call 76; refine (l08List_any m d _ _ xs B (hv.alloc _)).mono ?_; rintro e w1 ⟨rfl, hb1⟩; rw [HS.out]; have ⟨P1, K1⟩ := Bf.first1 hb1; have p1a := P1.1.2.1; have p1b := P1.1.2.2; have z1 := P1.1.1; have p1c := P1.2.1; have p1d := P1.2.2)
    exact bodyPost_ret (v := .tuple #[.agg #[.int .i64 0, .slice none 0 0], .int .i64 2]) (by simp [results, Try.results38, go_sem, p1a, p1b]) rfl ⟨none, 0, rfl, OwnI.nil_ _ _, by (repeat (first | assumption | exact Below.refl _ _ | refine Below.alloc ?_ (by first | omega | (simp; done) | (simp; omega)) _ | refine Below.setCell ?_ (by first | omega | (simp; done) | (simp; omega)) _ | refine below_drewN ?_ _))⟩
  · obtain ⟨hx, hm, hdb, hn⟩ := weiB_true hs
    obtain ⟨n, hnn⟩ : ∃ n : Nat, d + 1 = (n : Int) := ⟨(d + 1).toNat, by omega⟩
    obtain ⟨ys, hy⟩ : ∃ ys, weiL m n (co xs) = ys := ⟨_, rfl⟩
    have hyl : ys.length = n := by rw [← hy]; simp [weiL, length_lst]
    have HF : WeierstrassSeriesR m d xs = ((m, ys), 0) := by simp only [WeierstrassSeriesR, hs, hnn, Int.toNat_natCast, hy]; simp
    rw [HF]
    have HS := Lib.hid hs
    have HY := Lib.hid hy
    have HL := Lib.hid hyl
    have HX := Lib.hid hx
    have HD := Lib.hid hnn
    clear HF hs hy hyl hx hnn
    go_enter Try.func38, Try.ntmps38
    go_wp2_with (first | (go_at_call 76; refine (l08List_any m d _ _ xs B (hv.alloc _)).mono ?_; rintro e w1 ⟨rfl, hb1⟩; rw [HS.out]; have ⟨P1, K1⟩ := Bf.first1 hb1; have p1a := P1.1.2.1; have p1b := P1.1.2.2; have z1 := P1.1.1; have O1 := Lib.hid (hv.keep K1 (Nat.le_refl _))) | (go_at_call 77; refine (l08Series_any _ m d _ xs ys n B O1.out HX.out hm.1 hm.2 hn HD.out (by have := HD.out; omega) (by have := HD.out; omega) HY.out).mono ?_; rintro e w2 ⟨A2, c2, rfl, o2, hb2⟩; rw [HL.out] at o2 ⊢; have O2 := Lib.hid o2; clear o2; have P2 := P1.keep hb2; have K2 := K1.trans (hb2.mono K1.size); clear p1a p1b) | (go_at_call 51; refine (l02Make_any _ m A2 n c2).mono ?_; rintro e w3 ⟨rfl, hb3⟩; have P3 := P2.keep hb3; have p3a := P3.1.2.1; have p3b := P3.1.2.2; have p3c := P3.2.1; have p3d := P3.2.2; have z3 := P3.1.1; have K3 := K2.trans (hb3.mono K2.size); have O3 := Lib.hid (O2.out.keep hb3 (Nat.le_refl _))))
    exact bodyPost_ret (v := .tuple #[.agg #[.int .i64 m, .slice A2 n c2], .int .i64 0]) (by simp [results, Try.results38, go_sem, p3a, p3b]) rfl ⟨A2, c2, by rw [HL.out], by rw [HL.out]; exact ((O3.out.farB (p := ⟨w.heap.size, 0, none⟩) (.inl (by show w.heap.size < _; omega))).farB (p := ⟨w.heap.size, 1, none⟩) (.inl (by show w.heap.size < _; omega))).mono (by have := K1.size; omega), (K3.setCell (by simp) _).setCell (by simp) _⟩
theorem iWeierstrassSeriesR_any (w : World) (m d : Int) (v : Value) (xs : List Int) (B : Nat) (hv : OwnI w B v xs) (hl : xs.length ≤ 2000000) : Calls Try.prog 39 #[.int .i64 m, .int .i64 d, v] w (RetSI w (WeierstrassSeriesR m d xs)) := by
  cases hs : weiB m d xs
  · have HF : WeierstrassSeriesR m d xs = ((0, []), 2) := by simp [WeierstrassSeriesR, hs]
    rw [HF]
    have HS : Hid (weiN m d xs = 2) := by simp [Hid, weiN, hs]
    clear HF hs
    go_enter Try.func39, Try.ntmps39
    go_wp2_with (go_at_call 78; refine (fived_any m d _ _ xs B (hv.alloc _)).mono ?_; rintro e w1 ⟨rfl, hb1⟩; rw [HS.out]; have ⟨P1, K1⟩ := Bf.first1 hb1; have p1a := P1.1.2.1; have p1b := P1.1.2.2; have z1 := P1.1.1; have p1c := P1.2.1; have p1d := P1.2.2)
    exact bodyPost_ret (v := .tuple #[.agg #[.int .i64 0, .slice none 0 0], .int .i64 2]) (by simp [results, Try.results39, go_sem, p1a, p1b]) rfl ⟨none, 0, rfl, OwnI.nil_ _ _, by (repeat (first | assumption | exact Below.refl _ _ | refine Below.alloc ?_ (by first | omega | (simp; done) | (simp; omega)) _ | refine Below.setCell ?_ (by first | omega | (simp; done) | (simp; omega)) _ | refine below_drewN ?_ _))⟩
  · obtain ⟨hx, hm, hdb, hn⟩ := weiB_true hs
    obtain ⟨n, hnn⟩ : ∃ n : Nat, d + 1 = (n : Int) := ⟨(d + 1).toNat, by omega⟩
    obtain ⟨ys, hy⟩ : ∃ ys, weiL m n (co xs) = ys := ⟨_, rfl⟩
    have hyl : ys.length = n := by rw [← hy]; simp [weiL, length_lst]
    have HF : WeierstrassSeriesR m d xs = ((m, ys), 0) := by simp only [WeierstrassSeriesR, hs, hnn, Int.toNat_natCast, hy]; simp
    rw [HF]
    have HS : Hid (weiN m d xs = 0) := by simp [Hid, weiN, hs]
    have HY := Lib.hid hy
    have HL := Lib.hid hyl
    have HX := Lib.hid hx
    have HD := Lib.hid hnn
    clear HF hs hy hyl hx hnn
    go_enter Try.func39, Try.ntmps39
    go_wp2_with (first | (go_at_call 78; refine (fived_any m d _ _ xs B (hv.alloc _)).mono ?_; rintro e w1 ⟨rfl, hb1⟩; rw [HS.out]; have ⟨P1, K1⟩ := Bf.first1 hb1; have p1a := P1.1.2.1; have p1b := P1.1.2.2; have z1 := P1.1.1; have O1 := Lib.hid (hv.keep K1 (Nat.le_refl _))) | (go_at_call 79; refine (weierstrass_any _ m d _ xs ys n B O1.out HX.out hm.1 hm.2 HD.out (by have := HD.out; omega) (by have := HD.out; omega) HY.out).mono ?_; rintro e w2 ⟨A2, c2, rfl, o2, hb2⟩; rw [HL.out] at o2 ⊢; have O2 := Lib.hid o2; clear o2; have P2 := P1.keep hb2; have K2 := K1.trans (hb2.mono K1.size); clear p1a p1b; have p3a := P2.1.2.1; have p3b := P2.1.2.2; have p3c := P2.2.1; have p3d := P2.2.2; have z3 := P2.1.1))
    exact bodyPost_ret (v := .tuple #[.agg #[.int .i64 m, .slice A2 n c2], .int .i64 0]) (by simp [results, Try.results39, go_sem, p3a, p3b]) rfl ⟨A2, c2, by rw [HL.out], by rw [HL.out]; exact ((O2.out.farB (p := ⟨w.heap.size, 0, none⟩) (.inl (by show w.heap.size < _; omega))).farB (p := ⟨w.heap.size, 1, none⟩) (.inl (by show w.heap.size < _; omega))).mono (by have := K1.size; omega), (K2.setCell (by simp) _).setCell (by simp) _⟩

/-! ### The laws' walks, printed by genlaw2.py -/
set_option maxHeartbeats 4000000 in
theorem FnExactWeierstrassSeries_walk (w : World) (a0 : Int) (a1 : Int) (v2 : Value) (xs2 : List Int) (hv2 : RdI w v2 xs2) : Calls Try.prog 10 #[.int .i64 a0, .int .i64 a1, v2] w fun e w' => e = .returned (.bool true) ∧ Below w.heap.size w w' := by
  obtain ⟨A2, c2, e2⟩ := hv2.form
  subst e2
  obtain ⟨r0, HR⟩ : ∃ r0, Hid (WeierstrassSeriesR a0 a1 xs2 = r0) := ⟨_, rfl⟩
  obtain ⟨⟨rm, rl⟩, rc⟩ := r0
  have hlen := WeierstrassSeriesR_len a0 a1 xs2
  rw [HR.out] at hlen
  simp only at hlen
  by_cases hz2 : 1048576 < (xs2.length : Int)
  · skip
    have hz2' : (1048576 : Int) < (xs2.length : Int) := hz2
    go_enter Try.func10, Try.ntmps10
    go_wp2
    go_ret
    exact ⟨rfl, by (repeat (first | assumption | exact Below.refl _ _ | refine Below.alloc ?_ (by first | omega | (simp; done) | (simp; omega)) _ | refine Below.setCell ?_ (by first | omega | (simp; done) | (simp; omega)) _ | refine below_drewN ?_ _))⟩
  have hl2 : (xs2.length : Int) ≤ 1048576 := by omega
  go_enter Try.func10, Try.ntmps10
  go_wp2_with fail
  refine (toL_any _ _ xs2 (hv2.below (by (repeat (first | assumption | exact Below.refl _ _ | refine Below.alloc ?_ (by first | omega | (simp; done) | (simp; omega)) _ | refine Below.setCell ?_ (by first | omega | (simp; done) | (simp; omega)) _ | refine below_drewN ?_ _)))) (by omega)).mono ?_
  rintro e w1 ⟨A_p2, c_p2, rfl, o_p2, hb1⟩
  have o_p2' := (o_p2.toB).mono (show w.heap.size ≤ _ from by first | exact Nat.le_refl _ | (simp; done) | (simp; omega)) (Nat.le_refl _)
  clear o_p2
  have R : Below w.heap.size w w1 := Below.trans (by (repeat (first | assumption | exact Below.refl _ _ | refine Below.alloc ?_ (by first | omega | (simp; done) | (simp; omega)) _ | refine Below.setCell ?_ (by first | omega | (simp; done) | (simp; omega)) _ | refine below_drewN ?_ _))) (hb1.mono (by first | exact Nat.le_refl _ | (simp; done) | (simp; omega)))
  have s1 : w.heap.size ≤ w1.heap.size := R.size
  have K1 : Hid (Below w.heap.size w w1) := R
  clear R hb1
  have p2 : Hid (OwnB w1 w.heap.size w1.heap.size (.slice A_p2 xs2.length c_p2) xs2) := o_p2'
  clear o_p2'
  go_wp2_with fail
  refine (sWeierstrassSeriesR_any _ a0 a1 (.slice A_p2 xs2.length c_p2) xs2 w.heap.size (p2.out.keep (by (repeat (first | assumption | exact Below.refl _ _ | refine Below.alloc ?_ (by first | omega | (simp; done) | (simp; omega)) _ | refine Below.setCell ?_ (by first | omega | (simp; done) | (simp; omega)) _ | refine below_drewN ?_ _)))).1 (by omega)).mono ?_
  rintro e w2 h_r
  replace h_r := h_r.of HR
  obtain ⟨A_ow, c_ow, rfl, o_ow, hb2⟩ := h_r
  have o_ow' := (o_ow.toB).mono (show w1.heap.size ≤ _ from by first | exact Nat.le_refl _ | (simp; done) | (simp; omega)) (Nat.le_refl _)
  clear o_ow
  have R : Below w1.heap.size w1 w2 := Below.trans (by (repeat (first | assumption | exact Below.refl _ _ | refine Below.alloc ?_ (by first | omega | (simp; done) | (simp; omega)) _ | refine Below.setCell ?_ (by first | omega | (simp; done) | (simp; omega)) _ | refine below_drewN ?_ _))) (hb2.mono (by first | exact Nat.le_refl _ | (simp; done) | (simp; omega)))
  have s2 : w1.heap.size ≤ w2.heap.size := R.size
  have K2 : Hid (Below w.heap.size w w2) := K1.out.trans (R.mono (by omega))
  replace p2 : Hid (OwnB w2 w.heap.size w1.heap.size (.slice A_p2 xs2.length c_p2) xs2) := p2.out.keep R
  clear R hb2
  have ow : Hid (OwnB w2 w1.heap.size w2.heap.size (.slice A_ow rl.length c_ow) rl) := o_ow'
  clear o_ow'
  clear p2
  go_wp2_with fail
  refine (toL_any _ _ xs2 (hv2.below (K2.out.trans (Below.mono (by (repeat (first | assumption | exact Below.refl _ _ | refine Below.alloc ?_ (by first | omega | (simp; done) | (simp; omega)) _ | refine Below.setCell ?_ (by first | omega | (simp; done) | (simp; omega)) _ | refine below_drewN ?_ _))) (by omega)))) (by omega)).mono ?_
  rintro e w3 ⟨A_x2, c_x2, rfl, o_x2, hb3⟩
  have o_x2' := (o_x2.toB).mono (show (w2.heap.size + 1) ≤ _ from by first | exact Nat.le_refl _ | (simp; done) | (simp; omega)) (Nat.le_refl _)
  clear o_x2
  have R : Below w2.heap.size w2 w3 := Below.trans (by (repeat (first | assumption | exact Below.refl _ _ | refine Below.alloc ?_ (by first | omega | (simp; done) | (simp; omega)) _ | refine Below.setCell ?_ (by first | omega | (simp; done) | (simp; omega)) _ | refine below_drewN ?_ _))) (hb3.mono (by first | exact Nat.le_refl _ | (simp; done) | (simp; omega)))
  have s3 : w2.heap.size ≤ w3.heap.size := R.size
  have K3 : Hid (Below w.heap.size w w3) := K2.out.trans (R.mono (by omega))
  replace ow : Hid (OwnB w3 w1.heap.size w2.heap.size (.slice A_ow rl.length c_ow) rl) := ow.out.keep R
  have bw : Hid (Bx w3 w2.heap.size (.int .i64 rm) (.slice A_ow rl.length c_ow)) := ⟨by have := hb3.size; simp at this; omega, by rw [hb3.cell (by first | (simp; done) | (simp; omega))]; simp, by rw [hb3.cell (by first | (simp; done) | (simp; omega))]; simp⟩
  have bw_lt := bw.out.1
  clear R hb3
  have x2 : Hid (OwnB w3 (w2.heap.size + 1) w3.heap.size (.slice A_x2 xs2.length c_x2) xs2) := o_x2'
  clear o_x2'
  have bw_c := bw.out.2.1
  have bw_d := bw.out.2.2
  have bw_z := bw.out.1
  go_wp2_with fail
  refine (iWeierstrassSeriesR_any _ a0 a1 (.slice A_x2 xs2.length c_x2) xs2 (w2.heap.size + 1) (x2.out.keep (by (repeat (first | assumption | exact Below.refl _ _ | refine Below.alloc ?_ (by first | omega | (simp; done) | (simp; omega)) _ | refine Below.setCell ?_ (by first | omega | (simp; done) | (simp; omega)) _ | refine below_drewN ?_ _)))).1 (by omega)).mono ?_
  rintro e w4 h_r
  replace h_r := h_r.of HR
  obtain ⟨A_og, c_og, rfl, o_og, hb4⟩ := h_r
  have o_og' := (o_og.toB).mono (show w3.heap.size ≤ _ from by first | exact Nat.le_refl _ | (simp; done) | (simp; omega)) (Nat.le_refl _)
  clear o_og
  clear bw_c bw_d bw_z
  have R : Below w3.heap.size w3 w4 := Below.trans (by (repeat (first | assumption | exact Below.refl _ _ | refine Below.alloc ?_ (by first | omega | (simp; done) | (simp; omega)) _ | refine Below.setCell ?_ (by first | omega | (simp; done) | (simp; omega)) _ | refine below_drewN ?_ _))) (hb4.mono (by first | exact Nat.le_refl _ | (simp; done) | (simp; omega)))
  have s4 : w3.heap.size ≤ w4.heap.size := R.size
  have K4 : Hid (Below w.heap.size w w4) := K3.out.trans (R.mono (by omega))
  replace bw : Hid (Bx w4 w2.heap.size (.int .i64 rm) (.slice A_ow rl.length c_ow)) := bw.out.keep R
  replace ow : Hid (OwnB w4 w1.heap.size w2.heap.size (.slice A_ow rl.length c_ow) rl) := ow.out.keep R
  replace x2 : Hid (OwnB w4 (w2.heap.size + 1) w3.heap.size (.slice A_x2 xs2.length c_x2) xs2) := x2.out.keep R
  clear R hb4
  have og : Hid (OwnB w4 w3.heap.size w4.heap.size (.slice A_og rl.length c_og) rl) := o_og'
  clear o_og'
  have bw_c := bw.out.2.1
  have bw_d := bw.out.2.2
  have bw_z := bw.out.1
  go_wp2_with fail
  refine (eqS_any _ rm rm _ _ _ _ (og.out.keep (by (repeat (first | assumption | exact Below.refl _ _ | refine Below.alloc ?_ (by first | omega | (simp; done) | (simp; omega)) _ | refine Below.setCell ?_ (by first | omega | (simp; done) | (simp; omega)) _ | refine below_drewN ?_ _)))).rd (ow.out.keep (by (repeat (first | assumption | exact Below.refl _ _ | refine Below.alloc ?_ (by first | omega | (simp; done) | (simp; omega)) _ | refine Below.setCell ?_ (by first | omega | (simp; done) | (simp; omega)) _ | refine below_drewN ?_ _)))).rd).mono ?_
  rintro e w5 ⟨rfl, hb5⟩
  clear bw_c bw_d bw_z
  have R : Below w4.heap.size w4 w5 := Below.trans (by (repeat (first | assumption | exact Below.refl _ _ | refine Below.alloc ?_ (by first | omega | (simp; done) | (simp; omega)) _ | refine Below.setCell ?_ (by first | omega | (simp; done) | (simp; omega)) _ | refine below_drewN ?_ _))) (hb5.mono (by first | exact Nat.le_refl _ | (simp; done) | (simp; omega)))
  have s5 : w4.heap.size ≤ w5.heap.size := R.size
  have K5 : Hid (Below w.heap.size w w5) := K4.out.trans (R.mono (by omega))
  replace bw : Hid (Bx w5 w2.heap.size (.int .i64 rm) (.slice A_ow rl.length c_ow)) := bw.out.keep R
  replace ow : Hid (OwnB w5 w1.heap.size w2.heap.size (.slice A_ow rl.length c_ow) rl) := ow.out.keep R
  replace x2 : Hid (OwnB w5 (w2.heap.size + 1) w3.heap.size (.slice A_x2 xs2.length c_x2) xs2) := x2.out.keep R
  replace og : Hid (OwnB w5 w3.heap.size w4.heap.size (.slice A_og rl.length c_og) rl) := og.out.keep R
  have bg : Hid (Bx w5 w4.heap.size (.int .i64 rm) (.slice A_og rl.length c_og)) := ⟨by have := hb5.size; simp at this; omega, by rw [hb5.cell (by first | (simp; done) | (simp; omega))]; simp, by rw [hb5.cell (by first | (simp; done) | (simp; omega))]; simp⟩
  clear R hb5
  have bw_c := bw.out.2.1
  have bw_d := bw.out.2.2
  have bw_z := bw.out.1
  have bg_c := bg.out.2.1
  have bg_d := bg.out.2.2
  have bg_z := bg.out.1
  go_wp2_with fail
  refine (toL_any _ _ xs2 (hv2.below K5.out) (by omega)).mono ?_
  rintro e w7 ⟨A_t6, c_t6, rfl, o_t6, hb7⟩
  clear bw_c bw_d bw_z
  clear bg_c bg_d bg_z
  have o_t6' := (o_t6.toB).mono (show w5.heap.size ≤ _ from by first | exact Nat.le_refl _ | (simp; done) | (simp; omega)) (Nat.le_refl _)
  clear o_t6
  have R : Below w5.heap.size w5 w7 := Below.trans (by (repeat (first | assumption | exact Below.refl _ _ | refine Below.alloc ?_ (by first | omega | (simp; done) | (simp; omega)) _ | refine Below.setCell ?_ (by first | omega | (simp; done) | (simp; omega)) _ | refine below_drewN ?_ _))) (hb7.mono (by first | exact Nat.le_refl _ | (simp; done) | (simp; omega)))
  have s7 : w5.heap.size ≤ w7.heap.size := R.size
  have K7 : Hid (Below w.heap.size w w7) := K5.out.trans (R.mono (by omega))
  replace bw : Hid (Bx w7 w2.heap.size (.int .i64 rm) (.slice A_ow rl.length c_ow)) := bw.out.keep R
  replace bg : Hid (Bx w7 w4.heap.size (.int .i64 rm) (.slice A_og rl.length c_og)) := bg.out.keep R
  replace ow : Hid (OwnB w7 w1.heap.size w2.heap.size (.slice A_ow rl.length c_ow) rl) := ow.out.keep R
  replace x2 : Hid (OwnB w7 (w2.heap.size + 1) w3.heap.size (.slice A_x2 xs2.length c_x2) xs2) := x2.out.keep R
  replace og : Hid (OwnB w7 w3.heap.size w4.heap.size (.slice A_og rl.length c_og) rl) := og.out.keep R
  clear R hb7
  have t6 : Hid (OwnB w7 w5.heap.size w7.heap.size (.slice A_t6 xs2.length c_t6) xs2) := o_t6'
  clear o_t6'
  have bw_c := bw.out.2.1
  have bw_d := bw.out.2.2
  have bw_z := bw.out.1
  have bg_c := bg.out.2.1
  have bg_d := bg.out.2.2
  have bg_z := bg.out.1
  go_wp2_with fail
  refine (eqL_any _ _ _ _ _ (x2.out.keep (by (repeat (first | assumption | exact Below.refl _ _ | refine Below.alloc ?_ (by first | omega | (simp; done) | (simp; omega)) _ | refine Below.setCell ?_ (by first | omega | (simp; done) | (simp; omega)) _ | refine below_drewN ?_ _)))).rd (t6.out.keep (by (repeat (first | assumption | exact Below.refl _ _ | refine Below.alloc ?_ (by first | omega | (simp; done) | (simp; omega)) _ | refine Below.setCell ?_ (by first | omega | (simp; done) | (simp; omega)) _ | refine below_drewN ?_ _)))).rd).mono ?_
  rintro e w8 ⟨rfl, hb8⟩
  clear bw_c bw_d bw_z
  clear bg_c bg_d bg_z
  have R : Below w7.heap.size w7 w8 := Below.trans (by (repeat (first | assumption | exact Below.refl _ _ | refine Below.alloc ?_ (by first | omega | (simp; done) | (simp; omega)) _ | refine Below.setCell ?_ (by first | omega | (simp; done) | (simp; omega)) _ | refine below_drewN ?_ _))) (hb8.mono (by first | exact Nat.le_refl _ | (simp; done) | (simp; omega)))
  have s8 : w7.heap.size ≤ w8.heap.size := R.size
  have K8 : Hid (Below w.heap.size w w8) := K7.out.trans (R.mono (by omega))
  replace bw : Hid (Bx w8 w2.heap.size (.int .i64 rm) (.slice A_ow rl.length c_ow)) := bw.out.keep R
  replace bg : Hid (Bx w8 w4.heap.size (.int .i64 rm) (.slice A_og rl.length c_og)) := bg.out.keep R
  replace ow : Hid (OwnB w8 w1.heap.size w2.heap.size (.slice A_ow rl.length c_ow) rl) := ow.out.keep R
  replace x2 : Hid (OwnB w8 (w2.heap.size + 1) w3.heap.size (.slice A_x2 xs2.length c_x2) xs2) := x2.out.keep R
  replace og : Hid (OwnB w8 w3.heap.size w4.heap.size (.slice A_og rl.length c_og) rl) := og.out.keep R
  replace t6 : Hid (OwnB w8 w5.heap.size w7.heap.size (.slice A_t6 xs2.length c_t6) xs2) := t6.out.keep R
  clear R hb8
  clear t6
  have bw_c := bw.out.2.1
  have bw_d := bw.out.2.2
  have bw_z := bw.out.1
  have bg_c := bg.out.2.1
  have bg_d := bg.out.2.2
  have bg_z := bg.out.1
  go_wp2_with fail
  refine (markLB_any _ (w2.heap.size + 1) w3.heap.size _ xs2 (1) (x2.out.keep (by (repeat (first | assumption | exact Below.refl _ _ | refine Below.alloc ?_ (by first | omega | (simp; done) | (simp; omega)) _ | refine Below.setCell ?_ (by first | omega | (simp; done) | (simp; omega)) _ | refine below_drewN ?_ _)))) (by omega) (by omega) (by omega)).mono ?_
  rintro e w9 ⟨rfl, o_m, hg9⟩
  clear bw_c bw_d bw_z
  clear bg_c bg_d bg_z
  have R : Within (w2.heap.size + 1) w3.heap.size w8 w9 := Within.behind (by (repeat (first | assumption | exact Below.refl _ _ | refine Below.alloc ?_ (by first | omega | (simp; done) | (simp; omega)) _ | refine Below.setCell ?_ (by first | omega | (simp; done) | (simp; omega)) _ | refine below_drewN ?_ _))) hg9
  have s9 : w8.heap.size ≤ w9.heap.size := R.2.2.2.1
  have K9 : Hid (Below w.heap.size w w9) := R.below K8.out (by omega) (by omega)
  replace bw : Hid (Bx w9 w2.heap.size (.int .i64 rm) (.slice A_ow rl.length c_ow)) := bw.out.within R (by omega)
  replace bg : Hid (Bx w9 w4.heap.size (.int .i64 rm) (.slice A_og rl.length c_og)) := bg.out.within R (by omega)
  replace ow : Hid (OwnB w9 w1.heap.size w2.heap.size (.slice A_ow rl.length c_ow) rl) := ow.out.within R (by omega)
  replace og : Hid (OwnB w9 w3.heap.size w4.heap.size (.slice A_og rl.length c_og) rl) := og.out.within R (by omega)
  clear R hg9
  replace x2 : Hid (OwnB w9 (w2.heap.size + 1) w3.heap.size (.slice A_x2 xs2.length c_x2) (marks (1) xs2.length)) := o_m
  clear o_m
  have bw_c := bw.out.2.1
  have bw_d := bw.out.2.2
  have bw_z := bw.out.1
  have bg_c := bg.out.2.1
  have bg_d := bg.out.2.2
  have bg_z := bg.out.1
  go_wp2_with fail
  refine (eqS_any _ rm rm _ _ _ _ (og.out.keep (by (repeat (first | assumption | exact Below.refl _ _ | refine Below.alloc ?_ (by first | omega | (simp; done) | (simp; omega)) _ | refine Below.setCell ?_ (by first | omega | (simp; done) | (simp; omega)) _ | refine below_drewN ?_ _)))).rd (ow.out.keep (by (repeat (first | assumption | exact Below.refl _ _ | refine Below.alloc ?_ (by first | omega | (simp; done) | (simp; omega)) _ | refine Below.setCell ?_ (by first | omega | (simp; done) | (simp; omega)) _ | refine below_drewN ?_ _)))).rd).mono ?_
  rintro e w10 ⟨rfl, hb10⟩
  clear bw_c bw_d bw_z
  clear bg_c bg_d bg_z
  have R : Below w9.heap.size w9 w10 := Below.trans (by (repeat (first | assumption | exact Below.refl _ _ | refine Below.alloc ?_ (by first | omega | (simp; done) | (simp; omega)) _ | refine Below.setCell ?_ (by first | omega | (simp; done) | (simp; omega)) _ | refine below_drewN ?_ _))) (hb10.mono (by first | exact Nat.le_refl _ | (simp; done) | (simp; omega)))
  have s10 : w9.heap.size ≤ w10.heap.size := R.size
  have K10 : Hid (Below w.heap.size w w10) := K9.out.trans (R.mono (by omega))
  replace bw : Hid (Bx w10 w2.heap.size (.int .i64 rm) (.slice A_ow rl.length c_ow)) := bw.out.keep R
  replace bg : Hid (Bx w10 w4.heap.size (.int .i64 rm) (.slice A_og rl.length c_og)) := bg.out.keep R
  replace ow : Hid (OwnB w10 w1.heap.size w2.heap.size (.slice A_ow rl.length c_ow) rl) := ow.out.keep R
  replace x2 : Hid (OwnB w10 (w2.heap.size + 1) w3.heap.size (.slice A_x2 xs2.length c_x2) (marks (1) xs2.length)) := x2.out.keep R
  replace og : Hid (OwnB w10 w3.heap.size w4.heap.size (.slice A_og rl.length c_og) rl) := og.out.keep R
  clear R hb10
  have bw_c := bw.out.2.1
  have bw_d := bw.out.2.2
  have bw_z := bw.out.1
  have bg_c := bg.out.2.1
  have bg_d := bg.out.2.2
  have bg_z := bg.out.1
  go_wp2_with fail
  refine (markSB_any _ w3.heap.size w4.heap.size rm _ rl (1) (og.out.keep (by (repeat (first | assumption | exact Below.refl _ _ | refine Below.alloc ?_ (by first | omega | (simp; done) | (simp; omega)) _ | refine Below.setCell ?_ (by first | omega | (simp; done) | (simp; omega)) _ | refine below_drewN ?_ _)))) (by omega) (by omega) (by omega)).mono ?_
  rintro e w11 ⟨rfl, o_m, hg11⟩
  clear bw_c bw_d bw_z
  clear bg_c bg_d bg_z
  have R : Within w3.heap.size w4.heap.size w10 w11 := Within.behind (by (repeat (first | assumption | exact Below.refl _ _ | refine Below.alloc ?_ (by first | omega | (simp; done) | (simp; omega)) _ | refine Below.setCell ?_ (by first | omega | (simp; done) | (simp; omega)) _ | refine below_drewN ?_ _))) hg11
  have s11 : w10.heap.size ≤ w11.heap.size := R.2.2.2.1
  have K11 : Hid (Below w.heap.size w w11) := R.below K10.out (by omega) (by omega)
  replace bw : Hid (Bx w11 w2.heap.size (.int .i64 rm) (.slice A_ow rl.length c_ow)) := bw.out.within R (by omega)
  replace bg : Hid (Bx w11 w4.heap.size (.int .i64 rm) (.slice A_og rl.length c_og)) := bg.out.within R (by omega)
  replace ow : Hid (OwnB w11 w1.heap.size w2.heap.size (.slice A_ow rl.length c_ow) rl) := ow.out.within R (by omega)
  replace x2 : Hid (OwnB w11 (w2.heap.size + 1) w3.heap.size (.slice A_x2 xs2.length c_x2) (marks (1) xs2.length)) := x2.out.within R (by omega)
  clear R hg11
  replace og : Hid (OwnB w11 w3.heap.size w4.heap.size (.slice A_og rl.length c_og) (marks (1) rl.length)) := o_m
  clear o_m
  have bw_c := bw.out.2.1
  have bw_d := bw.out.2.2
  have bw_z := bw.out.1
  have bg_c := bg.out.2.1
  have bg_d := bg.out.2.2
  have bg_z := bg.out.1
  go_wp2_with fail
  refine (heldSB_any _ w3.heap.size w4.heap.size rm _ rl (1) (og.out.keep (by (repeat (first | assumption | exact Below.refl _ _ | refine Below.alloc ?_ (by first | omega | (simp; done) | (simp; omega)) _ | refine Below.setCell ?_ (by first | omega | (simp; done) | (simp; omega)) _ | refine below_drewN ?_ _)))) (by omega) (by omega) (by omega)).mono ?_
  rintro e w12 ⟨rfl, hb12⟩
  clear bw_c bw_d bw_z
  clear bg_c bg_d bg_z
  have R : Below w11.heap.size w11 w12 := Below.trans (by (repeat (first | assumption | exact Below.refl _ _ | refine Below.alloc ?_ (by first | omega | (simp; done) | (simp; omega)) _ | refine Below.setCell ?_ (by first | omega | (simp; done) | (simp; omega)) _ | refine below_drewN ?_ _))) (hb12.mono (by first | exact Nat.le_refl _ | (simp; done) | (simp; omega)))
  have s12 : w11.heap.size ≤ w12.heap.size := R.size
  have K12 : Hid (Below w.heap.size w w12) := K11.out.trans (R.mono (by omega))
  replace bw : Hid (Bx w12 w2.heap.size (.int .i64 rm) (.slice A_ow rl.length c_ow)) := bw.out.keep R
  replace bg : Hid (Bx w12 w4.heap.size (.int .i64 rm) (.slice A_og rl.length c_og)) := bg.out.keep R
  replace ow : Hid (OwnB w12 w1.heap.size w2.heap.size (.slice A_ow rl.length c_ow) rl) := ow.out.keep R
  replace x2 : Hid (OwnB w12 (w2.heap.size + 1) w3.heap.size (.slice A_x2 xs2.length c_x2) (marks (1) xs2.length)) := x2.out.keep R
  replace og : Hid (OwnB w12 w3.heap.size w4.heap.size (.slice A_og rl.length c_og) (marks (1) rl.length)) := og.out.keep R
  clear R hb12
  have bw_c := bw.out.2.1
  have bw_d := bw.out.2.2
  have bw_z := bw.out.1
  have bg_c := bg.out.2.1
  have bg_d := bg.out.2.2
  have bg_z := bg.out.1
  go_wp2_with fail
  refine (toL_any _ _ xs2 (hv2.below K12.out) (by omega)).mono ?_
  rintro e w13 ⟨A_y2, c_y2, rfl, o_y2, hb13⟩
  clear bw_c bw_d bw_z
  clear bg_c bg_d bg_z
  have o_y2' := (o_y2.toB).mono (show w12.heap.size ≤ _ from by first | exact Nat.le_refl _ | (simp; done) | (simp; omega)) (Nat.le_refl _)
  clear o_y2
  have R : Below w12.heap.size w12 w13 := Below.trans (by (repeat (first | assumption | exact Below.refl _ _ | refine Below.alloc ?_ (by first | omega | (simp; done) | (simp; omega)) _ | refine Below.setCell ?_ (by first | omega | (simp; done) | (simp; omega)) _ | refine below_drewN ?_ _))) (hb13.mono (by first | exact Nat.le_refl _ | (simp; done) | (simp; omega)))
  have s13 : w12.heap.size ≤ w13.heap.size := R.size
  have K13 : Hid (Below w.heap.size w w13) := K12.out.trans (R.mono (by omega))
  replace bw : Hid (Bx w13 w2.heap.size (.int .i64 rm) (.slice A_ow rl.length c_ow)) := bw.out.keep R
  replace bg : Hid (Bx w13 w4.heap.size (.int .i64 rm) (.slice A_og rl.length c_og)) := bg.out.keep R
  replace ow : Hid (OwnB w13 w1.heap.size w2.heap.size (.slice A_ow rl.length c_ow) rl) := ow.out.keep R
  replace x2 : Hid (OwnB w13 (w2.heap.size + 1) w3.heap.size (.slice A_x2 xs2.length c_x2) (marks (1) xs2.length)) := x2.out.keep R
  replace og : Hid (OwnB w13 w3.heap.size w4.heap.size (.slice A_og rl.length c_og) (marks (1) rl.length)) := og.out.keep R
  clear R hb13
  have y2 : Hid (OwnB w13 w12.heap.size w13.heap.size (.slice A_y2 xs2.length c_y2) xs2) := o_y2'
  clear o_y2'
  have bw_c := bw.out.2.1
  have bw_d := bw.out.2.2
  have bw_z := bw.out.1
  have bg_c := bg.out.2.1
  have bg_d := bg.out.2.2
  have bg_z := bg.out.1
  go_wp2_with fail
  refine (iWeierstrassSeriesR_any _ a0 a1 (.slice A_y2 xs2.length c_y2) xs2 w12.heap.size (y2.out.keep (by (repeat (first | assumption | exact Below.refl _ _ | refine Below.alloc ?_ (by first | omega | (simp; done) | (simp; omega)) _ | refine Below.setCell ?_ (by first | omega | (simp; done) | (simp; omega)) _ | refine below_drewN ?_ _)))).1 (by omega)).mono ?_
  rintro e w14 h_r
  replace h_r := h_r.of HR
  obtain ⟨A_oh, c_oh, rfl, o_oh, hb14⟩ := h_r
  have o_oh' := (o_oh.toB).mono (show w13.heap.size ≤ _ from by first | exact Nat.le_refl _ | (simp; done) | (simp; omega)) (Nat.le_refl _)
  clear o_oh
  clear bw_c bw_d bw_z
  clear bg_c bg_d bg_z
  have R : Below w13.heap.size w13 w14 := Below.trans (by (repeat (first | assumption | exact Below.refl _ _ | refine Below.alloc ?_ (by first | omega | (simp; done) | (simp; omega)) _ | refine Below.setCell ?_ (by first | omega | (simp; done) | (simp; omega)) _ | refine below_drewN ?_ _))) (hb14.mono (by first | exact Nat.le_refl _ | (simp; done) | (simp; omega)))
  have s14 : w13.heap.size ≤ w14.heap.size := R.size
  have K14 : Hid (Below w.heap.size w w14) := K13.out.trans (R.mono (by omega))
  replace bw : Hid (Bx w14 w2.heap.size (.int .i64 rm) (.slice A_ow rl.length c_ow)) := bw.out.keep R
  replace bg : Hid (Bx w14 w4.heap.size (.int .i64 rm) (.slice A_og rl.length c_og)) := bg.out.keep R
  replace ow : Hid (OwnB w14 w1.heap.size w2.heap.size (.slice A_ow rl.length c_ow) rl) := ow.out.keep R
  replace x2 : Hid (OwnB w14 (w2.heap.size + 1) w3.heap.size (.slice A_x2 xs2.length c_x2) (marks (1) xs2.length)) := x2.out.keep R
  replace og : Hid (OwnB w14 w3.heap.size w4.heap.size (.slice A_og rl.length c_og) (marks (1) rl.length)) := og.out.keep R
  replace y2 : Hid (OwnB w14 w12.heap.size w13.heap.size (.slice A_y2 xs2.length c_y2) xs2) := y2.out.keep R
  clear R hb14
  have oh : Hid (OwnB w14 w13.heap.size w14.heap.size (.slice A_oh rl.length c_oh) rl) := o_oh'
  clear o_oh'
  have bw_c := bw.out.2.1
  have bw_d := bw.out.2.2
  have bw_z := bw.out.1
  have bg_c := bg.out.2.1
  have bg_d := bg.out.2.2
  have bg_z := bg.out.1
  go_wp2_with fail
  refine (eqS_any _ rm rm _ _ _ _ (oh.out.keep (by (repeat (first | assumption | exact Below.refl _ _ | refine Below.alloc ?_ (by first | omega | (simp; done) | (simp; omega)) _ | refine Below.setCell ?_ (by first | omega | (simp; done) | (simp; omega)) _ | refine below_drewN ?_ _)))).rd (ow.out.keep (by (repeat (first | assumption | exact Below.refl _ _ | refine Below.alloc ?_ (by first | omega | (simp; done) | (simp; omega)) _ | refine Below.setCell ?_ (by first | omega | (simp; done) | (simp; omega)) _ | refine below_drewN ?_ _)))).rd).mono ?_
  rintro e w15 ⟨rfl, hb15⟩
  clear bw_c bw_d bw_z
  clear bg_c bg_d bg_z
  have R : Below w14.heap.size w14 w15 := Below.trans (by (repeat (first | assumption | exact Below.refl _ _ | refine Below.alloc ?_ (by first | omega | (simp; done) | (simp; omega)) _ | refine Below.setCell ?_ (by first | omega | (simp; done) | (simp; omega)) _ | refine below_drewN ?_ _))) (hb15.mono (by first | exact Nat.le_refl _ | (simp; done) | (simp; omega)))
  have s15 : w14.heap.size ≤ w15.heap.size := R.size
  have K15 : Hid (Below w.heap.size w w15) := K14.out.trans (R.mono (by omega))
  replace bw : Hid (Bx w15 w2.heap.size (.int .i64 rm) (.slice A_ow rl.length c_ow)) := bw.out.keep R
  replace bg : Hid (Bx w15 w4.heap.size (.int .i64 rm) (.slice A_og rl.length c_og)) := bg.out.keep R
  replace ow : Hid (OwnB w15 w1.heap.size w2.heap.size (.slice A_ow rl.length c_ow) rl) := ow.out.keep R
  replace x2 : Hid (OwnB w15 (w2.heap.size + 1) w3.heap.size (.slice A_x2 xs2.length c_x2) (marks (1) xs2.length)) := x2.out.keep R
  replace og : Hid (OwnB w15 w3.heap.size w4.heap.size (.slice A_og rl.length c_og) (marks (1) rl.length)) := og.out.keep R
  replace y2 : Hid (OwnB w15 w12.heap.size w13.heap.size (.slice A_y2 xs2.length c_y2) xs2) := y2.out.keep R
  replace oh : Hid (OwnB w15 w13.heap.size w14.heap.size (.slice A_oh rl.length c_oh) rl) := oh.out.keep R
  have bh : Hid (Bx w15 w14.heap.size (.int .i64 rm) (.slice A_oh rl.length c_oh)) := ⟨by have := hb15.size; simp at this; omega, by rw [hb15.cell (by first | (simp; done) | (simp; omega))]; simp, by rw [hb15.cell (by first | (simp; done) | (simp; omega))]; simp⟩
  clear R hb15
  have bw_c := bw.out.2.1
  have bw_d := bw.out.2.2
  have bw_z := bw.out.1
  have bg_c := bg.out.2.1
  have bg_d := bg.out.2.2
  have bg_z := bg.out.1
  have bh_c := bh.out.2.1
  have bh_d := bh.out.2.2
  have bh_z := bh.out.1
  go_wp2_with fail
  refine (heldSB_any _ w3.heap.size w4.heap.size rm _ rl (1) (og.out.keep (by (repeat (first | assumption | exact Below.refl _ _ | refine Below.alloc ?_ (by first | omega | (simp; done) | (simp; omega)) _ | refine Below.setCell ?_ (by first | omega | (simp; done) | (simp; omega)) _ | refine below_drewN ?_ _)))) (by omega) (by omega) (by omega)).mono ?_
  rintro e w16 ⟨rfl, hb16⟩
  clear bw_c bw_d bw_z
  clear bg_c bg_d bg_z
  clear bh_c bh_d bh_z
  have R : Below w15.heap.size w15 w16 := Below.trans (by (repeat (first | assumption | exact Below.refl _ _ | refine Below.alloc ?_ (by first | omega | (simp; done) | (simp; omega)) _ | refine Below.setCell ?_ (by first | omega | (simp; done) | (simp; omega)) _ | refine below_drewN ?_ _))) (hb16.mono (by first | exact Nat.le_refl _ | (simp; done) | (simp; omega)))
  have s16 : w15.heap.size ≤ w16.heap.size := R.size
  have K16 : Hid (Below w.heap.size w w16) := K15.out.trans (R.mono (by omega))
  replace bw : Hid (Bx w16 w2.heap.size (.int .i64 rm) (.slice A_ow rl.length c_ow)) := bw.out.keep R
  replace bg : Hid (Bx w16 w4.heap.size (.int .i64 rm) (.slice A_og rl.length c_og)) := bg.out.keep R
  replace bh : Hid (Bx w16 w14.heap.size (.int .i64 rm) (.slice A_oh rl.length c_oh)) := bh.out.keep R
  replace ow : Hid (OwnB w16 w1.heap.size w2.heap.size (.slice A_ow rl.length c_ow) rl) := ow.out.keep R
  replace x2 : Hid (OwnB w16 (w2.heap.size + 1) w3.heap.size (.slice A_x2 xs2.length c_x2) (marks (1) xs2.length)) := x2.out.keep R
  replace og : Hid (OwnB w16 w3.heap.size w4.heap.size (.slice A_og rl.length c_og) (marks (1) rl.length)) := og.out.keep R
  replace y2 : Hid (OwnB w16 w12.heap.size w13.heap.size (.slice A_y2 xs2.length c_y2) xs2) := y2.out.keep R
  replace oh : Hid (OwnB w16 w13.heap.size w14.heap.size (.slice A_oh rl.length c_oh) rl) := oh.out.keep R
  clear R hb16
  have bw_c := bw.out.2.1
  have bw_d := bw.out.2.2
  have bw_z := bw.out.1
  have bg_c := bg.out.2.1
  have bg_d := bg.out.2.2
  have bg_z := bg.out.1
  have bh_c := bh.out.2.1
  have bh_d := bh.out.2.2
  have bh_z := bh.out.1
  go_wp2
  go_ret
  exact ⟨rfl, K16.out⟩


end Go.Proofs.Ytfdklbimdkaaiaa
