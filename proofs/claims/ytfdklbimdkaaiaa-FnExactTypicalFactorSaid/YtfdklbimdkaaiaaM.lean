/- Contracts over this seat's translation. Condition: each contract's own. -/
import Derived.Test.YtfdklbimdkaaiaaL
import Derived.ProofKit
import Derived.Laws.Bits64b
import Derived.Lib.Mul64
import Derived.OpenShut
import Derived.Below
import Derived.ChangeSame
import Derived.Deep.Modes
import Derived.Lib.SmallJoins
import Derived.ChangeSlices
import Derived.WalkKit
import Derived.WalkSpells
import Derived.WalkLawsBesides
import Derived.Deep.QuietTactic
import Derived.BigQuiet
import Derived.Deep.RegionHeld3
import Derived.Deep.RegionWith
import Derived.Deep.RegionLaw
import Derived.Deep.AppendLies
import Derived.Laws.CopyOwn
import Derived.Deep.DeepCutAuto
import Derived.Deep.OwnRows
import Derived.Deep.LoopGhost
import Derived.Deep.DeepFit
import Derived.Deep.DeepMust
import Derived.Deep.Draws
import Derived.Deep.CutRange
import Derived.Maps.AppendAt
import Derived.Lib.Hide
import Derived.StillTailTactics
import Derived.Laws.MakeOwn
import Derived.Deep.Matrix
set_option linter.unusedVariables false
open Go Go.RowKit
namespace Go.Proofs.Ytfdklbimdkaaiaa
/-! ### Lists of lists in memory; what lies in an interval of blocks -/
/-- Between w and w' only blocks from lo to below hi, and new ones, may differ. -/
def Within (lo hi : Nat) (w w' : World) : Prop := w'.os = w.os ∧ w'.tape = w.tape ∧ w'.output = w.output ∧ w.heap.size ≤ w'.heap.size ∧ ∀ k, k < w.heap.size → (k < lo ∨ hi ≤ k) → w'.heap[k]? = w.heap[k]?
theorem Within.refl (lo hi : Nat) (w : World) : Within lo hi w w := ⟨rfl, rfl, rfl, Nat.le_refl _, fun _ _ _ => rfl⟩
theorem Within.trans {lo hi : Nat} {a b c : World} (h : Within lo hi a b) (h' : Within lo hi b c) : Within lo hi a c :=
  ⟨h'.1.trans h.1, h'.2.1.trans h.2.1, h'.2.2.1.trans h.2.2.1, Nat.le_trans h.2.2.2.1 h'.2.2.2.1, fun k hk hn => (h'.2.2.2.2 k (Nat.lt_of_lt_of_le hk h.2.2.2.1) hn).trans (h.2.2.2.2 k hk hn)⟩
theorem Within.of_grownBy {lo hi : Nat} {w w' : World} {r : Option Nat} (h : w.grownBy w' r) (hr : ∀ g, r = some g → lo ≤ g ∧ g < hi) : Within lo hi w w' :=
  ⟨h.os, h.tape, h.output, h.size, fun k hk hn => h.block k hk fun e => by have := hr k e.symm; omega⟩
theorem Within.behind {lo hi : Nat} {w W w' : World} (h : Below w.heap.size w W) (h' : Within lo hi W w') : Within lo hi w w' :=
  ⟨h'.1.trans h.os, h'.2.1.trans h.tape, h'.2.2.1.trans h.output, Nat.le_trans h.size h'.2.2.2.1, fun k hk hn => (h'.2.2.2.2 k (Nat.lt_of_lt_of_le hk h.size) hn).trans (h.block k hk)⟩
theorem Within.below {lo hi B : Nat} {w0 w w' : World} (h0 : Below B w0 w) (hB : B ≤ w.heap.size) (h : Within lo hi w w') (hl : B ≤ lo) : Below B w0 w' :=
  ⟨h.1.trans h0.os, h.2.1.trans h0.tape, h.2.2.1.trans h0.output, Nat.le_trans h0.size h.2.2.2.1, fun k hk => (h.2.2.2.2 k (by omega) (.inl (by omega))).trans (h0.block k hk)⟩
theorem Bx.within {lo hi : Nat} {w w' : World} {b : Nat} {x y : Value} (h : Bx w b x y) (R : Within lo hi w w') (hne : b < lo ∨ hi ≤ b) : Bx w' b x y := by
  have e : w'.heap[b]? = w.heap[b]? := R.2.2.2.2 b h.1 hne
  exact ⟨Nat.lt_of_lt_of_le h.1 R.2.2.2.1, (World.cell?_of_block (a := ⟨b, 0, none⟩) e).trans h.2.1, (World.cell?_of_block (a := ⟨b, 1, none⟩) e).trans h.2.2⟩
/-- A list of int64 in a block from lo to below hi. -/
def OwnB (w : World) (lo hi : Nat) (v : Value) (xs : List Int) : Prop := OwnI w lo v xs ∧ ∀ g, v.ownBlock = some g → g < hi
theorem OwnI.toB {w : World} {lo : Nat} {v : Value} {xs : List Int} (h : OwnI w lo v xs) : OwnB w lo w.heap.size v xs := ⟨h, fun _ hg => (h.block_ge hg).2⟩
theorem OwnB.keep {w w' : World} {lo hi : Nat} {v : Value} {xs : List Int} (h : OwnB w lo hi v xs) (R : Below w.heap.size w w') : OwnB w' lo hi v xs := ⟨h.1.keep R (Nat.le_refl _), h.2⟩
theorem OwnB.within {w w' : World} {lo hi lo' hi' : Nat} {v : Value} {xs : List Int} (h : OwnB w lo hi v xs) (R : Within lo' hi' w w') (hd : hi ≤ lo' ∨ hi' ≤ lo) : OwnB w' lo hi v xs :=
  ⟨h.1.of_block fun g hg => R.2.2.2.2 g (h.1.block_ge hg).2 (by have := h.1.block_ge hg; have := h.2 g hg; omega), h.2⟩
theorem OwnB.rd {w : World} {lo hi : Nat} {v : Value} {xs : List Int} (h : OwnB w lo hi v xs) : RdI w v xs := h.1.rd
theorem OwnB.mono {w : World} {lo lo' hi hi' : Nat} {v : Value} {xs : List Int} (h : OwnB w lo hi v xs) (h1 : lo' ≤ lo) (h2 : hi ≤ hi') : OwnB w lo' hi' v xs := ⟨h.1.mono h1, fun g hg => Nat.lt_of_lt_of_le (h.2 g hg) h2⟩

/-- A list of lists of int64: the outer block and the rows' blocks lie from lo to below hi, no two of them the same. -/
def OwnP (w : World) (lo hi : Nat) (v : Value) (xss : List (List Int)) : Prop :=
  ∃ us : List Value, us.length = xss.length ∧ w.ownsRow lo 22 1 v us.length us ∧ (∀ g, v.ownBlock = some g → g < hi) ∧
    (∀ k, k < us.length → OwnI w lo (us.getD k (.slice none 0 0)) (xss.getD k []) ∧ ∀ g, (us.getD k (.slice none 0 0)).ownBlock = some g → g < hi ∧ v.ownBlock ≠ some g) ∧
    ∀ i j g, i < us.length → j < us.length → i ≠ j → (us.getD i (.slice none 0 0)).ownBlock = some g → (us.getD j (.slice none 0 0)).ownBlock ≠ some g
theorem ownsRow_of_block {w w' : World} {B : Nat} {t : TypeId} {sz : Nat} {v : Value} {n : Nat} {us : List Value} (h : w.ownsRow B t sz v n us) (hb : ∀ g, v.ownBlock = some g → w'.heap[g]? = w.heap[g]?) : w'.ownsRow B t sz v n us := by
  rcases h.2 with h0 | ⟨g, cap, cur, h1, h2, h3, h4⟩
  · exact ⟨h.1, .inl h0⟩
  · exact ⟨h.1, .inr ⟨g, cap, cur, h1, h2, (hb g (by rw [h1]; rfl)).trans h3, h4⟩⟩
theorem ownsRow_block_ge {w : World} {B : Nat} {t : TypeId} {sz : Nat} {v : Value} {n g : Nat} {us : List Value} (h : w.ownsRow B t sz v n us) (hg : v.ownBlock = some g) : B ≤ g ∧ g < w.heap.size := by
  rcases h.2 with ⟨rfl, _⟩ | ⟨g', cap, cur, rfl, h2, h3, _⟩
  · simp [Value.ownBlock] at hg
  · have : g' = g := by simpa [Value.ownBlock] using hg
    subst this
    exact ⟨h2, lt_of_block h3⟩
theorem OwnP.of_block {w w' : World} {lo hi : Nat} {v : Value} {xss : List (List Int)} (h : OwnP w lo hi v xss) (hb : ∀ k, k < w.heap.size → lo ≤ k → k < hi → w'.heap[k]? = w.heap[k]?) : OwnP w' lo hi v xss := by
  obtain ⟨us, h1, h2, h3, h4, h5⟩ := h
  refine ⟨us, h1, ownsRow_of_block h2 fun g hg => ?_, h3, fun k hk => ⟨(h4 k hk).1.of_block fun g hg => ?_, (h4 k hk).2⟩, h5⟩
  · have := ownsRow_block_ge h2 hg
    exact hb g this.2 this.1 (h3 g hg)
  · have := (h4 k hk).1.block_ge hg
    exact hb g this.2 this.1 ((h4 k hk).2 g hg).1
theorem OwnP.keep {w w' : World} {lo hi : Nat} {v : Value} {xss : List (List Int)} (h : OwnP w lo hi v xss) (R : Below w.heap.size w w') : OwnP w' lo hi v xss := h.of_block fun k hk _ _ => R.block k hk
theorem OwnP.within {w w' : World} {lo hi lo' hi' : Nat} {v : Value} {xss : List (List Int)} (h : OwnP w lo hi v xss) (R : Within lo' hi' w w') (hd : hi ≤ lo' ∨ hi' ≤ lo) : OwnP w' lo hi v xss :=
  h.of_block fun k hk h1 h2 => R.2.2.2.2 k hk (by omega)
theorem OwnP.drewN {w : World} {lo hi : Nat} {v : Value} {xss : List (List Int)} (h : OwnP w lo hi v xss) (n : Nat) : OwnP (w.drewN n) lo hi v xss := h
theorem OwnP.mono {w : World} {lo lo' hi hi' : Nat} {v : Value} {xss : List (List Int)} (h : OwnP w lo hi v xss) (h1 : lo' ≤ lo) (h2 : hi ≤ hi') : OwnP w lo' hi' v xss := by
  obtain ⟨us, k1, k2, k3, k4, k5⟩ := h
  refine ⟨us, k1, ?_, fun g hg => Nat.lt_of_lt_of_le (k3 g hg) h2, fun k hk => ⟨(k4 k hk).1.mono h1, fun g hg => ⟨Nat.lt_of_lt_of_le ((k4 k hk).2 g hg).1 h2, ((k4 k hk).2 g hg).2⟩⟩, k5⟩
  rcases k2.2 with h0 | ⟨g, cap, cur, e1, e2, e3⟩
  · exact ⟨k2.1, .inl h0⟩
  · exact ⟨k2.1, .inr ⟨g, cap, cur, e1, by omega, e3⟩⟩
theorem OwnP.form {w : World} {lo hi : Nat} {v : Value} {xss : List (List Int)} (h : OwnP w lo hi v xss) : ∃ A c, v = .slice A xss.length c ∧ xss.length ≤ c ∧ c ≤ maxLen := by
  obtain ⟨us, h1, h2, _⟩ := h
  rcases h2.2 with ⟨rfl, h0⟩ | ⟨g, cap, cur, rfl, _, _, e1, e2, _⟩
  · exact ⟨none, 0, by rw [← h1, h0], by omega, by unfold maxLen; omega⟩
  · exact ⟨_, cap, by rw [← h1], by omega, e2⟩
/-- Row k. -/
theorem OwnP.row {w : World} {lo hi : Nat} {v : Value} {xss : List (List Int)} (h : OwnP w lo hi v xss) {k : Nat} (hk : k < xss.length) :
    ∃ g c A c', v = .slice (some ⟨g, 0, none⟩) xss.length c ∧ lo ≤ g ∧ g < hi ∧ g < w.heap.size ∧ w.cell? ⟨g, k, none⟩ = some (.slice A (xss.getD k []).length c') ∧ w.frozen? ⟨g, k, none⟩ = false ∧
      OwnI w lo (.slice A (xss.getD k []).length c') (xss.getD k []) ∧ (∀ b, (Value.slice A (xss.getD k []).length c').ownBlock = some b → b < hi ∧ b ≠ g) ∧
      ∀ w' ys, OwnI w' lo (.slice A (xss.getD k []).length c') ys → w.grownBy w' (Value.slice A (xss.getD k []).length c').ownBlock → OwnP w' lo hi v (xss.set k ys) := by
  obtain ⟨us, h1, h2, h3, h4, h5⟩ := h
  rcases h2.2 with ⟨rfl, h0⟩ | ⟨g, cap, cur, e0, e1, e2, e3, e4, e5, e6⟩
  · omega
  · have hku : k < us.length := by omega
    obtain ⟨A, c', hu⟩ := (h4 k hku).1.form
    have hcell : w.cell? ⟨g, k, none⟩ = some (us.getD k (.slice none 0 0)) := by
      rw [cell_of_row w g k cur _ (0, 0) e2]
      have e : cur.toList[k]? = us[k]? := by rw [← e6, List.getElem?_take, if_pos (by omega)]
      simp only [Array.getElem?_toList] at e
      rw [e, List.getD_eq_getElem?_getD, List.getElem?_eq_getElem hku]
      rfl
    refine ⟨g, cap, A, c', by rw [e0, h1], e1, h3 g (by rw [e0]; rfl), lt_of_block e2, by rw [hcell, hu], by simp [World.frozen?, e2], by rw [← hu]; exact (h4 k hku).1, fun b hb => ?_, fun w' ys hw hg => ?_⟩
    · rw [← hu] at hb
      have := (h4 k hku).2 b hb
      refine ⟨this.1, fun e => this.2 ?_⟩
      rw [e0, e]; rfl
    · rw [← hu] at hw hg
      refine ⟨us, by simp [h1], ownsRow_of_block h2 fun b hb => ?_, h3, fun j hj => ?_, h5⟩
      · refine hg.block b (ownsRow_block_ge h2 hb).2 fun e => ?_
        exact ((h4 k hku).2 b e.symm).2 hb
      · by_cases hjk : j = k
        · subst hjk
          rw [show (xss.set j ys).getD j [] = ys by simp [List.getD_eq_getElem?_getD, hk]]
          exact ⟨hw, (h4 j hj).2⟩
        · rw [show (xss.set k ys).getD j [] = xss.getD j [] by simp [List.getD_eq_getElem?_getD, Ne.symm hjk]]
          refine ⟨(h4 j hj).1.of_block fun b hb => ?_, (h4 j hj).2⟩
          refine hg.block b ((h4 j hj).1.block_ge hb).2 fun e => ?_
          exact h5 j k b hj hku hjk hb e.symm

/-! ### Lists of lists that are only read; the laws' comparisons and marks -/
def rowA (xss : List (List Int)) (k : Nat) : List Int := xss.getD k []
/-- The slice value v reads as the lists xss. -/
def RdP (w : World) (v : Value) (xss : List (List Int)) : Prop :=
  ∃ A c, v = .slice A xss.length c ∧ xss.length ≤ c ∧ c ≤ maxLen ∧ ∀ k, k < xss.length → ∃ b off u, A = some ⟨b, off, none⟩ ∧ b < w.heap.size ∧ w.cell? ⟨b, off + k, none⟩ = some u ∧ RdI w u (xss.getD k [])
theorem RdP.below {w w' : World} {v : Value} {xss : List (List Int)} (h : RdP w v xss) (hb : Below w.heap.size w w') : RdP w' v xss := by
  obtain ⟨A, c, h1, h2, h3, h4⟩ := h
  refine ⟨A, c, h1, h2, h3, fun k hk => ?_⟩
  obtain ⟨b, off, u, h5, h6, h7, h8⟩ := h4 k hk
  exact ⟨b, off, u, h5, by have := hb.size; omega, (hb.cell (p := ⟨b, off + k, none⟩) h6).trans h7, h8.below hb⟩
theorem RdP.form {w : World} {v : Value} {xss : List (List Int)} (h : RdP w v xss) : ∃ A c, v = .slice A xss.length c := by
  obtain ⟨A, c, h1, _⟩ := h
  exact ⟨A, c, h1⟩
theorem OwnP.rd {w : World} {lo hi : Nat} {v : Value} {xss : List (List Int)} (h : OwnP w lo hi v xss) : RdP w v xss := by
  obtain ⟨A, c, rfl, h1, h2⟩ := h.form
  refine ⟨A, c, rfl, h1, h2, fun k hk => ?_⟩
  obtain ⟨g, c2, A2, c', e, _, _, h5, h6, _, h7, _⟩ := h.row hk
  simp only [Value.slice.injEq] at e
  exact ⟨g, 0, _, e.1, h5, by rw [Nat.zero_add]; exact h6, h7.rd⟩
def cntP : List (List Int) → Nat
  | [] => 0
  | r :: rs => r.length + cntP rs
theorem cntP_append (a b : List (List Int)) : cntP (a ++ b) = cntP a + cntP b := by
  induction a with
  | nil => simp [cntP]
  | cons r rs ih => simp [cntP, ih]; omega
theorem cntP_take_succ (xss : List (List Int)) (k : Nat) (hk : k < xss.length) : cntP (xss.take (k + 1)) = cntP (xss.take k) + (xss.getD k []).length := by
  rw [List.take_succ_eq_append_getElem hk, cntP_append, List.getD_eq_getElem?_getD, List.getElem?_eq_getElem hk]
  simp [cntP]
theorem cntP_take_le (xss : List (List Int)) (k : Nat) : cntP (xss.take k) ≤ cntP xss := by
  have := cntP_append (xss.take k) (xss.drop k)
  rw [List.take_append_drop] at this
  omega
def mkP : Int → List (List Int) → List (List Int)
  | _, [] => []
  | q, r :: rs => marks q r.length :: mkP (q + r.length) rs
theorem length_mkP (q : Int) (xss : List (List Int)) : (mkP q xss).length = xss.length := by
  induction xss generalizing q with
  | nil => rfl
  | cons r rs ih => simp [mkP, ih]
theorem mkP_append (q : Int) (a b : List (List Int)) : mkP q (a ++ b) = mkP q a ++ mkP (q + cntP a) b := by
  induction a generalizing q with
  | nil => simp [mkP, cntP]
  | cons r rs ih =>
    simp only [List.cons_append, mkP, ih, cntP]
    congr 3
    omega
theorem mkP_step (q : Int) (xss : List (List Int)) (k : Nat) (hk : k < xss.length) :
    (mkP q (xss.take k) ++ xss.drop k).set k (marks (q + cntP (xss.take k)) (xss.getD k []).length) = mkP q (xss.take (k + 1)) ++ xss.drop (k + 1) := by
  have h1 : (xss.take k).length = k := by simp; omega
  rw [List.set_append_right _ _ (by rw [length_mkP]; omega), length_mkP, h1, Nat.sub_self, List.drop_eq_getElem_cons hk, List.set_cons_zero, List.take_succ_eq_append_getElem hk, mkP_append, List.append_assoc, List.getD_eq_getElem?_getD, List.getElem?_eq_getElem hk]
  rfl
theorem getD_mkP (q : Int) (xss : List (List Int)) (k : Nat) (hk : k < xss.length) : (mkP q xss).getD k [] = marks (q + cntP (xss.take k)) (xss.getD k []).length := by
  have h := mkP_append q (xss.take k) (xss.drop k)
  rw [List.take_append_drop] at h
  have h1 : (mkP q (xss.take k)).length = k := by rw [length_mkP]; simp; omega
  rw [h, List.getD_eq_getElem?_getD, List.getElem?_append_right (by omega), h1, Nat.sub_self, List.drop_eq_getElem_cons hk, List.getD_eq_getElem?_getD, List.getElem?_eq_getElem hk]
  rfl
theorem getD_mix (q : Int) (xss : List (List Int)) (k : Nat) (hk : k < xss.length) : (mkP q (xss.take k) ++ xss.drop k).getD k [] = xss.getD k [] := by
  have h1 : (mkP q (xss.take k)).length = k := by rw [length_mkP]; simp; omega
  rw [List.getD_eq_getElem?_getD, List.getElem?_append_right (by omega), h1, Nat.sub_self, List.drop_eq_getElem_cons hk, List.getD_eq_getElem?_getD, List.getElem?_eq_getElem hk]
  rfl
theorem length_mix (q : Int) (xss : List (List Int)) (k : Nat) (hk : k ≤ xss.length) : (mkP q (xss.take k) ++ xss.drop k).length = xss.length := by
  rw [List.length_append, length_mkP, List.length_take, List.length_drop]; omega
def MarkedQ (w : World) (lo hi : Nat) (v : Value) (q : Int) (xss : List (List Int)) (e : Ending) (w' : World) : Prop := e = .returned (.int .i64 (q + (cntP xss : Int))) ∧ OwnP w' lo hi v (mkP q xss) ∧ Within lo hi w w'

/-! ### append of a row -/
theorem T.infoRow : (Try.prog.info? 22).map (fun i => (i.zero, i.size, i.bytes)) = some (some (.slice none 0 0), 1, 24) := by kernel_rfl
theorem getD_append_lt {us : List Value} {u : Value} {k : Nat} (h : k < us.length) : (us ++ [u]).getD k (.slice none 0 0) = us.getD k (.slice none 0 0) := by
  rw [List.getD_eq_getElem?_getD, List.getElem?_append_left h, ← List.getD_eq_getElem?_getD]
theorem getD_append_eq {us : List Value} {u : Value} : (us ++ [u]).getD us.length (.slice none 0 0) = u := by
  rw [List.getD_eq_getElem?_getD, List.getElem?_append_right (Nat.le_refl _)]; simp
theorem getDR_append_lt {xss : List (List Int)} {y : List Int} {k : Nat} (h : k < xss.length) : (xss ++ [y]).getD k [] = xss.getD k [] := by
  rw [List.getD_eq_getElem?_getD, List.getElem?_append_left h, ← List.getD_eq_getElem?_getD]
theorem getDR_append_eq {xss : List (List Int)} {y : List Int} {n : Nat} (h : xss.length = n) : (xss ++ [y]).getD n [] = y := by
  rw [List.getD_eq_getElem?_getD, List.getElem?_append_right (by omega), h]; simp
/-- A row more. -/
theorem OwnP.push {W w' : World} {lo hi : Nat} {v v' u : Value} {us : List Value} {xss : List (List Int)} {ys : List Int}
    (hl : us.length = xss.length) (h2 : W.ownsRow lo 22 1 v us.length us) (h3 : ∀ g, v.ownBlock = some g → g < hi)
    (h4 : ∀ k, k < us.length → OwnI W lo (us.getD k (.slice none 0 0)) (xss.getD k []) ∧ ∀ g, (us.getD k (.slice none 0 0)).ownBlock = some g → g < hi ∧ v.ownBlock ≠ some g)
    (h5 : ∀ i j g, i < us.length → j < us.length → i ≠ j → (us.getD i (.slice none 0 0)).ownBlock = some g → (us.getD j (.slice none 0 0)).ownBlock ≠ some g)
    (hhi : hi ≤ W.heap.size) (hu : OwnI W lo u ys) (hu2 : ∀ g, u.ownBlock = some g → hi ≤ g)
    (n2 : w'.ownsRow lo 22 1 v' (us.length + 1) (us ++ [u])) (hg : W.grownBy w' v.ownBlock) (hb : v'.ownBlock = v.ownBlock ∨ v'.ownBlock = some W.heap.size) :
    OwnP w' lo w'.heap.size v' (xss ++ [ys]) := by
  have hz := hg.size
  refine ⟨us ++ [u], by simp [hl], by simpa using n2, fun g hg' => (ownsRow_block_ge n2 hg').2, fun k hk => ?_, fun i j g hi1 hj1 hij hgi => ?_⟩
  · rcases Nat.lt_or_ge k us.length with h | h
    · rw [getD_append_lt h, getDR_append_lt (by omega)]
      refine ⟨(h4 k h).1.of_block fun g hg' => hg.block g ((h4 k h).1.block_ge hg').2 fun e => ((h4 k h).2 g hg').2 e.symm, fun g hg' => ?_⟩
      have q := (h4 k h).2 g hg'
      refine ⟨by omega, fun e => ?_⟩
      rcases hb with hb | hb
      · exact q.2 (hb.symm.trans e)
      · rw [hb] at e
        have : W.heap.size = g := by simpa using e
        omega
    · have hk' : k = us.length := by simp at hk; omega
      subst hk'
      rw [getD_append_eq, getDR_append_eq hl.symm]
      refine ⟨hu.of_block fun g hg' => hg.block g (hu.block_ge hg').2 fun e => ?_, fun g hg' => ?_⟩
      · have := h3 g e.symm
        have := hu2 g hg'
        omega
      · have q := hu.block_ge hg'
        have q2 := hu2 g hg'
        refine ⟨by omega, fun e => ?_⟩
        rcases hb with hb | hb
        · have := h3 g (hb.symm.trans e)
          omega
        · rw [hb] at e
          have : W.heap.size = g := by simpa using e
          omega
  · simp only [List.length_append, List.length_singleton] at hi1 hj1
    rcases Nat.lt_or_ge i us.length with h | h <;> rcases Nat.lt_or_ge j us.length with h' | h'
    · rw [getD_append_lt h] at hgi
      rw [getD_append_lt h']
      exact h5 i j g h h' hij hgi
    · have : j = us.length := by omega
      subst this
      rw [getD_append_lt h] at hgi
      rw [getD_append_eq]
      intro e
      have := ((h4 i h).2 g hgi).1
      have := hu2 g e
      omega
    · have : i = us.length := by omega
      subst this
      rw [getD_append_eq] at hgi
      rw [getD_append_lt h']
      intro e
      have := ((h4 j h').2 g e).1
      have := hu2 g hgi
      omega
    · omega
theorem appendP {W : World} {ops : Array Oper} {rest : List Oper} {o : Oper} {a : Act} {Q : Exit → Act → World → Prop} (s x : Operand) (lo hi : Nat) (v u : Value) (xss : List (List Int)) (ys : List Int) (b : Nat)
    (hgd : o.guard = none) (ho : o.op = .call { callee := .builtin .append, args := #[s, x], argTypes := #[69, 69] })
    (hs : a.eval s = v) (hx : a.eval x = .slice (some ⟨b, 0, none⟩) 1 1) (hv : OwnP W lo hi v xss) (hhi : hi ≤ W.heap.size) (hu : OwnI W lo u ys) (hu2 : ∀ g, u.ownBlock = some g → hi ≤ g)
    (hb : W.heap[b]? = some (.cells #[u] 22 (0, 0))) (hl : xss.length ≤ 1000000000000) (hB : lo ≤ W.heap.size)
    (h : ∀ A c w', OwnP w' lo w'.heap.size (.slice A (xss.length + 1) c) (xss ++ [ys]) → W.grownBy w' v.ownBlock → wpList Try.prog ops Q rest (a.put o.dst (.slice A (xss.length + 1) c)) w') :
    wpList Try.prog ops Q (o :: rest) a W := by
  obtain ⟨i0, hi0, hz0, hz1, hz2⟩ := info_parts T.infoRow
  obtain ⟨us, h1, h2, h3, h4, h5⟩ := hv
  obtain ⟨Au, cu, eu⟩ := hu.form
  refine wpList_append_own_at W hgd s x 69 ho lo 22 i0 (.slice none 0 0) 1 24 Try.underlying69 hi0 hz0 hz1 hz2 rfl (by decide) v us.length us hs h2 ⟨b, 0, none⟩ 1 1 [u] hx rfl (World.news_of_block (cs := #[u]) hb) (fun q hq => by simp at hq; subst hq; subst eu; rfl) (by unfold maxLen; omega) (by omega) hB ?_
  intro v' w' n2 hg _ hbl
  have ho' := OwnP.push h1 h2 h3 h4 h5 hhi hu hu2 n2 hg hbl
  obtain ⟨A, c, e, _⟩ := ho'.form
  rw [show (xss ++ [ys]).length = xss.length + 1 by simp] at e
  subst e
  exact h A c w' ho' hg
def RetQI (w : World) (r : List (List Int) × Int) (e : Ending) (w' : World) : Prop := ∃ A c, e = .returned (.tuple #[.slice A r.1.length c, .int .i64 r.2]) ∧ OwnP w' w.heap.size w'.heap.size (.slice A r.1.length c) r.1 ∧ Below w.heap.size w w'
theorem RetQI.of {w : World} {r r' : List (List Int) × Int} {e : Ending} {w' : World} (h : RetQI w r e w') (he : Hid (r = r')) : RetQI w r' e w' := by rw [← he.out]; exact h
theorem OwnP.nil_ (w : World) (lo hi : Nat) : OwnP w lo hi (.slice none 0 0) [] := ⟨[], rfl, World.ownsRow_nil _ _ _ _, fun g hg => by simp [Value.ownBlock] at hg, fun k hk => by simp at hk, fun i j g hi1 => by simp at hi1⟩
theorem OwnP.lit0 (w : World) {lo : Nat} (h : lo ≤ w.heap.size) : OwnP (w.alloc (.cells #[] 22)) lo (w.heap.size + 1) (.slice (some ⟨w.heap.size, 0, none⟩) 0 0) [] :=
  ⟨[], rfl, World.ownsRow_lit w #[] 0 h (by unfold maxLen; omega) rfl, fun g hg => by simp [Value.ownBlock] at hg; omega, fun k hk => by simp at hk, fun i j g hi1 => by simp at hi1⟩
/-! ### Marks and held marks, blocks in intervals -/
theorem markLB_any (w : World) (lo hi : Nat) (v : Value) (xs : List Int) (q : Int) (hv : OwnB w lo hi v xs) (hl : xs.length ≤ 100000000) (hq : 0 ≤ q) (hq' : q ≤ 500000000) :
    Calls Try.prog 34 #[v, .int .i64 q] w fun e w' => e = .returned (.int .i64 (q + (xs.length : Int))) ∧ OwnB w' lo hi v (marks q xs.length) ∧ Within lo hi w w' :=
  (markInt64S_any w lo v xs xs.length q hv.1 rfl hl hq (by omega)).mono fun _ _ ⟨h1, h2, h3⟩ => ⟨h1, ⟨h2, hv.2⟩, Within.of_grownBy h3 fun g hg => ⟨(hv.1.block_ge hg).1, hv.2 g hg⟩⟩
theorem heldLB_any (w : World) (lo hi : Nat) (v : Value) (xs : List Int) (q : Int) (hv : OwnB w lo hi v (marks q xs.length)) (hl : xs.length ≤ 100000000) (hq : 0 ≤ q) (hq' : q ≤ 500000000) :
    Calls Try.prog 35 #[v, .int .i64 q] w fun e w' => e = .returned (.int .i64 (q + (xs.length : Int))) ∧ Below w.heap.size w w' := heldL_any w lo v xs.length q hv.1 hl hq (by omega)
theorem markSB_any (w : World) (lo hi : Nat) (m : Int) (v : Value) (xs : List Int) (q : Int) (hv : OwnB w lo hi v xs) (hl : xs.length ≤ 100000000) (hq : 0 ≤ q) (hq' : q ≤ 500000000) :
    Calls Try.prog 20 #[.agg #[.int .i64 m, v], .int .i64 q] w fun e w' => e = .returned (.int .i64 (q + (xs.length : Int))) ∧ OwnB w' lo hi v (marks q xs.length) ∧ Within lo hi w w' :=
  (markS_any w lo m v xs xs.length q hv.1 rfl hl hq (by omega)).mono fun _ _ ⟨h1, h2, h3⟩ => ⟨h1, ⟨h2, hv.2⟩, Within.of_grownBy h3 fun g hg => ⟨(hv.1.block_ge hg).1, hv.2 g hg⟩⟩
theorem heldSB_any (w : World) (lo hi : Nat) (m : Int) (v : Value) (xs : List Int) (q : Int) (hv : OwnB w lo hi v (marks q xs.length)) (hl : xs.length ≤ 100000000) (hq : 0 ≤ q) (hq' : q ≤ 500000000) :
    Calls Try.prog 21 #[.agg #[.int .i64 m, v], .int .i64 q] w fun e w' => e = .returned (.int .i64 (q + (xs.length : Int))) ∧ Below w.heap.size w w' := heldS_any w lo m v xs.length q hv.1 hl hq (by omega)
/-- How much a list of lists takes. -/
def szP (xss : List (List Int)) : Nat := xss.length + cntP xss
theorem cntP_le_szP (xss : List (List Int)) : cntP xss ≤ szP xss := by unfold szP; omega
theorem length_le_szP (xss : List (List Int)) : xss.length ≤ szP xss := by unfold szP; omega

/-! ### append of zeros, and of nothing -/
section
variable {P : Program} (w : World)
theorem zeroCells_rep (z : Value) (n : Nat) : Builtin.zeroCells #[z] n = (List.replicate n z).toArray := by
  apply Array.ext'
  simp [Builtin.zeroCells, Nat.mod_one, List.map_const']
theorem run_append_zeros (base : Nat) (t tx ty e : TypeId) (k : IntKind) (i : TypeInfo) (z : Value) (ht : P.underlying t = some (.slice e)) (hx : P.underlying tx = some (.int k)) (hi : P.info? e = some i) (hz : i.zero = some z)
    (hsize : i.size = 1) (hby : i.bytes = 8) (hzc : z.cells = #[z]) (h1z : z.oneCell' = true)
    (v : Value) (n : Nat) (xs : List Value) (hown : w.ownsRow base e 1 v n xs) (m : Nat) (kx : IntKind) (hm : (m : Int) ≤ 1000000) (hn : n ≤ 1000000) (hbase : base ≤ w.heap.size) :
    ∃ v' w', (Builtin.append_ #[t, tx] ty #[v, .int kx (m : Int)]).run P w = .ok v' w' ∧ w'.ownsRow base e 1 v' (n + m) (xs ++ List.replicate m z) ∧ w.grownBy w' v.ownBlock := by
  have hwrap : IntKind.i64.wrap (m : Int) = (m : Int) := IntWalk.i64_in _ (by omega)
  have hneg : ¬ ((m : Int) < 0) := by omega
  have h48 : ¬ ((281474976710656 : Int) < (m : Int) * 8) := by omega
  have hxl := hown.1
  have h63 : ¬ (9223372036854775807 < ((n : Int) + (m : Int))) := by omega
  have grown : ∀ (old : Nat), old < n + m → ∀ (row : Option Nat),
      (w.drew.alloc (.cells (xs.toArray ++ (List.replicate m z).toArray ++ Builtin.zeroCells z.cells (grownCap w (n + m) old e - (n + m))) e)).ownsRow base e 1
        (.slice (some ⟨w.heap.size, 0, none⟩) (n + m) (grownCap w (n + m) old e)) (n + m) (xs ++ List.replicate m z) ∧
      w.grownBy (w.drew.alloc (.cells (xs.toArray ++ (List.replicate m z).toArray ++ Builtin.zeroCells z.cells (grownCap w (n + m) old e - (n + m))) e)) row := by
    intro old ho row
    have hge := grownCap_ge w (n + m) old e
    have hcm : grownCap w (n + m) old e ≤ maxLen := grownCap_le_maxLen w (n + m) old e (by simp only [maxLen]; omega)
    refine ⟨⟨by simp [hxl], .inr ⟨w.heap.size, _, _, rfl, hbase, heap_alloc_new w.drew _, hge, hcm, ?_, ?_⟩⟩, ⟨rfl, rfl, rfl, by simp, fun k hk _ => by first | exact heap_alloc_old w.drew _ hk | exact heap_alloc_old w.drew _ _ hk⟩⟩
    · simp only [Array.size_append, List.size_toArray, size_zeroCells, hzc, hxl, List.length_replicate]
      simp; omega
    · simp only [Array.toList_append, List.append_assoc]
      rw [← List.append_assoc]
      have : (n + m) * 1 = (xs ++ List.replicate m z).length := by simp [hxl]
      rw [this]
      exact List.take_left
  have hA : ∀ w' : World, (asIntOf (.int kx (m : Int))).run P w' = .ok (kx, (m : Int)) w' := fun w' => rfl
  by_cases hm0 : m = 0
  · subst hm0
    refine ⟨v, w, ?_, by simpa using hown, ⟨rfl, rfl, rfl, Nat.le_refl _, fun _ _ _ => rfl⟩⟩
    have hw0 : IntKind.i64.wrap 0 = 0 := by decide
    have hA0 : ∀ w' : World, (asIntOf (.int kx 0)).run P w' = .ok (kx, 0) w' := fun w' => rfl
    rcases hown.2 with ⟨rfl, rfl⟩ | ⟨g, cap, cur, rfl, hbg, hg, hnc, hcm, hcs, htake⟩
    · simp [Builtin.append_, run_underlying ht, run_underlying hx, sizeOf, typeInfo, hi, asInt, hby, hA0, hw0]
    · simp [Builtin.append_, run_underlying ht, run_underlying hx, sizeOf, typeInfo, hi, asInt, hby, hA0, hw0, hnc, storeCells]
  · have hle0 : ¬ ((m : Int) ≤ 0) := by omega
    have hlt0 : ¬ (m ≤ 0) := by omega
    rcases hown.2 with ⟨rfl, rfl⟩ | ⟨g, cap, cur, rfl, hbg, hg, hnc, hcm, hcs, htake⟩
    · have hx0 : xs = [] := List.eq_nil_of_length_eq_zero (by simpa using hxl)
      subst hx0
      have hgr := grown 0 (by omega) (Value.ownBlock (.slice none 0 0))
      simp only [Nat.zero_add] at hgr ⊢
      have hfit : ¬ (281474976710656 < Builtin.nextslicecap m 0 * 8) := by rw [nextslicecap_zero (by omega)]; omega
      refine ⟨_, _, ?_, hgr.1, hgr.2⟩
      have h63' : ¬ (9223372036854775807 < (m : Int)) := by omega
      simp [Builtin.append_, run_underlying ht, run_underlying hx, sizeOf, typeInfo, zeroValue, hi, hz, asInt, hA, hsize, hby, hwrap, hneg, h48, hm0, h63', hfit, Question.forced, run_firstCells_none, newRow, grownCap, hzc, zeroCells_rep]
    · by_cases hroom : n + m ≤ cap
      · have hfit : n * 1 + (List.replicate m z).length ≤ cur.size := by rw [List.length_replicate, hcs]; omega
        have hst := run_storeCells_at P g (n * 1) e (List.replicate m z) 0 cur w hg (by simpa using hfit) (fun u hu => by rw [(List.mem_replicate.1 hu).2]; exact h1z)
        simp only [Nat.add_zero] at hst
        have hr : (Builtin.append_ #[t, tx] ty #[.slice (some ⟨g, 0, none⟩) n cap, .int kx (m : Int)]).run P w = .ok (.slice (some ⟨g, 0, none⟩) (n + m) cap) (w.setRow g (cur.toList.take (n * 1) ++ List.replicate m z ++ cur.toList.drop (n * 1 + (List.replicate m z).length)).toArray) := by
          simp [Builtin.append_, run_underlying ht, run_underlying hx, sizeOf, typeInfo, zeroValue, hi, hz, asInt, hA, hsize, hby, hwrap, hneg, h48, hm0, hroom, hzc, zeroCells_rep, Addr.add_lit] at hst ⊢
          rw [hst]; simp
        refine ⟨_, _, hr, ⟨by simp [hxl], .inr ⟨g, cap, _, rfl, hbg, setRow_heap w g cur _ e _ hg, hroom, hcm, ?_, ?_⟩⟩, ⟨rfl, rfl, rfl, by simp, fun k _ hk => setRow_other w g k _ (fun e => hk (by simp [Value.ownBlock, e]))⟩⟩
        · simp only [List.size_toArray, List.length_append, List.length_take, List.length_drop, Array.length_toList]
          omega
        · rw [htake]
          have : (n + m) * 1 = (xs ++ List.replicate m z).length := by simp [hxl]
          rw [this]
          exact List.take_left
      · have holds : ∀ j u, xs[j]? = some u → w.cell? ((⟨g, 0, none⟩ : Addr).add j) = some u := hown.cells (g := g) rfl
        have hgr := grown cap (by omega) (Value.ownBlock (.slice (some ⟨g, 0, none⟩) n cap))
        refine ⟨_, _, ?_, hgr.1, hgr.2⟩
        have hfo := run_firstCells_some (P := P) w.drew 1 n ⟨g, 0, none⟩ n cap xs hxl (by simpa using holds)
        have h48' : ¬ (281474976710656 < Builtin.nextslicecap (n + m) cap * 8) := by
          have := growslice_fits (need := n + m) (old := cap) (bytes := 8) (by omega) (by omega)
          omega
        simp [Builtin.append_, run_underlying ht, run_underlying hx, sizeOf, typeInfo, zeroValue, hi, hz, asInt, hA, hsize, hby, hwrap, hneg, h48, hm0, hroom, h63, h48', Question.forced, hfo, newRow, grownCap, hzc, zeroCells_rep]
theorem run_append_empty (t ty e : TypeId) (i : TypeInfo) (ht : P.underlying t = some (.slice e)) (hi : P.info? e = some i)
    (A : Option Addr) (n cap : Nat) (B : Option Addr) (c : Nat) (h : n ≤ cap) :
    (Builtin.append_ #[t, t] ty #[.slice A n cap, .slice B 0 c]).run P w = .ok (.slice A n cap) w := by
  cases A <;> cases B <;> simp [Builtin.append_, run_underlying ht, sizeOf, typeInfo, hi, Builtin.lenOf, Builtin.firstCells, loadCells, loadCellsFrom, storeCells, h]
end

/-! ### The typical logarithm: the plain law -/
def pad3 (xs : List Int) : List Int := xs ++ List.replicate (3 - xs.length) 0
theorem length_pad3 {xs : List Int} (h : xs.length ≤ 3) : (pad3 xs).length = 3 := by simp [pad3]; omega
theorem pad3_num {m : Int} {xs : List Int} (hm : 0 < m) (h : NumL m xs) : NumL m (pad3 xs) := by
  intro j
  unfold pad3
  simp only [List.getD_eq_getElem?_getD, List.getElem?_append]
  split
  · have := h j
    rw [List.getD_eq_getElem?_getD] at this
    exact this
  · simp only [List.getElem?_replicate]
    split <;> simp <;> omega
/-- The coefficients of the logarithm as far as the power k of p. -/
def lgS (m : Int) (p : Nat) (u : Int) (nm : List Int) (n : Nat) : Nat → List Int
  | 0 => List.replicate n 0
  | k + 1 => (lgS m p u nm n k).set (p ^ k) (co nm k * powN m u k % m)
theorem length_lgS (m : Int) (p : Nat) (u : Int) (nm : List Int) (n k : Nat) : (lgS m p u nm n k).length = n := by
  induction k with
  | zero => simp [lgS]
  | succ k ih => simp [lgS, ih]
theorem lgS_stop (m : Int) (p : Nat) (hp : 1 ≤ p) (u : Int) (nm : List Int) (n k : Nat) (h : n ≤ p ^ k) : ∀ j, lgS m p u nm n (k + j) = lgS m p u nm n k
  | 0 => rfl
  | j + 1 => by
    rw [show k + (j + 1) = k + j + 1 by omega, lgS, lgS_stop m p hp u nm n k h j]
    apply List.set_eq_of_length_le
    rw [length_lgS]
    exact Nat.le_trans h (Nat.pow_le_pow_right hp (by omega))
def lgL (m : Int) (p : Nat) (u : Int) (nm : List Int) (n : Nat) : List Int := lgS m p u nm n 4
theorem length_lgL (m : Int) (p : Nat) (u : Int) (nm : List Int) (n : Nat) : (lgL m p u nm n).length = n := length_lgS _ _ _ _ _ _
theorem lgL_stop {m : Int} {p : Nat} (hp : 1 ≤ p) {u : Int} {nm : List Int} {n k : Nat} (hk : k ≤ 4) (h : n ≤ p ^ k) : lgS m p u nm n k = lgL m p u nm n := by
  unfold lgL
  rw [show 4 = k + (4 - k) by omega, lgS_stop m p hp u nm n k h]
theorem co_lgS_bd {m : Int} (hm : 0 < m) (p : Nat) (u : Int) (nm : List Int) (n k j : Nat) : 0 ≤ co (lgS m p u nm n k) j ∧ co (lgS m p u nm n k) j < m := by
  induction k with
  | zero => simp only [lgS, co, List.getD_eq_getElem?_getD, List.getElem?_replicate]; split <;> simp <;> omega
  | succ k ih =>
    simp only [lgS, co, List.getD_eq_getElem?_getD, List.getElem?_set] at ih ⊢
    have h1 := Int.emod_nonneg (nm[k]?.getD 0 * powN m u k) (show m ≠ 0 by omega)
    have h2 := Int.emod_lt_of_pos (nm[k]?.getD 0 * powN m u k) hm
    split
    · split
      · simp; omega
      · simp; omega
    · exact ih
theorem pw_next (m u : Int) (k : Nat) : powN m u k * u % m = powN m u (k + 1) := by
  unfold powN
  rw [Int.pow_succ, Int.mul_emod, Int.emod_emod_of_dvd _ (Int.dvd_refl m), ← Int.mul_emod]
/-- One of the four primes is a unit just if it does not divide the modulus. -/
theorem typ_unit {m : Int} {p : Nat} (hm : 2 ≤ m) (hp : p = 2 ∨ p = 3 ∨ p = 5 ∨ p = 7) : unitB m ((p : Int) % m) = !(m % (p : Int) == 0) := by
  have hg : Int.gcd ((p : Int) % m) m = Nat.gcd p m.toNat := by
    obtain ⟨M, rfl⟩ := Int.eq_ofNat_of_zero_le (show 0 ≤ m by omega)
    rw [← Int.natCast_emod, Int.toNat_natCast]
    show Nat.gcd (p % M) M = _
    rw [← Nat.gcd_rec, Nat.gcd_comm]
  have hdvd : Nat.gcd p m.toNat = 1 ↔ ¬ m % (p : Int) = 0 := by
    have h1 : Nat.gcd p m.toNat ∣ p := Nat.gcd_dvd_left ..
    have h2 : Nat.gcd p m.toNat ∣ m.toNat := Nat.gcd_dvd_right ..
    have h3 : m % (p : Int) = 0 ↔ p ∣ m.toNat := by
      rw [show m % (p : Int) = 0 ↔ (p : Int) ∣ m from ⟨Int.dvd_of_emod_eq_zero, Int.emod_eq_zero_of_dvd⟩]
      obtain ⟨M, rfl⟩ := Int.eq_ofNat_of_zero_le (show 0 ≤ m by omega)
      rw [Int.toNat_natCast]; exact Int.natCast_dvd_natCast
    rw [h3]
    constructor
    · intro h h4
      have : p ∣ Nat.gcd p m.toNat := Nat.dvd_gcd (Nat.dvd_refl p) h4
      rw [h] at this
      have := Nat.le_of_dvd (by omega) this
      omega
    · intro h
      have hle := Nat.le_of_dvd (by omega) h1
      generalize hgg : Nat.gcd p m.toNat = g at *
      have hne : g ≠ p := fun e => h (by rw [← e]; exact h2)
      rcases hp with rfl | rfl | rfl | rfl
      all_goals
        obtain ⟨c, hc⟩ := h1
        have hgle : g ≤ 7 := by omega
        rcases (show g = 0 ∨ g = 1 ∨ g = 2 ∨ g = 3 ∨ g = 4 ∨ g = 5 ∨ g = 6 ∨ g = 7 by omega) with e | e | e | e | e | e | e | e <;> subst e <;> omega
  unfold unitB
  rw [hg]
  by_cases c : m % (p : Int) = 0
  · have : ¬ Nat.gcd p m.toNat = 1 := fun h => (hdvd.1 h) c
    simp [c]; omega
  · have : Nat.gcd p m.toNat = 1 := hdvd.2 c
    simp [c, this]
def TypicalLogarithmR (p m d : Int) (xs : List Int) : (Int × List Int) × Int :=
  if typC p m xs 0 = 0 then (if inB d 1 10 = false then ((0, []), 2) else if m % p = 0 then ((0, []), 5) else ((m, lgL m p.toNat (invN m p) (nmL m p.toNat (pad3 xs)) (d.toNat + 1)), 0)) else ((0, []), typC p m xs 0)
theorem TypicalLogarithmR_len (p m d : Int) (xs : List Int) : (TypicalLogarithmR p m d xs).1.2.length ≤ 100 := by
  unfold TypicalLogarithmR
  split
  · cases hd : inB d 1 10
    · simp
    · have := inB_true.1 hd
      simp only [if_neg (show ¬ (true = false) by simp)]
      split
      · simp
      · simp only [length_lgL]; omega
  · simp

/-! ### Parameters with those that are missing: the walks -/
theorem appendZeros {w : World} {ops : Array Oper} {rest : List Oper} {o : Oper} {a : Act} {Q : Exit → Act → World → Prop} (s x : Operand) (B : Nat) (v : Value) (xs : List Int) (m : Nat)
    (hgd : o.guard = none) (ho : o.op = .call { callee := .builtin .append, args := #[s, x], argTypes := #[22, 3] })
    (hs : a.eval s = v) (hx : a.eval x = .int .i64 (m : Int)) (hv : OwnI w B v xs) (hm : m ≤ 1000000) (hl : xs.length ≤ 1000000) (hB : B ≤ w.heap.size)
    (h : ∀ v' w', OwnI w' B v' (xs ++ List.replicate m 0) → w.grownBy w' v.ownBlock → wpList Try.prog ops Q rest (a.put o.dst v') w') :
    wpList Try.prog ops Q (o :: rest) a w := by
  obtain ⟨i0, hi, hz0, hz1, hz2⟩ := info_parts T.info64
  refine wpList_plain hgd fun K hK => ?_
  obtain ⟨v', w', hr, h2, h3⟩ := run_append_zeros (P := Try.prog) w B 22 3 o.type 2 .i64 i0 (.int .i64 0) Try.underlying22 Try.underlying3 hi hz0 hz1 hz2 rfl rfl v xs.length (xs.map (Value.int .i64)) hv m .i64 (by omega) (by omega) hB
  unfold Oper.wp execOp
  simp only [ho, resolve, invoke, builtin, Sem.run_bind, Sem.run_pure, Result.andThen_ok, List.map_toArray, List.map_cons, List.map_nil, hs, hx, hr]
  refine hK _ _ (h v' w' ?_ h3)
  unfold OwnI
  simpa using h2
theorem appendEmpty {w : World} {ops : Array Oper} {rest : List Oper} {o : Oper} {a : Act} {Q : Exit → Act → World → Prop} (s x : Operand) (A : Option Addr) (n cap : Nat) (B : Option Addr) (c : Nat)
    (hgd : o.guard = none) (ho : o.op = .call { callee := .builtin .append, args := #[s, x], argTypes := #[22, 22] })
    (hs : a.eval s = .slice A n cap) (hx : a.eval x = .slice B 0 c) (hn : n ≤ cap)
    (h : wpList Try.prog ops Q rest (a.put o.dst (.slice A n cap)) w) :
    wpList Try.prog ops Q (o :: rest) a w := by
  obtain ⟨i0, hi, hz0, hz1, hz2⟩ := info_parts T.info64
  refine wpList_plain hgd fun K hK => ?_
  have hr := run_append_empty (P := Try.prog) w 22 o.type 2 i0 Try.underlying22 hi A n cap B c hn
  unfold Oper.wp execOp
  simp only [ho, resolve, invoke, builtin, Sem.run_bind, Sem.run_pure, Result.andThen_ok, List.map_toArray, List.map_cons, List.map_nil, hs, hx, hr]
  exact hK _ _ h
theorem copyOf_all (w : World) (v : Value) (xs : List Int) (hv : RdI w v xs) (hl : xs.length ≤ 1000000000) : Calls Try.prog 128 #[v] w (NewI w xs) := by
  rcases Nat.eq_zero_or_pos xs.length with h0 | h0
  · obtain ⟨A, c, e0, _⟩ := id hv
    have hx : xs = [] := List.eq_nil_of_length_eq_zero h0
    subst hx
    subst e0
    clear hv
    go_enter Try.func128, Try.ntmps128
    go_wp2_with (at_builtin; refine appendEmpty _ _ (some ⟨w.heap.size, 0, none⟩) 0 0 A c (by rfl) (by rfl) (by rfl) (by rfl) (Nat.le_refl _) ?_)
    go_ret
    exact ⟨some ⟨w.heap.size, 0, none⟩, 0, rfl, (RowI.lit w [] #[] rfl (by simp)).own (Nat.le_refl _), by (repeat (first | assumption | exact Below.refl _ _ | refine Below.alloc ?_ (by first | omega | (simp; done) | (simp; omega)) _ | refine Below.setCell ?_ (by first | omega | (simp; done) | (simp; omega)) _ | refine below_drewN ?_ _))⟩
  · exact copyOf_any w v xs xs hv rfl h0 hl
theorem l01Own_all (w : World) (v : Value) (xs : List Int) (hv : RdI w v xs) (hl : xs.length ≤ 1000000000) : Calls Try.prog 85 #[v] w (NewI w xs) := by
  rcases Nat.eq_zero_or_pos xs.length with h0 | h0
  · obtain ⟨A, c, e0, _⟩ := id hv
    have hx : xs = [] := List.eq_nil_of_length_eq_zero h0
    subst hx
    subst e0
    clear hv
    go_enter Try.func85, Try.ntmps85
    go_wp2_with (at_builtin; refine appendEmpty _ _ (some ⟨w.heap.size, 0, none⟩) 0 0 A c (by rfl) (by rfl) (by rfl) (by rfl) (Nat.le_refl _) ?_)
    go_ret
    exact ⟨some ⟨w.heap.size, 0, none⟩, 0, rfl, (RowI.lit w [] #[] rfl (by simp)).own (Nat.le_refl _), by (repeat (first | assumption | exact Below.refl _ _ | refine Below.alloc ?_ (by first | omega | (simp; done) | (simp; omega)) _ | refine Below.setCell ?_ (by first | omega | (simp; done) | (simp; omega)) _ | refine below_drewN ?_ _))⟩
  · exact l01Own_any w v xs xs hv rfl h0 hl
theorem padded_any (w : World) (v : Value) (xs zs : List Int) (hv : RdI w v xs) (hl : xs.length ≤ 3) (hz : pad3 xs = zs) : Calls Try.prog 98 #[v] w (NewI w zs) := by
  obtain ⟨A, c, e0, _⟩ := id hv
  subst e0
  have HZ := Lib.hid hz
  clear hz
  go_enter Try.func98, Try.ntmps98
  go_wp2_with (first | (go_at_call 128; refine (copyOf_all _ _ xs (hv.below (by (repeat (first | assumption | exact Below.refl _ _ | refine Below.alloc ?_ (by first | omega | (simp; done) | (simp; omega)) _ | refine Below.setCell ?_ (by first | omega | (simp; done) | (simp; omega)) _ | refine below_drewN ?_ _)))) (by omega)).mono ?_; rintro e w1 ⟨A1, c1, rfl, o1, hb1⟩) | (at_builtin; refine appendZeros _ _ w.heap.size _ xs (3 - xs.length) (by rfl) (by rfl) (by rfl) ?_ o1 (by omega) (by omega) hb1.size ?_; (focus (show Value.int IntKind.i64 (if (xs.length : Int) < 3 then 3 - (xs.length : Int) else 0) = Value.int IntKind.i64 ((3 - xs.length : Nat) : Int); congr 1; split <;> omega)); intro v' w2 ho hg; obtain ⟨A', c', e1⟩ := ho.form; subst e1))
  all_goals
    go_ret
    have hl3 : (xs ++ List.replicate (3 - xs.length) (0 : Int)).length = 3 := by simp; omega
    refine NewI.of (xs := xs ++ List.replicate (3 - xs.length) 0) ⟨A', c', by rw [hl3]; rfl, (by first | exact ho | (rw [hl3]; exact ho) | (rw [hl3] at ho ⊢; exact ho)), ?_⟩ HZ
    refine Below.grown hb1 hg hb1.size fun b hb => ?_
    exact (o1.block_ge hb).1
def lenS : Value → Nat
  | .slice _ n _ => n
  | _ => 0
theorem l09Three_any (w : World) (v : Value) (xs zs : List Int) (hv : RdI w v xs) (hl : xs.length ≤ 3) (hz : pad3 xs = zs) : Calls Try.prog 94 #[v] w (NewI w zs) := by
  obtain ⟨A, c, e0, _⟩ := id hv
  subst e0
  have HZ := Lib.hid hz
  clear hz
  go_enter Try.func94, Try.ntmps94
  go_wp2_with (go_at_call 85; refine (l01Own_all _ _ xs (hv.below (by (repeat (first | assumption | exact Below.refl _ _ | refine Below.alloc ?_ (by first | omega | (simp; done) | (simp; omega)) _ | refine Below.setCell ?_ (by first | omega | (simp; done) | (simp; omega)) _ | refine below_drewN ?_ _)))) (by omega)).mono ?_; rintro e w1 ⟨A1, c1, rfl, o1, hb1⟩)
  go_loopw [3] (fun s wr => ∃ (k : Nat) (A' : Option Addr) (c' : Nat), xs.length + k ≤ 3 ∧ s = .slice A' (xs.length + k : Nat) c' ∧ OwnI wr w.heap.size (.slice A' (xs.length + k : Nat) c') (xs ++ List.replicate k 0) ∧ Below w.heap.size w wr) (fun s _ => 3 - lenS s)
  case atStart => exact ⟨0, A1, c1, by omega, rfl, by simpa using o1, hb1⟩
  case round =>
    obtain ⟨k, A', c', hk, rfl, ho, hb⟩ := hrel
    have hz := hb.size
    have HL : Hid ((xs ++ List.replicate k (0 : Int)).length = xs.length + k) := by simp [Hid]
    by_cases hlt : xs.length + k < 3
    · have hlt1 : ((xs.length + k : Nat) : Int) < 3 := by omega
      go_wp2_with (at_builtin; refine wpAppend1 _ _ w.heap.size (.slice A' (xs.length + k : Nat) c') (xs ++ List.replicate k 0) (xs.length + k) 0 wr.heap.size (wr.heap.size + 1) (by rfl) (by rfl) (by rfl) (by rfl) (ho.alloc _) HL.out (RowI.block1 _) (by omega) (by simp; omega) (by simp) ?_; intro gg cap w2 hown1 hge hgrow hat)
      go_roundw
      case rel =>
        refine ⟨k + 1, _, cap, by omega, rfl, ?_, ?_⟩
        · rw [List.replicate_succ', ← List.append_assoc]
          exact hown1.own' hge (by simp)
        · refine Below.grown (hb.alloc hz _) hgrow (by simp; omega) fun b hb2 => ?_
          exact (ho.block_ge hb2).1
      case measure => simp [lenS]; omega
    · have hd : decide (((xs.length + k : Nat) : Int) < 3) = false := by simp; omega
      have hkr : k = 3 - xs.length := by omega
      subst hkr
      go_wp2
      go_ret
      refine NewI.of (xs := xs ++ List.replicate (3 - xs.length) 0) ⟨A', c', by rw [HL.out]; rfl, by rw [HL.out]; exact ho, hb⟩ HZ

/-! ### Planes: what lies in memory -/
theorem spot_none {w : World} {a : Addr} {u : Value} (h : w.cell? a = some u) : a.spot = none := by
  unfold World.cell? at h
  cases hs : a.spot with
  | none => rfl
  | some _ =>
    split at h
    · simp [hs] at h
    · cases h
section
open Go.ChangeShapes Go.WideShapes
variable {H : Type} {enc : TypeId × Value → H} {w : World}
theorem rdP_of_trod {fuel : Nat} {v : Value} {x : DataW H × List MemPlace} (h : DataW.trod enc Try.prog w 0 (fun _ => true) true fuel 69 [v] = some x) : ∃ xss, RdP w v xss := by
  have hlt := DataW.trod_lt _ _ _ _ h
  rcases Go.Deep.open_int_rows Try.underlying69 Try.underlying22 Try.underlying2 (by kernel_rfl) (by kernel_rfl) h with ⟨h1, _⟩ | ⟨a, len, cap, A, L, C, Z, h1, _, h2, h3, rfl, h5⟩
  · obtain rfl : v = .slice none 0 0 := by simpa using h1
    exact ⟨[], none, 0, rfl, Nat.le_refl _, by unfold maxLen; omega, fun k hk => by simp at hk⟩
  · obtain rfl : v = .slice (some a) len cap := by simpa using h1
    refine ⟨(List.range len).map fun r => (Z r).take (L r), some a, cap, by simp, by simpa using h2, h3, fun k hk => ?_⟩
    have hk' : k < len := by simpa using hk
    have hsp : a.spot = none := by
      have h0 := (h5 0 (by omega)).1
      have e0 : a.add 0 = a := by simp [Addr.add]
      rw [e0] at h0
      exact spot_none h0
    obtain ⟨c1, c2, c3, c4, _, c6, c7⟩ := h5 k (by omega)
    obtain ⟨b, off, sp⟩ := a
    simp only at hsp
    subst hsp
    refine ⟨b, off, _, rfl, hlt (.cell b (off + k)) (List.mem_append_left _ (MemPlace.mem_row.2 ⟨k, by omega, rfl⟩)), by rw [add_plain] at c1; exact c1, ?_⟩
    have hg : ((List.range len).map fun r => (Z r).take (L r)).getD k [] = (Z k).take (L k) := by simp [List.getD_eq_getElem?_getD, hk']
    rw [hg]
    have hl : ((Z k).take (L k)).length = L k := by rw [List.length_take]; omega
    refine ⟨A k, C k, by rw [hl], by omega, c3, fun j hj => ?_⟩
    rw [hl] at hj
    cases hA : A k with
    | none => have := c6 hA; omega
    | some a' =>
      obtain ⟨_, c8⟩ := c7 a' hA
      have hs' : a'.spot = none := by
        have h0 := c8 0 (by omega)
        have e0 : a'.add 0 = a' := by simp [Addr.add]
        rw [e0] at h0
        exact spot_none h0
      have hcj := c8 j (by omega)
      obtain ⟨b', off', sp'⟩ := a'
      simp only at hs'
      subst hs'
      refine ⟨b', off', rfl, hlt (.cell b' (off' + j)) (List.mem_append_right _ (List.mem_flatMap.2 ⟨k, List.mem_range.2 (by omega), ?_⟩)), ?_⟩
      · rw [hA]
        exact MemPlace.mem_row.2 ⟨j, by omega, rfl⟩
      · rw [add_plain] at hcj
        rw [hcj, List.getD_eq_getElem?_getD, List.getD_eq_getElem?_getD, List.getElem?_take, if_pos hj]
end
theorem madeCells_nil (n : Nat) : (madeCells #[Value.slice none 0 0] n).toList = List.replicate n (Value.slice none 0 0) := by
  apply List.ext_getElem
  · simp [madeCells]
  · intro i h1 h2
    simp [madeCells, Nat.mod_one]
theorem OwnP.made (w : World) (n : Nat) (hn : n ≤ 1000000000000) : OwnP (w.alloc (.cells (madeCells #[Value.slice none 0 0] n) 22)) w.heap.size (w.heap.size + 1) (.slice (some ⟨w.heap.size, 0, none⟩) n n) (List.replicate n []) := by
  have hg : ∀ k, k < n → (List.replicate n (Value.slice none 0 0)).getD k (.slice none 0 0) = .slice none 0 0 := fun k hk => by simp [List.getD_eq_getElem?_getD, hk]
  refine ⟨List.replicate n (.slice none 0 0), by simp, ?_, fun g hg => by simp [Value.ownBlock] at hg; omega, fun k hk => ?_, fun i j g hi hj hne he => ?_⟩
  · refine ⟨by simp, .inr ⟨w.heap.size, n, _, by simp, Nat.le_refl _, heap_alloc_new w _, by simp, by unfold maxLen; omega, by rw [size_madeCells]; simp, ?_⟩⟩
    rw [madeCells_nil, List.take_of_length_le (by simp)]
  · simp at hk
    rw [hg k hk]
    refine ⟨?_, fun g hg => by simp [Value.ownBlock] at hg⟩
    rw [show (List.replicate n ([] : List Int)).getD k [] = [] by simp [List.getD_eq_getElem?_getD, hk]]
    exact OwnI.nil_ _ _
  · simp at hi
    rw [hg i hi] at he
    simp [Value.ownBlock] at he
theorem makeP {w : World} {ops : Array Oper} {rest : List Oper} {o : Oper} {a : Act} {Q : Exit → Act → World → Prop} (l : Operand) (n : Nat)
    (hg : o.guard = none) (hop : o.op = Op.makeSlice 69 l l) (hl : a.eval l = .int .i64 (n : Int)) (hn : n ≤ 1000000000)
    (h : ∀ w', OwnP w' w.heap.size (w.heap.size + 1) (.slice (some ⟨w.heap.size, 0, none⟩) n n) (List.replicate n []) → Below w.heap.size w w' → w'.heap.size = w.heap.size + 1 → wpList Try.prog ops Q rest (a.put o.dst (.slice (some ⟨w.heap.size, 0, none⟩) n n)) w') :
    wpList Try.prog ops Q (o :: rest) a w := by
  obtain ⟨i0, hi, hz0, hz1, hz2⟩ := info_parts T.infoRow
  refine wpList_make_row w hg l l 69 hop 22 i0 (.slice none 0 0) Try.underlying69 hi hz0 hz1 rfl .i64 .i64 n hl hl (by rw [hz2]; omega) (by omega) ?_
  exact h _ (OwnP.made w n (by omega)) ((Below.refl _ _).alloc (Nat.le_refl _) _) (by simp)
/-- A new row is put in the place of row k. -/
theorem OwnP.store {w : World} {lo hi : Nat} {u : Value} {xss : List (List Int)} {ys : List Int} {g n c k : Nat} (h : OwnP w lo hi (.slice (some ⟨g, 0, none⟩) n c) xss) (hk : k < xss.length)
    (hu : OwnI w lo u ys) (hu2 : ∀ b, u.ownBlock = some b → hi ≤ b) : OwnP (w.setCell ⟨g, k, none⟩ u) lo w.heap.size (.slice (some ⟨g, 0, none⟩) n c) (xss.set k ys) := by
  obtain ⟨us, h1, h2, h3, h4, h5⟩ := h
  have hku : k < us.length := by omega
  have hgb : lo ≤ g ∧ g < w.heap.size := ownsRow_block_ge h2 rfl
  have hghi : g < hi := h3 g rfl
  have hsz : (w.setCell ⟨g, k, none⟩ u).heap.size = w.heap.size := by simp [World.setCell]
  have hoth : ∀ b, b ≠ g → (w.setCell ⟨g, k, none⟩ u).heap[b]? = w.heap[b]? := fun b hb => Below.heap_setCell w ⟨g, k, none⟩ u b (by simpa using hb)
  refine ⟨us.set k u, by simp [h1], ?_, fun b hb => ?_, fun j hj => ?_, fun i j b hi1 hj1 hne hb => ?_⟩
  · rcases h2.2 with ⟨h0, _⟩ | ⟨g', cap, cur, e0, e1, e2, e3, e4, e5, e6⟩
    · simp at h0
    · simp only [Value.slice.injEq, Option.some.injEq, Addr.mk.injEq] at e0
      obtain ⟨⟨rfl, _⟩, rfl, rfl⟩ := e0
      refine ⟨by simp, .inr ⟨g, c, cur.setIfInBounds k u, by simp, e1, ?_, by simpa using e3, e4, by simpa using e5, ?_⟩⟩
      · simp [World.setCell, Array.getElem?_modify, e2]
      · rw [Array.toList_setIfInBounds, List.length_set, List.take_set, e6]
  · simp [Value.ownBlock] at hb
    omega
  · have hj' : j < us.length := by simpa using hj
    by_cases hjk : j = k
    · subst hjk
      rw [show (us.set j u).getD j (.slice none 0 0) = u by simp [List.getD_eq_getElem?_getD, hj'], show (xss.set j ys).getD j [] = ys by simp [List.getD_eq_getElem?_getD, hk]]
      refine ⟨hu.of_block fun b hb => hoth b ?_, fun b hb => ⟨(hu.block_ge hb).2, ?_⟩⟩
      · have := hu2 b hb; omega
      · have := hu2 b hb
        simp [Value.ownBlock]; omega
    · rw [show (us.set k u).getD j (.slice none 0 0) = us.getD j (.slice none 0 0) by simp [List.getD_eq_getElem?_getD, Ne.symm hjk], show (xss.set k ys).getD j [] = xss.getD j [] by simp [List.getD_eq_getElem?_getD, Ne.symm hjk]]
      have h6 := h4 j hj'
      refine ⟨h6.1.of_block fun b hb => hoth b ?_, fun b hb => ⟨(h6.1.block_ge hb).2, (h6.2 b hb).2⟩⟩
      have := (h6.2 b hb).2
      simp [Value.ownBlock] at this
      omega
  · have hi2 : i < us.length := by simpa using hi1
    have hj2 : j < us.length := by simpa using hj1
    by_cases hik : i = k
    · subst hik
      rw [show (us.set i u).getD i (.slice none 0 0) = u by simp [List.getD_eq_getElem?_getD, hi2]] at hb
      rw [show (us.set i u).getD j (.slice none 0 0) = us.getD j (.slice none 0 0) by simp [List.getD_eq_getElem?_getD, hne]]
      intro hb2
      have := hu2 b hb
      have := ((h4 j hj2).2 b hb2).1
      omega
    · rw [show (us.set k u).getD i (.slice none 0 0) = us.getD i (.slice none 0 0) by simp [List.getD_eq_getElem?_getD, Ne.symm hik]] at hb
      by_cases hjk : j = k
      · subst hjk
        rw [show (us.set j u).getD j (.slice none 0 0) = u by simp [List.getD_eq_getElem?_getD, hj2]]
        intro hb2
        have := hu2 b hb2
        have := ((h4 i hi2).2 b hb).1
        omega
      · rw [show (us.set k u).getD j (.slice none 0 0) = us.getD j (.slice none 0 0) by simp [List.getD_eq_getElem?_getD, Ne.symm hjk]]
        exact h5 i j b hi2 hj2 hne hb
/-- The outer block's cell may be written. -/
theorem OwnP.outer {w : World} {lo hi : Nat} {xss : List (List Int)} {g n c : Nat} (h : OwnP w lo hi (.slice (some ⟨g, 0, none⟩) n c) xss) : lo ≤ g ∧ g < hi ∧ g < w.heap.size ∧ ∀ k, w.frozen? ⟨g, k, none⟩ = false := by
  obtain ⟨us, h1, h2, h3, h4, h5⟩ := h
  have hgb := ownsRow_block_ge h2 rfl
  refine ⟨hgb.1, h3 g rfl, hgb.2, fun k => ?_⟩
  rcases h2.2 with ⟨h0, _⟩ | ⟨g', cap, cur, e0, e1, e2, _⟩
  · simp at h0
  · simp only [Value.slice.injEq, Option.some.injEq, Addr.mk.injEq] at e0
    obtain ⟨⟨rfl, _⟩, _⟩ := e0
    simp [World.frozen?, e2]
theorem OwnP.cell {w : World} {lo hi : Nat} {xss : List (List Int)} {g n c : Nat} (h : OwnP w lo hi (.slice (some ⟨g, 0, none⟩) n c) xss) {k : Nat} (hk : k < xss.length) :
    ∃ A c', w.cell? ⟨g, k, none⟩ = some (.slice A (xss.getD k []).length c') := by
  obtain ⟨g', c1, A, c', e, _, _, _, h5, _⟩ := h.row hk
  simp only [Value.slice.injEq, Option.some.injEq, Addr.mk.injEq] at e
  obtain ⟨⟨rfl, _⟩, _⟩ := e
  exact ⟨A, c', h5⟩
/-- A new list of lists is returned. -/
def NewP (w : World) (xss : List (List Int)) (e : Ending) (w' : World) : Prop := ∃ A c, e = .returned (.slice A xss.length c) ∧ OwnP w' w.heap.size w'.heap.size (.slice A xss.length c) xss ∧ Below w.heap.size w w'
/-- A new plane is returned. -/
def NewPl (w : World) (m : Int) (xss : List (List Int)) (e : Ending) (w' : World) : Prop := ∃ A c, e = .returned (.agg #[.int .i64 m, .slice A xss.length c]) ∧ OwnP w' w.heap.size w'.heap.size (.slice A xss.length c) xss ∧ Below w.heap.size w w'

/-! ### Tables of planes -/
def tab (n : Nat) (f : Nat → Nat → Int) : List (List Int) := (List.range n).map fun i => lst (n - i) (f i)
def co2 (xss : List (List Int)) (i j : Nat) : Int := co (xss.getD i []) j
theorem length_tab (n : Nat) (f : Nat → Nat → Int) : (tab n f).length = n := by simp [tab]
theorem getD_tab {n : Nat} (f : Nat → Nat → Int) {i : Nat} (h : i < n) : (tab n f).getD i [] = lst (n - i) (f i) := by simp [tab, List.getD_eq_getElem?_getD, h]
theorem co2_tab {n : Nat} (f : Nat → Nat → Int) {i j : Nat} (h : i + j < n) : co2 (tab n f) i j = f i j := by
  unfold co2 co
  rw [getD_tab f (by omega), getD_lst _ _ _ (by omega)]
theorem tab_congr {n : Nat} {f g : Nat → Nat → Int} (e : ∀ i j, i + j < n → f i j = g i j) : tab n f = tab n g := by
  unfold tab
  apply List.map_congr_left
  intro i hi
  have := List.mem_range.1 hi
  exact lst_congr fun j hj => e i j (by omega)
def upd2 (f : Nat → Nat → Int) (i j : Nat) (y : Int) : Nat → Nat → Int := fun a b => if a = i ∧ b = j then y else f a b
theorem set_tab (n : Nat) (f : Nat → Nat → Int) (i j : Nat) (y : Int) : (tab n f).set i ((lst (n - i) (f i)).set j y) = tab n (upd2 f i j y) := by
  apply List.ext_getElem
  · simp [tab]
  · intro k h1 h2
    have hk : k < n := by simpa [tab] using h2
    rw [List.getElem_set]
    have e2 : (tab n (upd2 f i j y))[k] = lst (n - k) (upd2 f i j y k) := by simp [tab]
    rw [e2]
    by_cases h : i = k
    · subst h
      rw [if_pos rfl, set_lst]
      apply lst_congr
      intro b _
      by_cases hb : b = j
      · simp [upd, upd2, hb]
      · simp [upd, upd2, hb]
    · rw [if_neg h]
      have e3 : (tab n f)[k]'(by simpa [tab] using hk) = lst (n - k) (f k) := by simp [tab]
      rw [e3]
      apply lst_congr
      intro b _
      simp [upd2, Ne.symm h]
theorem set_tab' (n : Nat) (f : Nat → Nat → Int) (i j : Nat) (y : Int) (h : i < n) : (tab n f).set i (((tab n f).getD i []).set j y) = tab n (upd2 f i j y) := by rw [getD_tab f h, set_tab]
theorem tab_self {xss : List (List Int)} (h : ∀ i, i < xss.length → (xss.getD i []).length = xss.length - i) : tab xss.length (co2 xss) = xss := by
  apply List.ext_getElem
  · simp [tab]
  · intro k h1 h2
    have e2 : (tab xss.length (co2 xss))[k] = lst (xss.length - k) (co2 xss k) := by simp [tab]
    have e3 : xss.getD k [] = xss[k] := by simp [List.getD_eq_getElem?_getD, h2]
    rw [e2, ← h k h2, ← e3]
    exact lst_self _
/-- The table filled row by row, up to place j of row i. -/
def fil2 (F : Nat → Nat → Int) (i j : Nat) : Nat → Nat → Int := fun a b => if a < i ∨ (a = i ∧ b < j) then F a b else 0
theorem fil2_zero (F : Nat → Nat → Int) (n : Nat) : tab n (fun _ _ => 0) = tab n (fil2 F 0 0) := tab_congr fun a b _ => by simp [fil2]
theorem fil2_step (F : Nat → Nat → Int) (n i j : Nat) : tab n (upd2 (fil2 F i j) i j (F i j)) = tab n (fil2 F i (j + 1)) := tab_congr fun a b _ => by
  unfold upd2 fil2
  by_cases h : a = i ∧ b = j
  · obtain ⟨rfl, rfl⟩ := h
    simp
  · rw [if_neg h]
    by_cases h2 : a < i ∨ (a = i ∧ b < j)
    · rw [if_pos h2, if_pos (by omega)]
    · rw [if_neg h2, if_neg (by omega)]
theorem fil2_row (F : Nat → Nat → Int) (n i : Nat) : tab n (fil2 F i (n - i)) = tab n (fil2 F (i + 1) 0) := tab_congr fun a b hab => by
  unfold fil2
  by_cases h2 : a < i + 1 ∨ (a = i + 1 ∧ b < 0)
  · rw [if_pos h2, if_pos (by omega)]
  · rw [if_neg h2, if_neg (by omega)]
theorem fil2_all (F : Nat → Nat → Int) (n : Nat) : tab n (fil2 F n 0) = tab n F := tab_congr fun a b hab => by
  unfold fil2
  rw [if_pos (by omega)]
/-! ### Planes -/
def isPl (m : Int) (xss : List (List Int)) : Bool := isModB m && inB xss.length 2 11 && (List.range xss.length).all fun i => decide ((xss.getD i []).length = xss.length - i) && numsB m (xss.getD i [])
theorem isPl_true {m : Int} {xss : List (List Int)} (h : isPl m xss = true) : isModB m = true ∧ (2 ≤ xss.length ∧ xss.length ≤ 11) ∧ ∀ i, i < xss.length → (xss.getD i []).length = xss.length - i ∧ numsB m (xss.getD i []) = true := by
  simp only [isPl, Bool.and_eq_true, List.all_eq_true, List.mem_range, decide_eq_true_eq] at h
  have := inB_true.1 h.1.2
  exact ⟨h.1.1, by omega, h.2⟩
theorem numsB_num {m : Int} {xs : List Int} (hm : 0 < m) (h : numsB m xs = true) (k : Nat) : 0 ≤ co xs k ∧ co xs k < m := by
  unfold co
  rcases Nat.lt_or_ge k xs.length with hk | hk
  · rw [List.getD_eq_getElem?_getD, List.getElem?_eq_getElem hk]
    unfold numsB at h
    rw [List.all_eq_true] at h
    exact isNumB_true (h _ (List.getElem_mem hk))
  · rw [List.getD_eq_getElem?_getD, List.getElem?_eq_none hk]
    simp
    omega
theorem isPl_num {m : Int} {xss : List (List Int)} (h : isPl m xss = true) (i j : Nat) : 0 ≤ co2 xss i j ∧ co2 xss i j < m := by
  obtain ⟨h1, _, h3⟩ := isPl_true h
  have h4 := isModB_true h1
  unfold co2
  rcases Nat.lt_or_ge i xss.length with hi | hi
  · exact numsB_num (by omega) (h3 i hi).2 j
  · have : xss.getD i [] = [] := by rw [List.getD_eq_getElem?_getD, List.getElem?_eq_none hi]; rfl
    rw [this]
    simp [co]
    omega
theorem isPl_tab {m : Int} {xss : List (List Int)} (h : isPl m xss = true) : tab xss.length (co2 xss) = xss := tab_self fun i hi => ((isPl_true h).2.2 i hi).1
theorem isPl_len {m : Int} {xss : List (List Int)} (h : isPl m xss = true) {i : Nat} (hi : i < xss.length) : (xss.getD i []).length = xss.length - i := ((isPl_true h).2.2 i hi).1
/-- Up to row k all is well. -/
theorem isPl_take_succ (m : Int) (xss : List (List Int)) (k : Nat) (hk : k < xss.length) (h : ∀ i, i < k → (xss.getD i []).length = xss.length - i ∧ numsB m (xss.getD i []) = true) (h1 : (xss.getD k []).length = xss.length - k) (h2 : numsB m (xss.getD k []) = true) :
    ∀ i, i < k + 1 → (xss.getD i []).length = xss.length - i ∧ numsB m (xss.getD i []) = true := fun i hi => by
  rcases Nat.lt_or_ge i k with h' | h'
  · exact h i h'
  · obtain rfl : i = k := by omega
    exact ⟨h1, h2⟩
theorem isPl_of (m : Int) (xss : List (List Int)) (h1 : isModB m = true) (h2 : inB xss.length 2 11 = true) (h : ∀ i, i < xss.length → (xss.getD i []).length = xss.length - i ∧ numsB m (xss.getD i []) = true) : isPl m xss = true := by
  simp only [isPl, Bool.and_eq_true, List.all_eq_true, List.mem_range, decide_eq_true_eq]
  exact ⟨⟨h1, h2⟩, h⟩
theorem isPl_not {m : Int} {xss : List (List Int)} {k : Nat} (hk : k < xss.length) (h : (xss.getD k []).length ≠ xss.length - k ∨ numsB m (xss.getD k []) = false) : isPl m xss = false := by
  cases e : isPl m xss with
  | false => rfl
  | true =>
    obtain ⟨_, _, h3⟩ := isPl_true e
    have := h3 k hk
    rcases h with h | h
    · exact absurd this.1 h
    · rw [h] at this; simp at this

/-! ### The laws' helpers on planes -/
def RetPI (w : World) (r : (Int × List (List Int)) × Int) (e : Ending) (w' : World) : Prop := ∃ A c, e = .returned (.tuple #[.agg #[.int .i64 r.1.1, .slice A r.1.2.length c], .int .i64 r.2]) ∧ OwnP w' w.heap.size w'.heap.size (.slice A r.1.2.length c) r.1.2 ∧ Below w.heap.size w w'
theorem RetPI.of {w : World} {r r' : (Int × List (List Int)) × Int} {e : Ending} {w' : World} (h : RetPI w r e w') (he : Hid (r = r')) : RetPI w r' e w' := by rw [← he.out]; exact h
theorem OwnP.far {w : World} {lo hi : Nat} {v : Value} {xss : List (List Int)} (h : OwnP w lo hi v xss) {p : Addr} (hp : p.block < lo ∨ hi ≤ p.block) (u : Value) : OwnP (w.setCell p u) lo hi v xss :=
  h.of_block fun k _ h1 h2 => Below.heap_setCell w p u k (by omega)
theorem OwnP.alloc {w : World} {lo hi : Nat} {v : Value} {xss : List (List Int)} (h : OwnP w lo hi v xss) (o : Obj) : OwnP (w.alloc o) lo hi v xss :=
  h.of_block fun k hk _ _ => Below.heap_alloc w o k hk
theorem OwnP.hi_le {w : World} {lo hi : Nat} {v : Value} {xss : List (List Int)} (h : OwnP w lo hi v xss) : OwnP w lo w.heap.size v xss := by
  obtain ⟨us, k1, k2, k3, k4, k5⟩ := h
  exact ⟨us, k1, k2, fun g hg => (ownsRow_block_ge k2 hg).2, fun k hk => ⟨(k4 k hk).1, fun g hg => ⟨((k4 k hk).1.block_ge hg).2, ((k4 k hk).2 g hg).2⟩⟩, k5⟩
theorem copyP_step (xss : List (List Int)) (k : Nat) (hk : k < xss.length) : (xss.take k ++ List.replicate (xss.length - k) []).set k (xss.getD k []) = xss.take (k + 1) ++ List.replicate (xss.length - (k + 1)) [] := by
  have h1 : (xss.take k).length = k := by simp; omega
  rw [List.set_append_right _ _ (by omega), h1, Nat.sub_self, List.take_succ_eq_append_getElem hk, List.getD_eq_getElem?_getD, List.getElem?_eq_getElem hk, List.append_assoc]
  congr 1
  obtain ⟨m, hm⟩ : ∃ m, xss.length - k = m + 1 := ⟨xss.length - k - 1, by omega⟩
  rw [hm, show xss.length - (k + 1) = m by omega, List.replicate_succ]
  rfl
theorem len_le_cnt (xss : List (List Int)) (k : Nat) (hk : k < xss.length) : (xss.getD k []).length ≤ cntP xss := by
  have := cntP_take_succ xss k hk
  have := cntP_take_le xss (k + 1)
  omega

/-! ### Planes of the program and of the reference: what is one -/
theorem OwnP.at_ {w : World} {lo hi : Nat} {v : Value} {xss : List (List Int)} (h : OwnP w lo hi v xss) : ∃ A c, v = .slice A xss.length c ∧ xss.length ≤ c ∧ c ≤ 2 ^ 63 - 1 ∧ ∀ k, k < xss.length → ∃ g Ar cr, A = some ⟨g, 0, none⟩ ∧ g < w.heap.size ∧ w.cell? ⟨g, k, none⟩ = some (.slice Ar (xss.getD k []).length cr) ∧ OwnI w lo (.slice Ar (xss.getD k []).length cr) (xss.getD k []) := by
  obtain ⟨A, c, rfl, h1, h2⟩ := h.form
  refine ⟨A, c, rfl, h1, h2, fun k hk => ?_⟩
  obtain ⟨g, c2, A2, c', e, _, _, h5, h6, _, h7, _⟩ := h.row hk
  simp only [Value.slice.injEq] at e
  exact ⟨g, A2, c', e.1, h5, h6, h7⟩

/-! ### IsPlane, CoefficientOf -/
def IsPlaneR (m : Int) (xss : List (List Int)) : Bool := isPl m xss
def CoefficientOfR (m : Int) (xss : List (List Int)) (i j : Int) : Int × Int := if isPl m xss = false then (0, 1) else if inB i 0 ((xss.length : Int) - 1) = false then (0, 2) else if inB j 0 ((xss.length : Int) - 1 - i) = false then (0, 2) else (co2 xss i.toNat j.toNat, 0)

/-! ### RowOfPlane -/
theorem cell_store2 {w : World} {b g a : Nat} {x y u : Value} (h : w.cell? ⟨g, a, none⟩ = some u) (hne : g ≠ b) : ((w.setCell ⟨b, 0, none⟩ x).setCell ⟨b, 1, none⟩ y).cell? ⟨g, a, none⟩ = some u := by
  rw [World.cell?_setCell_other _ _ _ _ (by intro e; apply hne; simpa using (congrArg Addr.block e).symm), World.cell?_setCell_other _ _ _ _ (by intro e; apply hne; simpa using (congrArg Addr.block e).symm)]
  exact h
def RowOfPlaneR (m : Int) (xss : List (List Int)) (i : Int) : (Int × List Int) × Int := if isPl m xss = false then ((0, []), 1) else if inB i 0 ((xss.length : Int) - 1 - 1) = false then ((0, []), 2) else ((m, xss.getD i.toNat []), 0)
theorem RowOfPlaneR_len (m : Int) (xss : List (List Int)) (i : Int) : (RowOfPlaneR m xss i).1.2.length ≤ 100 := by
  unfold RowOfPlaneR
  cases h : isPl m xss
  · simp
  · have h2 := (isPl_true h).2.1
    cases hd : inB i 0 ((xss.length : Int) - 1 - 1)
    · simp
    · have := inB_true.1 hd
      simp only [Bool.true_eq_false, if_false]
      rw [isPl_len h (by omega)]
      omega

/-! ### New tables of zeros -/
theorem stepAppendP {W : World} {ops : Array Oper} {o : Oper} {a : Act} {K : Act → World → Prop} {Q : Exit → Act → World → Prop} {E : Prop} (s x : Operand) (lo hi : Nat) (v u : Value) (xss : List (List Int)) (ys : List Int) (n b H : Nat)
    (hgd : o.guard = none) (ho : o.op = .call { callee := .builtin .append, args := #[s, x], argTypes := #[69, 69] })
    (hs : a.eval s = v) (hx : a.eval x = .slice (some ⟨b, 0, none⟩) 1 1) (hv : OwnP W lo hi v xss) (hn : xss.length = n) (hhi : hi ≤ W.heap.size) (hu : OwnI W lo u ys) (hu2 : ∀ g, u.ownBlock = some g → hi ≤ g)
    (hb : W.heap[b]? = some (.cells #[u] 22 (0, 0))) (hl : n ≤ 1000000000000) (hB : lo ≤ W.heap.size) (hH : W.heap.size = H)
    (h : ∀ g c w', OwnP w' lo w'.heap.size (.slice (some ⟨g, 0, none⟩) (n + 1) c) (xss ++ [ys]) → W.grownBy w' v.ownBlock → (v.ownBlock = some g ∨ g = H) → K (a.put o.dst (.slice (some ⟨g, 0, none⟩) (n + 1) c)) w') :
    if Region.wanted o (yielded ops a.tmps) = true then Oper.wp Try.prog o a W K Q else E := by
  subst hn
  obtain ⟨i0, hi0, hz0, hz1, hz2⟩ := info_parts T.infoRow
  obtain ⟨us, h1, h2, h3, h4, h5⟩ := hv
  obtain ⟨Au, cu, eu⟩ := hu.form
  refine step_append_lies W hgd s x 69 ho lo 22 i0 (.slice none 0 0) 1 24 Try.underlying69 hi0 hz0 hz1 hz2 rfl (by decide) v us.length us hs h2 ⟨b, 0, none⟩ 1 1 [u] hx rfl (World.news_of_block (cs := #[u]) hb) (fun q hq => by simp at hq; subst hq; subst eu; rfl) (by decide) (by unfold maxLen; omega) (by omega) hB H hH ?_
  intro g c w' n2 hg hat _
  have hbl : (Value.slice (some ⟨g, 0, none⟩) (us.length + 1) c).ownBlock = v.ownBlock ∨ (Value.slice (some ⟨g, 0, none⟩) (us.length + 1) c).ownBlock = some W.heap.size := by
    rcases hat with h | h
    · exact .inl (by rw [h]; rfl)
    · exact .inr (by rw [h, hH]; rfl)
  have ho' := OwnP.push h1 h2 h3 h4 h5 hhi hu hu2 n2 hg hbl
  rw [h1] at ho' ⊢
  exact h g c w' ho' hg hat
theorem ownP_block_ge {w : World} {lo hi g : Nat} {v : Value} {xss : List (List Int)} (h : OwnP w lo hi v xss) (hg : v.ownBlock = some g) : lo ≤ g := by
  obtain ⟨us, _, h2, _⟩ := h
  exact (ownsRow_block_ge h2 hg).1
theorem below_grownP {B : Nat} {w0 w w' : World} {v : Value} (h : Below B w0 w) (hB : B ≤ w.heap.size) (hg : w.grownBy w' v.ownBlock) (hv : ∀ g, v.ownBlock = some g → B ≤ g) : Below B w0 w' := h.grown hg hB fun b hb => hv b hb
theorem Bf.grown {w w' : World} {b : Nat} {x y : Value} {row : Option Nat} (h : Bf w b x y) (R : w.grownBy w' row) (hne : some b ≠ row) : Bf w' b x y := by
  have e : w'.heap[b]? = w.heap[b]? := R.block b h.1.1 hne
  exact ⟨⟨Nat.lt_of_lt_of_le h.1.1 R.size, (World.cell?_of_block (a := ⟨b, 0, none⟩) e).trans h.1.2.1, (World.cell?_of_block (a := ⟨b, 1, none⟩) e).trans h.1.2.2⟩, (World.frozen?_of_block (a := ⟨b, 0, none⟩) e).trans h.2.1, (World.frozen?_of_block (a := ⟨b, 1, none⟩) e).trans h.2.2⟩
theorem Bf.set1 {w : World} {b : Nat} {x y : Value} (h : Bf w b x y) (y' : Value) : Bf (w.setCell ⟨b, 1, none⟩ y') b x y' := by
  obtain ⟨⟨h1, h2, h3⟩, h4, h5⟩ := h
  exact ⟨⟨by simpa [World.setCell] using h1, (World.cell?_setCell_other _ _ _ _ (by simp)).trans h2, World.cell?_setCell_same _ _ _ h3⟩, by simp [h4], by simp [h5]⟩
def zt (n k : Nat) : List (List Int) := (List.range k).map fun i => List.replicate (n - i) (0 : Int)
theorem length_zt (n k : Nat) : (zt n k).length = k := by simp [zt]
theorem zt_succ (n k : Nat) : zt n (k + 1) = zt n k ++ [List.replicate (n - k) 0] := by simp [zt, List.range_succ]
theorem zt_all (n : Nat) : zt n n = tab n fun _ _ => 0 := by
  unfold zt tab
  apply List.map_congr_left
  intro i _
  exact replicate_lst _
theorem made_own (w : World) (n : Nat) (hn : n ≤ 1000000000000) (lo : Nat) (hlo : lo ≤ w.heap.size) : OwnI (w.alloc (.cells (madeCells #[Value.int .i64 0] n) 2)) lo (.slice (some ⟨w.heap.size, 0, none⟩) n n) (List.replicate n 0) := by
  have h : RowI (w.alloc (.cells (madeCells #[Value.int .i64 0] n) 2)) w.heap.size n (List.replicate n 0) := by
    refine ⟨by simp, by unfold maxLen; omega, _, heap_alloc_new w _, size_madeCells _ _, ?_⟩
    rw [madeCells_zero, List.take_of_length_le (by simp)]
  exact h.own' hlo (by simp)
set_option maxRecDepth 8000 in
set_option maxHeartbeats 1000000 in
theorem l03Zero_any (w : World) (d : Int) (n : Nat) (hd : d + 1 = (n : Int)) (hn : n ≤ 1000000) : Calls Try.prog 121 #[.int .i64 d] w (NewP w (tab n fun _ _ => 0)) := by
  have hd2 : d = (n : Int) - 1 := by omega
  subst hd2
  clear hd
  go_enter Try.func121, Try.ntmps121
  go_wp2
  go_loopw [3, 4] (fun s i wr => ∃ (k : Nat) (A : Option Addr) (c : Nat), k ≤ n ∧ s = .slice A k c ∧ i = .int .i64 k ∧ Hid (OwnP wr w.heap.size wr.heap.size (.slice A k c) (zt n k)) ∧ Hid (Below w.heap.size w wr)) (fun _ i _ => n + 1 - (intOf i).toNat)
  case atStart => exact ⟨0, some ⟨w.heap.size, 0, none⟩, 0, Nat.zero_le _, rfl, rfl, (by unfold Hid; simpa [zt] using OwnP.lit0 w (Nat.le_refl _)), by unfold Hid; (repeat (first | assumption | exact Below.refl _ _ | refine Below.alloc ?_ (by first | omega | (simp; done) | (simp; omega)) _ | refine Below.setCell ?_ (by first | omega | (simp; done) | (simp; omega)) _ | refine below_drewN ?_ _))⟩
  case round =>
    obtain ⟨k, A, c, hk, rfl, rfl, HO, HB⟩ := hrel
    have hz := HB.out.size
    by_cases hlt : k < n
    · have hk1 : (k : Int) ≤ (n : Int) - 1 := by omega
      obtain ⟨r, hr⟩ : ∃ r, r = n - k := ⟨_, rfl⟩
      have hr2 : k + r ≤ n ∧ n ≤ k + r := by omega
      have HS : Hid (zt n (k + 1) = zt n k ++ [List.replicate r 0]) := by rw [hr]; exact zt_succ n k
      clear hr
      have v1 : (n : Int) - 1 - (k : Int) + 1 = (r : Int) := by omega
      go_wp2_with (first | (at_make; refine makeI _ r (by rfl) (by rfl) (by rfl) (by omega) ?_; intro w0 hr0 hb0 hs0; have HS0 := Lib.hid hs0; have HR := Lib.hid hr0; have HB0 := Lib.hid hb0; have hsz : w0.heap.size ≤ wr.heap.size + 1 ∧ wr.heap.size + 1 ≤ w0.heap.size := (by rw [hs0]; omega); clear hs0 hr0 hb0) | (at_builtin; refine appendP _ _ w.heap.size wr.heap.size (.slice A k c) (.slice (some ⟨wr.heap.size, 0, none⟩) r r) (zt n k) (List.replicate r 0) w0.heap.size (by rfl) (by rfl) (by rfl) (by rfl) ((HO.out.keep HB0.out).alloc _) (by simp; omega) ((HR.out.alloc _).own' hz (by simp)) (by intro g hg; simp [Value.ownBlock] at hg; omega) (heap_alloc_new w0 _) (by rw [length_zt]; omega) (by simp; omega) ?_; intro A2 c2 w2 ho2 hg2; rw [length_zt] at ho2 ⊢))
      go_roundw
      case rel => exact ⟨k + 1, A2, c2, by omega, rfl, by go_num, by rw [HS.out]; exact ho2, by unfold Hid; exact below_grownP ((HB.out.trans (HB0.out.mono hz)).alloc (by omega) _) (by simp; omega) hg2 (fun g hg => (ownP_block_ge HO.out hg))⟩
      case measure => simp [intOf]; omega
    · obtain rfl : k = n := by omega
      have hd5 : decide ((k : Int) ≤ (k : Int) - 1) = false := by simp; omega
      have HZ := Lib.hid (zt_all k)
      have HL : Hid ((tab k fun _ _ => 0).length = k) := length_tab _ _
      go_wp2
      go_ret
      exact ⟨A, c, by rw [HL.out]; rfl, by rw [HL.out, ← HZ.out]; exact HO.out, HB.out⟩

/-! ### Planes of the program: a number for each coefficient -/
theorem OwnP.rowW {w : World} {lo hi : Nat} {xss : List (List Int)} {g n c : Nat} (h : OwnP w lo hi (.slice (some ⟨g, 0, none⟩) n c) xss) {i : Nat} (hi' : i < xss.length) {A : Option Addr} {l c' : Nat} (hc : w.cell? ⟨g, i, none⟩ = some (.slice A l c')) :
    l = (xss.getD i []).length ∧ l ≤ c' ∧ c' ≤ 2 ^ 63 - 1 ∧ ∀ j, j < l → ∃ gr, A = some ⟨gr, 0, none⟩ ∧ gr ≠ g ∧ lo ≤ gr ∧ gr < hi ∧ gr < w.heap.size ∧ w.cell? ⟨gr, j, none⟩ = some (.int .i64 (co2 xss i j)) ∧ w.frozen? ⟨gr, j, none⟩ = false ∧
      ∀ y : Int, OwnP (w.setCell ⟨gr, j, none⟩ (.int .i64 y)) lo hi (.slice (some ⟨g, 0, none⟩) n c) (xss.set i ((xss.getD i []).set j y)) := by
  obtain ⟨g', c1, Ar, cr, e, h1, h2, h3, hcell, hfr, hown, hblk, hset⟩ := h.row hi'
  simp only [Value.slice.injEq, Option.some.injEq, Addr.mk.injEq] at e
  obtain ⟨⟨rfl, _⟩, _, rfl⟩ := e
  rw [hcell] at hc
  simp only [Option.some.injEq, Value.slice.injEq] at hc
  obtain ⟨rfl, rfl, rfl⟩ := hc
  obtain ⟨A2, cp2, e2, hc3, hc4, hA2⟩ := hown.open_
  simp only [Value.slice.injEq] at e2
  obtain ⟨e3, _, e4⟩ := e2
  subst e3 e4
  refine ⟨rfl, hc3, hc4, fun j hj => ?_⟩
  obtain ⟨gr, hgr, h4, h5, h6, h7⟩ := hA2 j hj
  subst hgr
  have h8 := hblk gr rfl
  refine ⟨gr, rfl, h8.2, h4, h8.1, h5, h6, h7, fun y => ?_⟩
  refine hset _ _ ?_ (grownBy_setCell w ⟨gr, j, none⟩ _)
  rcases hown.row with ⟨h9, _⟩ | ⟨g9, c9, e9, h9, hr9⟩
  · simp at h9
  · simp only [Value.slice.injEq, Option.some.injEq, Addr.mk.injEq] at e9
    obtain ⟨⟨rfl, _⟩, _, rfl⟩ := e9
    exact (hr9.set_ j y).own' h9 (by simp)
/-- The function g, with what it has captured, computes p at the places of a table, in every world in which all that lay in w lies unturned. -/
def Pred2 (w : World) (g : FuncId) (caps : Array Value) (n : Nat) (p : Nat → Nat → Int) : Prop :=
  (∀ args w, (callFunc g args).run Try.prog w = .ok (.enter g args) w) ∧ ∀ (W : World) (i j : Nat), Below w.heap.size w W → i + j < n → Calls Try.prog g (#[.int .i64 (i : Int), .int .i64 (j : Int)] ++ caps) W fun e W' => e = .returned (.int .i64 (p i j)) ∧ ∃ k, W' = W.drewN k
/-- A table in blocks from B on, away from the box bo. -/
def OwnPx (wx : World) (B bo : Nat) (v : Value) (xss : List (List Int)) : Prop := ∃ lo hi, B ≤ lo ∧ (bo < lo ∨ hi ≤ bo) ∧ hi ≤ wx.heap.size ∧ OwnP wx lo hi v xss
theorem OwnPx.of {wx : World} {B bo lo hi : Nat} {v : Value} {xss : List (List Int)} (h : OwnP wx lo hi v xss) (h1 : B ≤ lo) (h2 : bo < lo ∨ hi ≤ bo) (h3 : hi ≤ wx.heap.size) : OwnPx wx B bo v xss := ⟨lo, hi, h1, h2, h3, h⟩

/-! ### Exchanged variables -/
theorem OwnP.at2 {w : World} {lo hi : Nat} {A : Option Addr} {n c : Nat} {xss : List (List Int)} (h : OwnP w lo hi (.slice A n c) xss) {i j : Nat} (hi' : i < xss.length) (hj : j < (xss.getD i []).length) :
    ∃ g gr cr, A = some ⟨g, 0, none⟩ ∧ g < w.heap.size ∧ w.cell? ⟨g, i, none⟩ = some (.slice (some ⟨gr, 0, none⟩) (xss.getD i []).length cr) ∧ gr < w.heap.size ∧ w.cell? ⟨gr, j, none⟩ = some (.int .i64 (co2 xss i j)) ∧ (xss.getD i []).length ≤ cr := by
  obtain ⟨g, c2, Ar, cr, e, _, _, h3, hcell, _, hown, _, _⟩ := h.row hi'
  simp only [Value.slice.injEq] at e
  obtain ⟨rfl, _, _⟩ := e
  obtain ⟨A2, cp2, e2, hc3, hc4, hA2⟩ := hown.open_
  simp only [Value.slice.injEq] at e2
  obtain ⟨e3, _, e4⟩ := e2
  subst e3 e4
  obtain ⟨gr, rfl, _, h5, h6, _⟩ := hA2 j hj
  exact ⟨g, gr, cr, rfl, h3, hcell, h5, h6, hc3⟩
/-- The rows have the lengths of a plane's. -/
def Tri (n : Nat) (xss : List (List Int)) : Prop := xss.length = n ∧ ∀ i, i < n → (xss.getD i []).length = n - i
theorem Tri.tab (n : Nat) (f : Nat → Nat → Int) : Tri n (tab n f) := ⟨length_tab n f, fun i hi => by rw [getD_tab f hi, length_lst]⟩
theorem isPl_tri {m : Int} {xss : List (List Int)} (h : isPl m xss = true) : Tri xss.length xss := ⟨rfl, fun _ hi => isPl_len h hi⟩
/-- All numbers lie from 0 to below m. -/
def Num2 (m : Int) (xss : List (List Int)) : Prop := ∀ i j, 0 ≤ co2 xss i j ∧ co2 xss i j < m
theorem isPl_num2 {m : Int} {xss : List (List Int)} (h : isPl m xss = true) : Num2 m xss := isPl_num h
theorem RetPI.zero {w w' : World} {k : Int} (h : Below w.heap.size w w') : RetPI w ((0, []), k) (.returned (.tuple #[.agg #[.int .i64 0, .slice none 0 0], .int .i64 k])) w' := ⟨none, 0, rfl, OwnP.nil_ _ _ _, h⟩
theorem RetPI.mk {w w' : World} {m : Int} {n : Nat} {A : Option Addr} {c lo hi : Nat} {xss : List (List Int)} {k : Int} (h : OwnP w' lo hi (.slice A n c) xss) (hn : xss.length = n) (hlo : w.heap.size ≤ lo) (hb : Below w.heap.size w w') : RetPI w ((m, xss), k) (.returned (.tuple #[.agg #[.int .i64 m, .slice A n c], .int .i64 k])) w' := by
  subst hn
  exact ⟨A, c, rfl, h.hi_le.mono hlo (Nat.le_refl _), hb⟩
theorem OwnP.far2 {w : World} {lo hi b : Nat} {v x y : Value} {xss : List (List Int)} (h : OwnP w lo hi v xss) (hp : b < lo ∨ hi ≤ b) : OwnP ((w.setCell ⟨b, 0, none⟩ x).setCell ⟨b, 1, none⟩ y) lo hi v xss := (h.far hp x).far hp y
def TurnPlaneR (m : Int) (xss : List (List Int)) : (Int × List (List Int)) × Int := if isPl m xss = false then ((0, []), 1) else ((m, tab xss.length fun i j => co2 xss j i), 0)
theorem cntP_tab_le (n : Nat) (f : Nat → Nat → Int) : cntP (tab n f) ≤ n * n := by
  have h : ∀ k, k ≤ n → cntP ((tab n f).take k) ≤ k * n := by
    intro k
    induction k with
    | zero => simp [cntP]
    | succ k ih =>
      intro hk
      rw [cntP_take_succ _ _ (by rw [length_tab]; omega), getD_tab f (by omega), length_lst]
      have := ih (by omega)
      rw [Nat.succ_mul]
      omega
  have := h n (Nat.le_refl _)
  rwa [List.take_of_length_le (by rw [length_tab]; exact Nat.le_refl _)] at this
theorem cntP_tab_100 {n : Nat} (f : Nat → Nat → Int) (hn : n ≤ 12) : cntP (tab n f) ≤ 200 := by
  have := cntP_tab_le n f
  have h : n * n ≤ 12 * 12 := Nat.mul_le_mul hn hn
  omega
theorem TurnPlaneR_len (m : Int) (xss : List (List Int)) : cntP (TurnPlaneR m xss).1.2 ≤ 200 := by
  unfold TurnPlaneR
  cases h : isPl m xss
  · simp [cntP]
  · have := (isPl_true h).2.1
    exact cntP_tab_100 _ (by omega)

/-! ### ChangePlane -/
def rowsF (f : Nat → List Int) (k : Nat) : List (List Int) := (List.range k).map f
theorem length_rowsF (f : Nat → List Int) (k : Nat) : (rowsF f k).length = k := by simp [rowsF]
theorem rowsF_succ (f : Nat → List Int) (k : Nat) : rowsF f (k + 1) = rowsF f k ++ [f k] := by simp [rowsF, List.range_succ]
theorem cntP_rowsF {f : Nat → List Int} {b : Nat} : ∀ {k : Nat}, (∀ i, i < k → (f i).length ≤ b) → cntP (rowsF f k) ≤ k * b
  | 0, _ => by simp [rowsF, cntP]
  | k + 1, h => by
    rw [rowsF_succ, cntP_append, Nat.succ_mul]
    have h1 := cntP_rowsF (k := k) fun i hi => h i (by omega)
    have h2 := h k (by omega)
    simp [cntP]
    omega
theorem OwnP.start {W : World} {lo : Nat} (h : lo ≤ W.heap.size) : OwnP (W.alloc (.cells #[] 22)) lo (W.alloc (.cells #[] 22)).heap.size (.slice (some ⟨W.heap.size, 0, none⟩) 0 0) [] := by simpa using OwnP.lit0 W h
theorem OwnP.source {w : World} {lo hi : Nat} {v : Value} {xss : List (List Int)} (h : OwnP w lo hi v xss) (n : Nat) (hn : xss.length = n) (hn1 : 1 ≤ n) : ∃ g c, v = .slice (some ⟨g, 0, none⟩) n c ∧ n ≤ c ∧ c ≤ 2 ^ 63 - 1 ∧ g < w.heap.size ∧ ∀ k, k < n → ∃ Ar cr, w.cell? ⟨g, k, none⟩ = some (.slice Ar (xss.getD k []).length cr) ∧ OwnI w lo (.slice Ar (xss.getD k []).length cr) (xss.getD k []) := by
  subst hn
  obtain ⟨A, c, rfl, hc1, hc2, hA⟩ := h.at_
  obtain ⟨g, _, _, rfl, hg, _, _⟩ := hA 0 (by omega)
  refine ⟨g, c, rfl, hc1, hc2, hg, fun k hk => ?_⟩
  obtain ⟨g', Ar, cr, e, _, h1, h2⟩ := hA k hk
  simp only [Option.some.injEq, Addr.mk.injEq] at e
  obtain ⟨rfl, _⟩ := e
  exact ⟨Ar, cr, h1, h2⟩
def ChangePlaneR (m : Int) (xss : List (List Int)) (d : Int) : (Int × List (List Int)) × Int := if isPl m xss = false then ((0, []), 1) else if (isModB d && m % d == 0) = false then ((0, []), 2) else ((d, rowsF (fun i => rests d (xss.getD i [])) xss.length), 0)
theorem ChangePlaneR_len (m : Int) (xss : List (List Int)) (d : Int) : cntP (ChangePlaneR m xss d).1.2 ≤ 200 := by
  unfold ChangePlaneR
  cases h : isPl m xss
  · simp [cntP]
  · have h2 := (isPl_true h).2.1
    cases hd : (isModB d && m % d == 0)
    · simp [cntP]
    · simp only [Bool.true_eq_false, if_false]
      have := cntP_rowsF (f := fun i => rests d (xss.getD i [])) (b := 11) (k := xss.length) fun i hi => by
        simp only [rests, List.length_map]
        rw [isPl_len h hi]; omega
      omega
theorem row_bound {m : Int} {xss : List (List Int)} (h : isPl m xss = true) (i k : Nat) : 0 ≤ (xss.getD i []).getD k 0 ∧ (xss.getD i []).getD k 0 < 1000000 := by
  have h1 := isPl_num h i k
  have h2 := isModB_true (isPl_true h).1
  unfold co2 co at h1
  omega
theorem mod_ne {m d : Int} (h1 : 0 ≤ m) : m.tmod d = m % d := Int.tmod_eq_emod_of_nonneg h1

/-! ### Cut planes -/
theorem take_lst (xs : List Int) (r : Nat) (h : r ≤ xs.length) : xs.take r = lst r (co xs) := by
  apply List.ext_getElem
  · rw [length_lst, List.length_take]; omega
  · intro i h1 h2
    have hi : i < r := by rw [length_lst] at h2; exact h2
    have e : (lst r (co xs))[i] = co xs i := by simp [lst]
    rw [e, List.getElem_take]
    unfold co
    rw [List.getD_eq_getElem?_getD, List.getElem?_eq_getElem (by omega)]
    rfl
theorem fil2_setRow (F : Nat → Nat → Int) (n k : Nat) : (tab n (fil2 F k 0)).set k (lst (n - k) (F k)) = tab n (fil2 F (k + 1) 0) := by
  apply List.ext_getElem
  · simp [tab]
  · intro a h1 h2
    have ha : a < n := by simpa [tab] using h2
    rw [List.getElem_set]
    have e2 : (tab n (fil2 F (k + 1) 0))[a] = lst (n - a) (fil2 F (k + 1) 0 a) := by simp [tab]
    have e3 : (tab n (fil2 F k 0))[a]'(by simpa [tab] using ha) = lst (n - a) (fil2 F k 0 a) := by simp [tab]
    rw [e2]
    by_cases h : k = a
    · subst h
      rw [if_pos rfl]
      exact lst_congr fun b _ => by simp [fil2]
    · rw [if_neg h, e3]
      apply lst_congr
      intro b _
      unfold fil2
      by_cases h3 : a < k ∨ (a = k ∧ b < 0)
      · rw [if_pos h3, if_pos (by omega)]
      · rw [if_neg h3, if_neg (by omega)]
theorem rows_tab (xss : List (List Int)) (n : Nat) (h : ∀ i, i < n → n - i ≤ (xss.getD i []).length) : rowsF (fun i => (xss.getD i []).take (n - i)) n = tab n (co2 xss) := by
  unfold rowsF tab
  apply List.map_congr_left
  intro i hi
  have := List.mem_range.1 hi
  exact take_lst _ _ (h i this)
theorem copyI {w : World} {ops : Array Oper} {rest : List Oper} {o : Oper} {a : Act} {Q : Exit → Act → World → Prop} (d s : Operand)
    (hgd : o.guard = none) (ho : o.op = .call { callee := .builtin .copy, args := #[d, s], argTypes := #[22, 22] }) (g c r sl sc B C : Nat) (As : Option Addr)
    (hd : a.eval d = .slice (some ⟨g, 0, none⟩) r c) (hs : a.eval s = .slice As sl sc) (xs cur : List Int) (hx : OwnI w B (.slice As sl sc) xs) (hsl : xs.length = sl) (hrl : r ≤ sl) (hr : OwnI w C (.slice (some ⟨g, 0, none⟩) r c) cur) (hcl : cur.length = r) (hr0 : 0 < r)
    (h : ∀ w', OwnI w' C (.slice (some ⟨g, 0, none⟩) r c) (xs.take r) → w.grownBy w' (some g) → wpList Try.prog ops Q rest (a.put o.dst (goInt r)) w') : wpList Try.prog ops Q (o :: rest) a w := by
  subst hsl
  rcases hr.row with ⟨h0, _⟩ | ⟨g', c', e0, hC, hR⟩
  · simp at h0
  simp only [Value.slice.injEq, Option.some.injEq, Addr.mk.injEq] at e0
  obtain ⟨⟨rfl, _⟩, _, rfl⟩ := e0
  obtain ⟨hR1, hR2, cu, hcu, hcs, hct⟩ := hR
  rcases hx.row with ⟨h0, h1⟩ | ⟨gs, cs', e1, _, hS⟩
  · subst h1; simp at hrl; omega
  simp only [Value.slice.injEq] at e1
  obtain ⟨rfl, _, rfl⟩ := e1
  have hlen : ((xs.take r).map (Value.int .i64)).length = r := by simp; omega
  refine wpList_copy_own hgd d s 22 22 ho 2 Try.underlying22 (by kernel_rfl) g 0 r c ⟨gs, 0, none⟩ xs.length sc hd hs cu 2 hcu ((xs.take r).map (Value.int .i64)) (by rw [hlen]; exact (Nat.min_eq_right hrl).symm) ?_ (by rw [hlen]; omega) (fun v hv => by obtain ⟨x, _, rfl⟩ := List.mem_map.1 hv; rfl) ?_
  · intro j v hj
    have hjl : j < r := by
      have := (List.getElem?_eq_some_iff.1 hj).1
      rwa [hlen] at this
    have hjx : j < xs.length := by omega
    have hv : v = .int .i64 (xs.getD j 0) := by
      rw [List.getElem?_map, List.getElem?_take, if_pos hjl, List.getElem?_eq_getElem hjx] at hj
      rw [List.getD_eq_getElem?_getD, List.getElem?_eq_getElem hjx]
      simpa using hj.symm
    rw [Go.WideShapes.add_plain, Nat.zero_add, hv]
    exact hS.cell hjx
  · have e : ([] ++ ((xs.take r).map (Value.int .i64) ++ cu.toList.drop (0 + ((xs.take r).map (Value.int .i64)).length))) = (xs.take r).map (Value.int .i64) ++ cu.toList.drop r := by rw [hlen]; simp
    have h2 := h (w.setRow g ((xs.take r).map (Value.int .i64) ++ cu.toList.drop r).toArray) ?_ ?_
    · simp only [List.take_zero]
      rw [e, hlen]
      exact h2
    · have hrow : RowI (w.setRow g ((xs.take r).map (Value.int .i64) ++ cu.toList.drop r).toArray) g c (xs.take r) := by
        refine ⟨by simp; omega, hR2, _, setRow_heap w g cu _ _ _ hcu, ?_, ?_⟩
        · simp
          have : cu.toList.length = c := by rw [Array.length_toList]; exact hcs
          simp at this
          omega
        · have hl2 : (xs.take r).length = r := by simp; omega
          rw [hl2]
          show ((xs.take r).map (Value.int .i64) ++ cu.toList.drop r).take r = _
          rw [List.take_append_of_le_length (by simp; omega), List.take_of_length_le (by simp; omega)]
      exact hrow.own' hC (by simp; omega)
    · exact ⟨rfl, rfl, rfl, by simp [World.setRow], fun k _ hne => setRow_other w g k _ (by rintro rfl; exact hne rfl)⟩
set_option maxRecDepth 8000 in
set_option maxHeartbeats 2000000 in
theorem l03Cut_any (w : World) (v : Value) (xss zss : List (List Int)) (d : Int) (n n2 : Nat) (lo hi : Nat) (hv : OwnP w lo hi v xss) (ht : Tri n xss) (hd : d + 1 = (n2 : Int)) (h1 : 1 ≤ n2) (h2 : n2 ≤ n) (hn : n ≤ 1000) (hz : (tab n2 (co2 xss)) = zss) :
    Calls Try.prog 123 #[v, .int .i64 d] w (NewP w zss) := by
  have hd2 : d = (n2 : Int) - 1 := by omega
  subst hd2
  obtain ⟨g, c, rfl, hc1, hc2, hg, hA⟩ := hv.source n ht.1 (by omega)
  have HRW : Hid (rowsF (fun i => (xss.getD i []).take (n2 - i)) n2 = zss) := by
    unfold Hid
    rw [rows_tab xss n2 fun i hi => by rw [ht.2 i (by omega)]; omega]
    exact hz
  have HA := Lib.hid hA
  have HT := Lib.hid ht
  clear hd hA hv ht hz
  go_enter Try.func123, Try.ntmps123
  go_wp2
  go_loopw [5, 6] (fun s i wr => ∃ (k : Nat) (A : Option Addr) (c : Nat), k ≤ n2 ∧ s = .slice A k c ∧ i = .int .i64 k ∧ Hid (OwnP wr w.heap.size wr.heap.size (.slice A k c) (rowsF (fun i => (xss.getD i []).take (n2 - i)) k)) ∧ Hid (Below w.heap.size w wr)) (fun _ i _ => n2 + 1 - (intOf i).toNat)
  case atStart => exact ⟨0, _, 0, Nat.zero_le _, rfl, rfl, OwnP.start (Nat.le_refl _), by unfold Hid; (repeat (first | assumption | exact Below.refl _ _ | refine Below.alloc ?_ (by first | omega | (simp; done) | (simp; omega)) _ | refine Below.setCell ?_ (by first | omega | (simp; done) | (simp; omega)) _ | refine below_drewN ?_ _))⟩
  case round =>
    obtain ⟨k, A, c', hk, rfl, rfl, HO, HB⟩ := hrel
    have hz := HB.out.size
    by_cases hlt : k < n2
    · have hk1 : (k : Int) ≤ (n2 : Int) - 1 := by omega
      obtain ⟨Ar, cr, hcell, hown⟩ := HA.out k (by omega)
      have hc0 := (HB.out.cell (p := ⟨g, k, none⟩) hg).trans hcell
      have HOX := Lib.hid (hown.keep HB.out (Nat.le_refl _))
      obtain ⟨x, hx⟩ : ∃ x, x = xss.getD k [] := ⟨_, rfl⟩
      have hxl : x.length = n - k := by rw [hx]; exact HT.out.2 k (by omega)
      obtain ⟨r, hr⟩ : ∃ r, r = n2 - k := ⟨_, rfl⟩
      have hr2 : r ≤ x.length ∧ x.length ≤ 1000 ∧ 1 ≤ r := by omega
      have hr3 : k + r ≤ n2 ∧ n2 ≤ k + r := by omega
      have hxc : x.length ≤ cr := by
        obtain ⟨A2, c2, e2, hq, _⟩ := hown.open_
        simp only [Value.slice.injEq] at e2
        rw [← hx] at hq
        omega
      obtain ⟨y, hy⟩ : ∃ y, x.take r = y := ⟨_, rfl⟩
      have HS2 : Hid (rowsF (fun i => (xss.getD i []).take (n2 - i)) (k + 1) = rowsF (fun i => (xss.getD i []).take (n2 - i)) k ++ [y]) := by unfold Hid; rw [rowsF_succ, ← hy, hx, hr]
      have HYL : Hid (y.length = r) := by unfold Hid; rw [← hy, List.length_take]; omega
      rw [← hx] at hc0 HOX
      have HY := Lib.hid hy
      have HXL := Lib.hid hxl
      clear hcell hown hx hy hr hxl
      have hk0 : (0 : Int) ≤ (k : Int) := by omega
      have hk2 : (k : Int) < (n : Int) := by omega
      have v1 : (n2 : Int) - 1 - (k : Int) + 1 = (r : Int) := by omega
      have hw2 : (0 : Int) ≤ (r : Int) := by omega
      have hw3 : (r : Int) ≤ (cr : Int) := by omega
      go_wp2_with (first | (go_at_call 85; refine (l01Own_any _ _ (x.take r) y (OwnI.rdTake HOX.out hr2.1) HY.out (by rw [HY.out, HYL.out]; omega) (by rw [HY.out, HYL.out]; omega)).mono ?_; rintro e w3 ⟨A3, c3, rfl, o3, hb3⟩; have O3 := Lib.hid o3; have R3 := Lib.hid hb3; have s3 := hb3.size; clear o3) | (at_builtin; refine appendP _ _ w.heap.size wr.heap.size (.slice A k c') (.slice A3 y.length c3) (rowsF (fun i => (xss.getD i []).take (n2 - i)) k) y w3.heap.size (by rfl) (by rfl) (by rfl) (by rfl) ((HO.out.keep R3.out).alloc _) (by simp; omega) ((O3.out.alloc _).mono (by omega)) (fun g hg => (O3.out.block_ge hg).1) (heap_alloc_new w3 _) (by rw [length_rowsF]; omega) (by simp; omega) ?_; intro A2 c2 w2 ho2 hg2; rw [length_rowsF] at ho2 ⊢))
      go_roundw
      case rel =>
        refine ⟨k + 1, A2, c2, by omega, rfl, by go_num, by rw [HS2.out]; exact ho2, ?_⟩
        unfold Hid
        exact below_grownP ((HB.out.trans (R3.out.mono hz)).alloc (by omega) _) (by simp; omega) hg2 (fun g hg => ownP_block_ge HO.out hg)
      case measure => simp [intOf]; omega
    · have hkn : k = n2 := by omega
      have hd5 : decide ((k : Int) ≤ (n2 : Int) - 1) = false := by simp; omega
      have hO := HO.out
      rw [hkn, HRW.out] at hO
      have HL : Hid (zss.length = n2) := by unfold Hid; rw [← HRW.out, length_rowsF]
      have HO2 := Lib.hid hO
      clear hO
      subst hkn
      go_wp2
      go_ret
      exact ⟨A, c', by rw [HL.out]; rfl, by rw [HL.out]; exact HO2.out, HB.out⟩

/-! ### A series on an axis -/
theorem co_lst' {d : Nat} {g : Nat → Int} {k : Nat} (h : k < d) : co (lst d g) k = g k := getD_lst _ _ _ h
def varL (n : Nat) : List Int := lst n fun k => if k = 1 then 1 else 0
theorem length_varL (n : Nat) : (varL n).length = n := length_lst _ _
theorem var_set (n : Nat) : (List.replicate n (0 : Int)).set 1 1 = varL n := by
  rw [replicate_lst, set_lst]
  rfl
def axF (xs : List Int) (k : Int) (i j : Nat) : Int := if k = 0 then (if j = 0 then co xs i else 0) else if i = 0 then co xs j else 0
theorem variable_any (w : World) (m d : Int) (n : Nat) (hd : d + 1 = (n : Int)) (hn2 : 2 ≤ n) (hn : n ≤ 1000000) : Calls Try.prog 114 #[.int .i64 m, .int .i64 d] w (NewS w m (varL n)) := by
  have hd2 : d = (n : Int) - 1 := by omega
  subst hd2
  have HL : Hid ((varL n).length = n) := length_varL n
  clear hd
  go_enter Try.func114, Try.ntmps114
  go_wp2_with (go_at_call 60; refine (zero_any _ m _ n (by omega) (by omega)).mono ?_; rintro e w1 ⟨g, rfl, hg, hr, hb1⟩; obtain ⟨P1, K1⟩ := Bf.first1 hb1; have p1a := P1.1.2.1; have p1b := P1.1.2.2; have z1 := P1.1.1; have p1c := P1.2.1; have p1d := P1.2.2; have hg2 : w.heap.size + 1 ≤ g := (by simpa using hg); have hd0 := hr.cell (k := 1) (by simp; omega); have hf0 := hr.free 1; have HR := Lib.hid hr; clear hr; have hk1 : (1 : Int) < (n : Int) := (by omega); have hk2 : 1 < n := (by omega); have hk3 : ¬ n ≤ 1 := (by omega); have zg := HR.out.lt; have B1 := Bf.alloc1 w1 (.int .i64 m) (.slice (some ⟨g, 0, none⟩) n n) 26; have b1a := B1.1.2.1; have b1b := B1.1.2.2; have hd1 := ((Lib.hid (HR.out.alloc (.cells #[.int .i64 m, .slice (some ⟨g, 0, none⟩) n n] 26))).out).cell (k := 1) (by simp; omega); have hf1 := ((Lib.hid (HR.out.alloc (.cells #[.int .i64 m, .slice (some ⟨g, 0, none⟩) n n] 26))).out).free 1)
  have B3 := ((P1.setCell (p := ⟨g, 1, none⟩) (by simp; omega) (.int .i64 1)).store2 (x' := .int .i64 m) (y' := .slice (some ⟨g, 0, none⟩) n n)).alloc (.cells #[.int .i64 m, .slice (some ⟨g, 0, none⟩) n n] 26)
  have b3a := B3.1.2.1
  have b3b := B3.1.2.2
  have HR2 := (((HR.out.set_ 1 1).far (p := ⟨w.heap.size, 0, none⟩) (by simp; omega) (.int .i64 m)).far (p := ⟨w.heap.size, 1, none⟩) (by simp; omega) (.slice (some ⟨g, 0, none⟩) n n)).alloc (.cells #[.int .i64 m, .slice (some ⟨g, 0, none⟩) n n] 26)
  rw [var_set] at HR2
  exact bodyPost_ret (v := .agg #[.int .i64 m, .slice (some ⟨g, 0, none⟩) n n]) (by simp [results, Try.results114, go_sem, b3a, b3b]) rfl ⟨some ⟨g, 0, none⟩, n, by rw [HL.out], by rw [HL.out]; exact HR2.own' (by omega) HL.out, (((K1.setCell (by simp; omega) _).setCell (by simp) _).setCell (by simp) _).alloc (by simp [World.setCell]; omega) _⟩

theorem Num2.tab {m : Int} (hm : 0 < m) (n : Nat) (f : Nat → Nat → Int) (h : ∀ i j, 0 ≤ f i j ∧ f i j < m) : Num2 m (tab n f) := fun i j => by
  unfold co2
  rcases Nat.lt_or_ge i n with hi | hi
  · rw [getD_tab f hi]
    exact NumL.lst hm (fun k _ => h i k) j
  · rw [show (Go.Proofs.Ytfdklbimdkaaiaa.tab n f).getD i [] = [] by rw [List.getD_eq_getElem?_getD, List.getElem?_eq_none (by rw [length_tab]; omega)]; rfl]
    simp [co]
    omega

/-! ### Standard laws: conditions, variables, sums -/
def stdB (m d : Int) (xs : List Int) : Bool := isModB m && inB d 1 10 && numsB m xs
def stdN (m d : Int) (xs : List Int) : Int := if stdB m d xs = true then 0 else 2

theorem OwnP.top {w : World} {lo hi B : Nat} {v : Value} {xss : List (List Int)} (h : OwnP w lo hi v xss) (hB : B ≤ lo) : OwnP w B w.heap.size v xss := h.hi_le.mono hB (Nat.le_refl _)

/-! ### Sums of planes -/
/-! ### AdditiveLaw -/
def AdditiveLawR (m d : Int) : (Int × List (List Int)) × Int := if stdB m d [] = false then ((0, []), 2) else ((m, tab (d + 1).toNat fun i j => if (i = 1 ∧ j = 0) ∨ (i = 0 ∧ j = 1) then 1 else 0), 0)
theorem stdB_true {m d : Int} {xs : List Int} (h : stdB m d xs = true) : (2 ≤ m ∧ m ≤ 10000) ∧ (1 ≤ d ∧ d ≤ 10) ∧ numsB m xs = true := by
  simp only [stdB, Bool.and_eq_true] at h
  exact ⟨isModB_true h.1.1, inB_true.1 h.1.2, h.2⟩
theorem AdditiveLawR_len (m d : Int) : cntP (AdditiveLawR m d).1.2 ≤ 200 := by
  unfold AdditiveLawR
  cases h : stdB m d []
  · simp [cntP]
  · have := stdB_true h
    exact cntP_tab_100 _ (by omega)
theorem axF_var (n : Nat) (k : Int) (i j : Nat) (h : i + j < n) : axF (varL n) k i j = if k = 0 then (if i = 1 ∧ j = 0 then 1 else 0) else if i = 0 ∧ j = 1 then 1 else 0 := by
  have e : ∀ q, q < n → co (varL n) q = if q = 1 then 1 else 0 := fun q hq => by unfold varL; rw [co_lst' hq]
  simp only [axF]
  by_cases hk : k = 0
  · simp only [hk, if_true]
    rw [e i (by omega)]
    by_cases h1 : j = 0 <;> by_cases h2 : i = 1 <;> simp [h1, h2]
  · simp only [hk, if_false]
    rw [e j (by omega)]
    by_cases h1 : j = 1 <;> by_cases h2 : i = 0 <;> simp [h1, h2]
theorem xy_sum (m : Int) (n : Nat) (hm : 2 ≤ m) : (tab n fun i j => (co2 (tab n (axF (varL n) 0)) i j + co2 (tab n (axF (varL n) 1)) i j) % m) = tab n fun i j => if (i = 1 ∧ j = 0) ∨ (i = 0 ∧ j = 1) then 1 else 0 := tab_congr fun i j hij => by
  rw [co2_tab _ hij, co2_tab _ hij, axF_var n 0 i j hij, axF_var n 1 i j hij]
  have e1 : (1 : Int) % m = 1 := Int.emod_eq_of_lt (by omega) (by omega)
  by_cases h1 : i = 1
  · subst h1
    by_cases h2 : j = 0 <;> simp [h2, e1]
  · by_cases h2 : i = 0
    · subst h2
      by_cases h3 : j = 1 <;> simp [h3, e1]
    · simp [h1, h2]
theorem var_num2 (m : Int) (hm : 2 ≤ m) (n : Nat) (k : Int) : Num2 m (tab n (axF (varL n) k)) := fun i j => by
  rcases Nat.lt_or_ge (i + j) n with h | h
  · rw [co2_tab _ h, axF_var n k i j h]
    by_cases hk : k = 0
    · simp only [hk, if_true]; split <;> omega
    · simp only [hk, if_false]; split <;> omega
  · have : co2 (tab n (axF (varL n) k)) i j = 0 := by
      unfold co2
      rcases Nat.lt_or_ge i n with hi | hi
      · rw [getD_tab _ hi]
        unfold co
        exact getD_lst_ge _ _ _ (by omega)
      · rw [show (tab n (axF (varL n) k)).getD i [] = [] by rw [List.getD_eq_getElem?_getD, List.getElem?_eq_none (by rw [length_tab]; omega)]; rfl]
        rfl
    rw [this]
    omega
def mulF (m c : Int) (i j : Nat) : Int := if (i = 1 ∧ j = 0) ∨ (i = 0 ∧ j = 1) then 1 else if i = 1 ∧ j = 1 then c % m else 0
theorem mul_upd (m c : Int) (n : Nat) (_hn : 3 ≤ n) (hc : 0 ≤ c ∧ c < m) : tab n (upd2 (upd2 (upd2 (fun _ _ => 0) 1 0 1) 0 1 1) 1 1 c) = tab n (mulF m c) := tab_congr fun i j _ => by
  have e : c % m = c := Int.emod_eq_of_lt hc.1 hc.2
  unfold upd2 mulF
  by_cases h1 : i = 1
  · subst h1
    by_cases h2 : j = 1
    · subst h2; simp [e]
    · by_cases h3 : j = 0 <;> simp [h2, h3]
  · by_cases h4 : i = 0
    · subst h4
      by_cases h2 : j = 1 <;> simp [h2]
    · simp [h1, h4]
theorem mul_upd2 (m c : Int) (n : Nat) (hn : n = 2) : tab n (upd2 (upd2 (fun _ _ => 0) 1 0 1) 0 1 1) = tab n (mulF m c) := tab_congr fun i j hij => by
  unfold upd2 mulF
  by_cases h1 : i = 1
  · subst h1
    have : j = 0 := by omega
    subst this
    simp
  · have h4 : i = 0 := by omega
    subst h4
    by_cases h2 : j = 1 <;> simp [h2]
theorem mul_zero (m : Int) (n : Nat) : tab n (mulF m 0) = tab n fun i j => if (i = 1 ∧ j = 0) ∨ (i = 0 ∧ j = 1) then 1 else 0 := tab_congr fun i j _ => by
  unfold mulF
  simp
/-- A cell of a table, and what a store into it makes. -/
theorem OwnP.put {w : World} {lo hi : Nat} {g n c : Nat} {f : Nat → Nat → Int} (h : OwnP w lo hi (.slice (some ⟨g, 0, none⟩) n c) (tab n f)) {i j : Nat} (hij : i + j < n) :
    ∃ gr cr, w.cell? ⟨g, i, none⟩ = some (.slice (some ⟨gr, 0, none⟩) (n - i) cr) ∧ gr ≠ g ∧ lo ≤ gr ∧ gr < hi ∧ gr < w.heap.size ∧ w.cell? ⟨gr, j, none⟩ = some (.int .i64 (f i j)) ∧ w.frozen? ⟨gr, j, none⟩ = false ∧ ∀ y : Int, OwnP (w.setCell ⟨gr, j, none⟩ (.int .i64 y)) lo hi (.slice (some ⟨g, 0, none⟩) n c) (tab n (upd2 f i j y)) := by
  obtain ⟨Ar, cr, hcell⟩ := h.cell (k := i) (by rw [length_tab]; omega)
  rw [getD_tab _ (by omega), length_lst] at hcell
  obtain ⟨-, _, _, hw⟩ := h.rowW (i := i) (by rw [length_tab]; omega) hcell
  obtain ⟨gr, rfl, h1, h2, h3, h4, h5, h6, h7⟩ := hw j (by omega)
  rw [co2_tab f hij] at h5
  exact ⟨gr, cr, hcell, h1, h2, h3, h4, h5, h6, fun y => by rw [← set_tab' _ _ _ _ _ (by omega)]; exact h7 y⟩

/-! ### Products of planes: the plain law -/
def fT (f g : Nat → Nat → Int) (i j a b : Nat) : Int := if i ≤ a ∧ j ≤ b then f i j * g (a - i) (b - j) else 0
def rowS (f g : Nat → Nat → Int) (i J a b : Nat) : Int := sumN (fun j => fT f g i j a b) J
def allS (n : Nat) (f g : Nat → Nat → Int) (I a b : Nat) : Int := sumN (fun i => rowS f g i (n - i) a b) I
def stS (n : Nat) (f g : Nat → Nat → Int) (i j a b : Nat) : Int := allS n f g i a b + rowS f g i j a b
/-- Coefficient (a, b) of the product of two planes. -/
def tmF (m : Int) (n : Nat) (f g : Nat → Nat → Int) (a b : Nat) : Int := allS n f g n a b % m
/-- The table while the product is reckoned: behind place (i, j) of the first, at place (k, l) of the second. -/
def stP (m : Int) (n : Nat) (f g : Nat → Nat → Int) (i j k l a b : Nat) : Int := if i ≤ a ∧ j ≤ b ∧ (a - i < k ∨ (a - i = k ∧ b - j < l)) then stS n f g i (j + 1) a b % m else stS n f g i j a b % m
theorem stS_succ (n : Nat) (f g : Nat → Nat → Int) (i j a b : Nat) : stS n f g i (j + 1) a b = stS n f g i j a b + fT f g i j a b := by
  unfold stS rowS
  simp only [sumN]
  omega
theorem tP_zero (m : Int) (n : Nat) (f g : Nat → Nat → Int) : (tab n fun _ _ => 0) = tab n (stP m n f g 0 0 0 0) := tab_congr fun a b _ => by
  unfold stP
  rw [if_neg (by omega)]
  simp [stS, allS, rowS, sumN]
theorem stP_at (m : Int) (n : Nat) (f g : Nat → Nat → Int) (i j k l : Nat) : stP m n f g i j k l (i + k) (j + l) = stS n f g i j (i + k) (j + l) % m := by
  unfold stP
  rw [if_neg (by omega)]
theorem tP_step (m : Int) (n : Nat) (f g : Nat → Nat → Int) (i j k l : Nat) : tab n (upd2 (stP m n f g i j k l) (i + k) (j + l) ((stS n f g i j (i + k) (j + l) % m + f i j * g k l % m) % m)) = tab n (stP m n f g i j k (l + 1)) := tab_congr fun a b _ => by
  unfold upd2
  by_cases h : a = i + k ∧ b = j + l
  · obtain ⟨rfl, rfl⟩ := h
    rw [if_pos ⟨rfl, rfl⟩]
    unfold stP
    rw [if_pos (by omega), stS_succ]
    have e : fT f g i j (i + k) (j + l) = f i j * g k l := by
      unfold fT
      rw [if_pos (by omega), show i + k - i = k by omega, show j + l - j = l by omega]
    rw [e, Int.emod_add_emod, Int.add_emod_emod]
  · rw [if_neg h]
    unfold stP
    by_cases h2 : i ≤ a ∧ j ≤ b ∧ (a - i < k ∨ (a - i = k ∧ b - j < l))
    · rw [if_pos h2, if_pos (by omega)]
    · rw [if_neg h2, if_neg (by omega)]
theorem tP_step' (m : Int) (n : Nat) (f g : Nat → Nat → Int) (i j k l : Nat) : tab n (upd2 (stP m n f g i j k l) (i + k) (j + l) ((stS n f g i j (i + k) (j + l) % m + f i j * g k l) % m)) = tab n (stP m n f g i j k (l + 1)) := by
  rw [← tP_step, Int.add_emod_emod]
theorem tP_endl (m : Int) (n : Nat) (f g : Nat → Nat → Int) (i j k r : Nat) (hr : i + j + k + r = n) : tab n (stP m n f g i j k r) = tab n (stP m n f g i j (k + 1) 0) := tab_congr fun a b hab => by
  unfold stP
  by_cases h2 : i ≤ a ∧ j ≤ b ∧ (a - i < k ∨ (a - i = k ∧ b - j < r))
  · rw [if_pos h2, if_pos (by omega)]
  · rw [if_neg h2, if_neg (by omega)]
theorem fT_zero (f g : Nat → Nat → Int) (i j a b : Nat) (h : ¬ (i ≤ a ∧ j ≤ b)) : fT f g i j a b = 0 := by unfold fT; rw [if_neg h]
theorem tP_endk (m : Int) (n : Nat) (f g : Nat → Nat → Int) (i j k : Nat) (hk : i + j + k = n) : tab n (stP m n f g i j k 0) = tab n (stP m n f g i (j + 1) 0 0) := tab_congr fun a b hab => by
  have e : stP m n f g i (j + 1) 0 0 a b = stS n f g i (j + 1) a b % m := by unfold stP; rw [if_neg (by omega)]
  rw [e]
  unfold stP
  by_cases h2 : i ≤ a ∧ j ≤ b
  · rw [if_pos (by omega)]
  · rw [if_neg (by omega), stS_succ, fT_zero f g i j a b h2, Int.add_zero]
theorem tP_skip (m : Int) (n : Nat) (f g : Nat → Nat → Int) (i j : Nat) (h : f i j = 0) : tab n (stP m n f g i j 0 0) = tab n (stP m n f g i (j + 1) 0 0) := tab_congr fun a b hab => by
  have e : fT f g i j a b = 0 := by unfold fT; rw [h]; simp
  unfold stP
  rw [if_neg (by omega), if_neg (by omega), stS_succ, e, Int.add_zero]
theorem tP_endj (m : Int) (n : Nat) (f g : Nat → Nat → Int) (i j : Nat) (h : i + j = n) : tab n (stP m n f g i j 0 0) = tab n (stP m n f g (i + 1) 0 0 0) := tab_congr fun a b hab => by
  unfold stP
  rw [if_neg (by omega), if_neg (by omega)]
  unfold stS allS
  simp only [sumN]
  rw [show n - i = j by omega]
  simp [rowS, sumN]
theorem tP_all (m : Int) (n : Nat) (f g : Nat → Nat → Int) : tab n (stP m n f g n 0 0 0) = tab n (tmF m n f g) := tab_congr fun a b hab => by
  unfold stP
  rw [if_neg (by omega)]
  simp [stS, tmF, rowS, sumN]
theorem stS_bd {m : Int} (hm : 0 < m) (n : Nat) (f g : Nat → Nat → Int) (i j a b : Nat) : 0 ≤ stS n f g i j a b % m ∧ stS n f g i j a b % m < m := ⟨Int.emod_nonneg _ (by omega), Int.emod_lt_of_pos _ hm⟩
theorem tmF_bd {m : Int} (hm : 0 < m) (n : Nat) (f g : Nat → Nat → Int) (a b : Nat) : 0 ≤ tmF m n f g a b ∧ tmF m n f g a b < m := ⟨Int.emod_nonneg _ (by omega), Int.emod_lt_of_pos _ hm⟩

/-! ### MultiplicativeLaw -/
theorem sumN_single {f : Nat → Int} {n k : Nat} (hk : k < n) (h : ∀ j, j < n → j ≠ k → f j = 0) : sumN f n = f k := by
  induction n with
  | zero => omega
  | succ n ih =>
    simp only [sumN]
    by_cases hkn : k = n
    · subst hkn
      rw [sumN_congr (g := fun _ => 0) fun j hj => h j (by omega) (by omega), sumN_zero, Int.zero_add]
    · rw [ih (by omega) fun j hj hne => h j (by omega) hne, h n (by omega) (by omega), Int.add_zero]
theorem sumN_none {f : Nat → Int} {n : Nat} (h : ∀ j, j < n → f j = 0) : sumN f n = 0 := by
  rw [sumN_congr (g := fun _ => 0) h, sumN_zero]
/-- A product with a first factor that has one number alone. -/
theorem allS_single {n : Nat} {f g : Nat → Nat → Int} {p q a b : Nat} (hab : a + b < n) (hpq : p + q < n) (h : ∀ i j, i + j < n → ¬ (i = p ∧ j = q) → f i j = 0) : allS n f g n a b = if p ≤ a ∧ q ≤ b then f p q * g (a - p) (b - q) else 0 := by
  unfold allS
  rw [sumN_single (k := p) (by omega)]
  · unfold rowS
    rw [sumN_single (k := q) (by omega)]
    · rfl
    · intro j hj hne
      unfold fT
      split
      · rw [h p j (by omega) (by omega), Int.zero_mul]
      · rfl
  · intro i hi hne
    unfold rowS
    apply sumN_none
    intro j hj
    unfold fT
    split
    · rw [h i j (by omega) (by omega), Int.zero_mul]
    · rfl
theorem xy_prod (m : Int) (n : Nat) (hm : 2 ≤ m) (hn : 2 ≤ n) : tab n (tmF m n (co2 (tab n (axF (varL n) 0))) (co2 (tab n (axF (varL n) 1)))) = tab n fun i j => if i = 1 ∧ j = 1 then 1 else 0 := tab_congr fun a b hab => by
  unfold tmF
  rw [allS_single (p := 1) (q := 0) hab (by omega) fun i j hij hne => by rw [co2_tab _ hij, axF_var n 0 i j hij, if_pos rfl, if_neg hne]]
  rw [co2_tab _ (by omega), axF_var n 0 1 0 (by omega)]
  have e1 : (1 : Int) % m = 1 := Int.emod_eq_of_lt (by omega) (by omega)
  by_cases h1 : 1 ≤ a ∧ 0 ≤ b
  · rw [if_pos h1, co2_tab _ (by omega), axF_var n 1 _ _ (by omega)]
    by_cases h2 : a = 1
    · subst h2
      by_cases h3 : b = 1 <;> simp [h3, e1]
    · have h4 : ¬ a - 1 = 0 := by omega
      simp [h2, h4]
  · rw [if_neg h1]
    have h2 : ¬ a = 1 := by omega
    simp [h2]
def MultiplicativeLawR (m d c0 : Int) : (Int × List (List Int)) × Int := if stdB m d [c0] = false then ((0, []), 2) else ((m, tab (d + 1).toNat (mulF m c0)), 0)
theorem MultiplicativeLawR_len (m d c0 : Int) : cntP (MultiplicativeLawR m d c0).1.2 ≤ 200 := by
  unfold MultiplicativeLawR
  cases h : stdB m d [c0]
  · simp [cntP]
  · have := stdB_true h
    exact cntP_tab_100 _ (by omega)
theorem mul_join (m c0 : Int) (n : Nat) (hm : 2 ≤ m) : (tab n fun i j => (co2 (tab n fun i j => if (i = 1 ∧ j = 0) ∨ (i = 0 ∧ j = 1) then (1 : Int) else 0) i j + co2 (tab n fun i j => c0 % m * co2 (tab n fun i j => if i = 1 ∧ j = 1 then (1 : Int) else 0) i j % m) i j) % m) = tab n (mulF m c0) := tab_congr fun i j hij => by
  rw [co2_tab _ hij, co2_tab _ hij, co2_tab _ hij]
  have e1 : (1 : Int) % m = 1 := Int.emod_eq_of_lt (by omega) (by omega)
  unfold mulF
  by_cases h1 : i = 1
  · subst h1
    by_cases h2 : j = 1
    · subst h2; simp
    · by_cases h3 : j = 0 <;> simp [h2, h3, e1]
  · by_cases h4 : i = 0
    · subst h4
      by_cases h2 : j = 1 <;> simp [h2, e1]
    · simp [h1, h4]
theorem tmF_num2 {m : Int} (hm : 0 < m) (n : Nat) (f g : Nat → Nat → Int) : Num2 m (tab n (tmF m n f g)) := Num2.tab hm n _ fun i j => tmF_bd hm n f g i j
theorem mod_num2 {m : Int} (hm : 0 < m) (n : Nat) (f : Nat → Nat → Int) : Num2 m (tab n fun i j => f i j % m) := Num2.tab hm n _ fun i j => ⟨Int.emod_nonneg _ (by omega), Int.emod_lt_of_pos _ hm⟩

/-! ### Powers of a single term and the law of the tangent: the plain law -/
theorem allS_single2 {n : Nat} {f g : Nat → Nat → Int} {p q a b : Nat} (hab : a + b < n) (h : ∀ i j, i + j < n → ¬ (i = p ∧ j = q) → g i j = 0) : allS n f g n a b = if p ≤ a ∧ q ≤ b then f (a - p) (b - q) * g p q else 0 := by
  unfold allS
  by_cases h1 : p ≤ a ∧ q ≤ b
  · rw [if_pos h1, sumN_single (k := a - p) (by omega)]
    · unfold rowS
      rw [sumN_single (k := b - q) (by omega)]
      · unfold fT
        rw [if_pos (by omega), show a - (a - p) = p by omega, show b - (b - q) = q by omega]
      · intro j hj hne
        unfold fT
        split
        · rw [h _ _ (by omega) (by omega), Int.mul_zero]
        · rfl
    · intro i hi hne
      unfold rowS
      apply sumN_none
      intro j hj
      unfold fT
      split
      · rw [h _ _ (by omega) (by omega), Int.mul_zero]
      · rfl
  · rw [if_neg h1]
    apply sumN_none
    intro i hi
    unfold rowS
    apply sumN_none
    intro j hj
    unfold fT
    split
    · rw [h _ _ (by omega) (by omega), Int.mul_zero]
    · rfl
theorem sumN_add (f g : Nat → Int) (n : Nat) : sumN (fun i => f i + g i) n = sumN f n + sumN g n := by
  induction n with
  | zero => simp [sumN]
  | succ n ih => simp only [sumN]; rw [ih]; omega
theorem allS_add (n : Nat) (f f' g : Nat → Nat → Int) (I a b : Nat) : allS n (fun i j => f i j + f' i j) g I a b = allS n f g I a b + allS n f' g I a b := by
  unfold allS
  rw [← sumN_add]
  apply sumN_congr
  intro i _
  unfold rowS
  rw [← sumN_add]
  apply sumN_congr
  intro j _
  unfold fT
  split
  · rw [Int.add_mul]
  · rfl
theorem allS_congr {n : Nat} {f f' g g' : Nat → Nat → Int} {a b : Nat} (hab : a + b < n) (hf : ∀ i j, i + j < n → f i j = f' i j) (hg : ∀ i j, i + j < n → g i j = g' i j) : allS n f g n a b = allS n f' g' n a b := by
  unfold allS
  apply sumN_congr
  intro i hi
  unfold rowS
  apply sumN_congr
  intro j hj
  unfold fT
  split
  · rw [hf i j (by omega), hg _ _ (by omega)]
  · rfl
/-- The powers of a number. -/
def gp (m r : Int) : Nat → Int
  | 0 => 1 % m
  | k + 1 => gp m r k * r % m
theorem gp_bd {m : Int} (hm : 0 < m) (r : Int) (k : Nat) : 0 ≤ gp m r k ∧ gp m r k < m := by
  cases k <;> exact ⟨Int.emod_nonneg _ (by omega), Int.emod_lt_of_pos _ hm⟩
theorem gp_congr {m r s : Int} (h : r % m = s % m) (k : Nat) : gp m r k = gp m s k := by
  induction k with
  | zero => rfl
  | succ k ih => simp only [gp]; rw [ih, Int.mul_emod, h, ← Int.mul_emod]
def numF (m c : Int) (i j : Nat) : Int := if i = 0 ∧ j = 0 then c % m else 0
def sing (q : Nat) (r : Int) (i j : Nat) : Int := if i = q ∧ j = q then r else 0
/-- The sum of the powers up to k of r times the term at (q, q). -/
def geoF (m r : Int) (q k i j : Nat) : Int := if i = j ∧ i % q = 0 ∧ i / q ≤ k then gp m r (i / q) else 0
theorem geoF_bd {m : Int} (hm : 0 < m) (r : Int) (q k i j : Nat) : 0 ≤ geoF m r q k i j ∧ geoF m r q k i j < m := by
  unfold geoF
  split
  · exact gp_bd hm r _
  · omega
theorem geo_zero (m r : Int) (q n : Nat) : tab n (numF m 1) = tab n (geoF m r q 0) := tab_congr fun i j _ => by
  unfold numF geoF
  by_cases h : i = 0 ∧ j = 0
  · obtain ⟨rfl, rfl⟩ := h
    simp [gp]
  · rw [if_neg h, if_neg]
    rintro ⟨rfl, h1, h2⟩
    have := Nat.div_add_mod i q
    have h3 : i / q = 0 := Nat.le_zero.1 h2
    rw [h1, h3] at this
    simp at this
    omega
theorem geo_step (m r : Int) (q n k : Nat) (hq : 1 ≤ q) : (tab n fun i j => (co2 (tab n (tmF m n (co2 (tab n (geoF m r q k))) (co2 (tab n (sing q r))))) i j + co2 (tab n (numF m 1)) i j) % m) = tab n (geoF m r q (k + 1)) := tab_congr fun a b hab => by
  rw [co2_tab _ hab, co2_tab _ hab]
  unfold tmF
  rw [allS_single2 (p := q) (q := q) hab fun i j hij hne => by rw [co2_tab _ hij]; unfold sing; rw [if_neg hne]]
  by_cases h : q ≤ a ∧ q ≤ b
  · rw [if_pos h, co2_tab _ (by omega), co2_tab _ (by omega)]
    have e1 : sing q r q q = r := by simp [sing]
    have e2 : numF m 1 a b = 0 := by unfold numF; rw [if_neg (by omega)]
    obtain ⟨c, rfl⟩ : ∃ c, a = c + q := ⟨a - q, by omega⟩
    have e3 : (c + q) % q = c % q := Nat.add_mod_right _ _
    have e4 : (c + q) / q = c / q + 1 := Nat.add_div_right _ (by omega)
    rw [e1, e2, Int.add_zero, Int.emod_emod, Nat.add_sub_cancel]
    unfold geoF
    rw [e3, e4]
    by_cases h2 : c = b - q ∧ c % q = 0 ∧ c / q ≤ k
    · rw [if_pos h2, if_pos (by omega)]
      rfl
    · rw [if_neg h2, if_neg (by omega), Int.zero_mul, Int.zero_emod]
  · rw [if_neg h, Int.zero_emod, Int.zero_add]
    unfold numF geoF
    by_cases h2 : a = 0 ∧ b = 0
    · obtain ⟨rfl, rfl⟩ := h2
      simp [gp]
    · rw [if_neg h2, Int.zero_emod, if_neg]
      rintro ⟨rfl, h3, h4⟩
      have h5 : a % q = a := Nat.mod_eq_of_lt (by omega)
      omega
/-- Coefficient (i, j) of the law of the tangent. -/
def tanF (m r : Int) (i j : Nat) : Int := if i = j + 1 then gp m r j else if j = i + 1 then gp m r i else 0
theorem tan_join (m r : Int) (n : Nat) (hm : 0 < m) : tab n (tmF m n (co2 (tab n fun i j => if (i = 1 ∧ j = 0) ∨ (i = 0 ∧ j = 1) then (1 : Int) else 0)) (co2 (tab n (geoF m r 1 (n - 1))))) = tab n (tanF m r) := tab_congr fun a b hab => by
  unfold tmF
  rw [allS_congr (f' := fun i j => (if i = 1 ∧ j = 0 then (1 : Int) else 0) + (if i = 0 ∧ j = 1 then (1 : Int) else 0)) (g' := geoF m r 1 (n - 1)) hab (fun i j hij => by
    rw [co2_tab _ hij]
    by_cases h1 : i = 1 ∧ j = 0
    · obtain ⟨rfl, rfl⟩ := h1; simp
    · by_cases h2 : i = 0 ∧ j = 1
      · obtain ⟨rfl, rfl⟩ := h2; simp
      · rw [if_neg (by omega), if_neg h1, if_neg h2]; rfl) (fun i j hij => co2_tab _ hij)]
  rw [allS_add]
  have g1 : ∀ i j, i + j < n → geoF m r 1 (n - 1) i j = if i = j then gp m r i else 0 := by
    intro i j hij
    unfold geoF
    rw [Nat.div_one, Nat.mod_one]
    by_cases h : i = j
    · rw [if_pos ⟨h, rfl, by omega⟩, if_pos h]
    · rw [if_neg (by simp [h]), if_neg h]
  unfold tanF
  by_cases hn : 2 ≤ n
  · rw [allS_single (p := 1) (q := 0) hab (by omega) fun i j _ hne => if_neg hne, allS_single (p := 0) (q := 1) hab (by omega) fun i j _ hne => if_neg hne]
    have u1 : (if (1 : Nat) = 1 ∧ (0 : Nat) = 0 then (1 : Int) else 0) = 1 := by simp
    have u2 : (if (0 : Nat) = 0 ∧ (1 : Nat) = 1 then (1 : Int) else 0) = 1 := by simp
    rw [u1, u2, Int.one_mul, Int.one_mul]
    by_cases h1 : a = b + 1
    · subst h1
      rw [if_pos (by omega), g1 _ _ (by omega), if_pos (by omega), if_pos rfl]
      have e : (if 0 ≤ b + 1 ∧ 1 ≤ b then geoF m r 1 (n - 1) (b + 1 - 0) (b - 1) else 0) = 0 := by
        split
        · rw [g1 _ _ (by omega), if_neg (by omega)]
        · rfl
      rw [e, Int.add_zero, Nat.add_sub_cancel]
      exact Int.emod_eq_of_lt (gp_bd hm r b).1 (gp_bd hm r b).2
    · rw [if_neg h1]
      have e : (if 1 ≤ a ∧ 0 ≤ b then geoF m r 1 (n - 1) (a - 1) (b - 0) else 0) = 0 := by
        split
        · rw [g1 _ _ (by omega), if_neg (by omega)]
        · rfl
      rw [e, Int.zero_add]
      by_cases h2 : b = a + 1
      · subst h2
        rw [if_pos (by omega), if_pos rfl, g1 _ _ (by omega), if_pos (by omega)]
        exact Int.emod_eq_of_lt (gp_bd hm r _).1 (gp_bd hm r _).2
      · rw [if_neg h2]
        have e2 : (if 0 ≤ a ∧ 1 ≤ b then geoF m r 1 (n - 1) (a - 0) (b - 1) else 0) = 0 := by
          split
          · rw [g1 _ _ (by omega), if_neg (by omega)]
          · rfl
        rw [e2, Int.zero_emod]
  · have ha : a = 0 := by omega
    have hb : b = 0 := by omega
    subst ha hb
    have e : ∀ f : Nat → Nat → Int, f 0 0 = 0 → allS n f (geoF m r 1 (n - 1)) n 0 0 = 0 := by
      intro f hf
      unfold allS
      apply sumN_none
      intro i hi
      unfold rowS
      apply sumN_none
      intro j hj
      unfold fT
      have hi0 : i = 0 := by omega
      have hj0 : j = 0 := by omega
      subst hi0 hj0
      rw [hf, Int.zero_mul]
      split <;> rfl
    rw [e _ (by simp), e _ (by simp)]
    simp
/-- The law of the tangent as the reference fills it in. -/
def tanTo (m r : Int) (k i j : Nat) : Int := if i = j + 1 ∧ j < k then gp m r j else if j = i + 1 ∧ i < k then gp m r i else 0
theorem tanTo_zero (m r : Int) (n : Nat) : (tab n fun _ _ => 0) = tab n (tanTo m r 0) := tab_congr fun i j _ => by simp [tanTo]
theorem tanTo_step (m r : Int) (n k : Nat) : tab n (upd2 (upd2 (tanTo m r k) (k + 1) k (gp m r k)) k (k + 1) (gp m r k)) = tab n (tanTo m r (k + 1)) := tab_congr fun i j _ => by
  unfold upd2 tanTo
  by_cases h1 : i = k ∧ j = k + 1
  · obtain ⟨rfl, rfl⟩ := h1
    rw [if_pos ⟨rfl, rfl⟩, if_neg (by omega), if_pos (by omega)]
  · rw [if_neg h1]
    by_cases h2 : i = k + 1 ∧ j = k
    · obtain ⟨rfl, rfl⟩ := h2
      rw [if_pos ⟨rfl, rfl⟩, if_pos (by omega)]
    · rw [if_neg h2]
      by_cases h3 : i = j + 1 ∧ j < k
      · rw [if_pos h3, if_pos (by omega)]
      · have h3' : ¬ (i = j + 1 ∧ j < k + 1) := by omega
        rw [if_neg h3, if_neg h3']
        by_cases h4 : j = i + 1 ∧ i < k
        · have h4' : j = i + 1 ∧ i < k + 1 := by omega
          rw [if_pos h4, if_pos h4']
        · have h4' : ¬ (j = i + 1 ∧ i < k + 1) := by omega
          rw [if_neg h4, if_neg h4']
theorem tanTo_all (m r : Int) (n k : Nat) (h : n < 2 * k + 2) : tab n (tanTo m r k) = tab n (tanF m r) := tab_congr fun i j hij => by
  unfold tanTo tanF
  by_cases h3 : i = j + 1
  · rw [if_pos ⟨h3, by omega⟩, if_pos h3]
  · rw [if_neg (by omega), if_neg h3]
    by_cases h4 : j = i + 1
    · rw [if_pos ⟨h4, by omega⟩, if_pos h4]
    · rw [if_neg (by omega), if_neg h4]
theorem tan_rest (m c : Int) (n : Nat) (hm : 2 ≤ m) (XY : List (List Int)) (hXY : XY = tab n fun i j => if i = 1 ∧ j = 1 then 1 else 0) (q : Nat → Nat → Int) (hq : ∀ i j, i + j < n → q i j = (co2 (tab n (numF m 1)) i j + co2 (tab n fun i j => c % m * co2 XY i j % m) i j) % m) :
    (tab n fun i j => (co2 (tab n (numF m 1)) i j - co2 (tab n q) i j) % m) = tab n (sing 1 ((m - c) % m)) := tab_congr fun i j hij => by
  subst hXY
  rw [co2_tab _ hij, co2_tab _ hij, hq i j hij, co2_tab _ hij, co2_tab _ hij, co2_tab _ hij]
  unfold numF sing
  have e1 : (1 : Int) % m = 1 := Int.emod_eq_of_lt (by omega) (by omega)
  by_cases h1 : i = 1 ∧ j = 1
  · obtain ⟨rfl, rfl⟩ := h1
    rw [if_neg (by omega), if_pos ⟨rfl, rfl⟩, if_pos ⟨rfl, rfl⟩, Int.mul_one, Int.zero_add, Int.emod_emod, Int.emod_emod, Int.zero_sub]
    rw [Int.emod_def c m, show -(c - m * (c / m)) = (m - c) + m * (c / m - 1) by rw [Int.mul_sub]; omega, Int.add_mul_emod_self_left]
  · rw [if_neg h1, if_neg h1, Int.mul_zero, Int.zero_emod, Int.add_zero]
    by_cases h0 : i = 0 ∧ j = 0
    · rw [if_pos h0, e1, e1, Int.sub_self, Int.zero_emod]
    · rw [if_neg h0, Int.zero_emod, Int.sub_self, Int.zero_emod]

/-! ### The law of Euler: the plain law -/
/-- What is wanted at n + 1 of the root, behind q products. -/
def wtF (m st : Int) (L : List Int) (n q : Nat) : Int := (st - sumN (fun i => co L (i + 1) * co L (n - i)) q) % m
theorem wtF_bd {m : Int} (hm : 0 < m) (st : Int) (L : List Int) (n q : Nat) : 0 ≤ wtF m st L n q ∧ wtF m st L n q < m := ⟨Int.emod_nonneg _ (by omega), Int.emod_lt_of_pos _ hm⟩
theorem wt_zero {m st : Int} (h : 0 ≤ st ∧ st < m) (L : List Int) (n : Nat) : wtF m st L n 0 = st := by
  unfold wtF
  simp only [sumN, Int.sub_zero]
  exact Int.emod_eq_of_lt h.1 h.2
theorem wt_step (m st : Int) (L : List Int) (n q : Nat) : (wtF m st L n q + (m - co L (q + 1)) * co L (n - q)) % m = wtF m st L n (q + 1) := by
  unfold wtF
  simp only [sumN]
  rw [Int.emod_add_emod, Int.sub_mul]
  generalize sumN (fun i => co L (i + 1) * co L (n - i)) q = S
  rw [show st - S + (m * co L (n - q) - co L (q + 1) * co L (n - q)) = st - (S + co L (q + 1) * co L (n - q)) + m * co L (n - q) by omega, Int.add_mul_emod_self_left]
theorem sumN_shift' (f : Nat → Int) (n : Nat) : sumN f (n + 1) = f 0 + sumN (fun i => f (i + 1)) n := by
  induction n with
  | zero => simp [sumN]
  | succ n ih =>
    have e : sumN f (n + 1 + 1) = sumN f (n + 1) + f (n + 1) := rfl
    have e2 : sumN (fun i => f (i + 1)) (n + 1) = sumN (fun i => f (i + 1)) n + f (n + 1) := rfl
    rw [e, e2, ih]
    omega
theorem co_out {xs : List Int} {j : Nat} (h : xs.length ≤ j) : co xs j = 0 := by
  unfold co
  rw [List.getD_eq_getElem?_getD, List.getElem?_eq_none h]
  rfl
theorem sub_emod_right (a b m : Int) : (a - b % m) % m = (a - b) % m := by
  rw [Int.emod_def b m, show a - (b - m * (b / m)) = a - b + m * (b / m) by omega, Int.add_mul_emod_self_left]
theorem wt_impl (m st : Int) (L : List Int) (n d : Nat) (hL : L.length = n + 1) (hd : n + 1 < d) : (st - cv m (co (lst d (co L))) (co (lst d (co L))) (n + 1)) % m = wtF m st L n n := by
  have hc : ∀ j, j < d → co (lst d (co L)) j = co L j := fun j hj => getD_lst _ _ _ hj
  unfold cv cvTo wtF
  rw [sub_emod_right, sumN_shift']
  simp only [Nat.sub_zero, sumN]
  rw [hc (n + 1) (by omega), co_out (xs := L) (j := n + 1) (by omega), Int.mul_zero, Int.zero_mul, Int.zero_add, Int.add_zero]
  rw [sumN_congr]
  intro i hi
  rw [hc _ (by omega), hc _ (by omega), show n + 1 - (i + 1) = n - i by omega]
/-- The series under the root. -/
def sqF (m a e : Int) (k : Nat) : Int := if k = 0 then 1 else if k = 2 then (-2 * a) % m else if k = 4 then e else 0
theorem sqF_bd {m a e : Int} (hm : 2 ≤ m) (he : 0 ≤ e ∧ e < m) (k : Nat) : 0 ≤ sqF m a e k ∧ sqF m a e k < m := by
  have h1 := Int.emod_nonneg (-2 * a) (show m ≠ 0 by omega)
  have h2 := Int.emod_lt_of_pos (-2 * a) (show 0 < m by omega)
  unfold sqF
  split
  · omega
  · split
    · omega
    · split <;> omega
theorem sq_two (m a : Int) : (2 * m - 2 * a) % m = (-2 * a) % m := by
  rw [show 2 * m - 2 * a = -2 * a + m * 2 by omega, Int.add_mul_emod_self_left]
def rootTo (m h a e : Int) : Nat → List Int
  | 0 => [1]
  | n + 1 => rootTo m h a e n ++ [wtF m (sqF m a e (n + 1)) (rootTo m h a e n) n n * h % m]
theorem length_rootTo (m h a e : Int) (n : Nat) : (rootTo m h a e n).length = n + 1 := by
  induction n with
  | zero => rfl
  | succ n ih => simp [rootTo, ih]
theorem rootTo_num {m : Int} (hm : 2 ≤ m) (h a e : Int) (n : Nat) : NumL m (rootTo m h a e n) := by
  induction n with
  | zero =>
    intro j
    cases j with
    | zero => simp only [rootTo, List.getD_cons_zero]; omega
    | succ j => simp only [rootTo, List.getD_cons_succ, List.getD_nil]; omega
  | succ n ih =>
    intro j
    simp only [rootTo, List.getD_eq_getElem?_getD, List.getElem?_append]
    split
    · have := ih j
      rw [List.getD_eq_getElem?_getD] at this
      exact this
    · have h1 := Int.emod_nonneg (wtF m (sqF m a e (n + 1)) (rootTo m h a e n) n n * h) (show m ≠ 0 by omega)
      have h2 := Int.emod_lt_of_pos (wtF m (sqF m a e (n + 1)) (rootTo m h a e n) n n * h) (show 0 < m by omega)
      generalize wtF m (sqF m a e (n + 1)) (rootTo m h a e n) n n * h % m = y at *
      rcases hk : j - (rootTo m h a e n).length with _ | j
      · simp; omega
      · simp; omega
theorem root_next (m h a e : Int) (n d : Nat) : (lst d (co (rootTo m h a e n))).set (n + 1) (wtF m (sqF m a e (n + 1)) (rootTo m h a e n) n n * h % m) = lst d (co (rootTo m h a e (n + 1))) := by
  rw [set_lst]
  apply lst_congr
  intro j _
  have hl := length_rootTo m h a e n
  unfold upd co
  simp only [rootTo, List.getD_eq_getElem?_getD, List.getElem?_append]
  by_cases h : j = n + 1
  · subst h
    simp [hl]
  · rw [if_neg h]
    split
    · rfl
    · rw [List.getElem?_eq_none (by omega), List.getElem?_eq_none (by simp; omega)]
theorem root_all (m h a e : Int) (n : Nat) : lst (n + 1) (co (rootTo m h a e n)) = rootTo m h a e n := by
  have := lst_self (rootTo m h a e n)
  rwa [length_rootTo] at this
theorem root_start (m h a e : Int) (d : Nat) : (List.replicate d (0 : Int)).set 0 1 = lst d (co (rootTo m h a e 0)) := by
  rw [replicate_lst, set_lst]
  apply lst_congr
  intro j _
  cases j with
  | zero => simp [upd, co, rootTo]
  | succ j => simp [upd, co, rootTo]
def topF (m : Int) (R : List Int) (i j : Nat) : Int := ((if i = 1 then co R j else 0) + if j = 1 then co R i else 0) % m
theorem x_root (m : Int) (n : Nat) (R : List Int) : tab n (tmF m n (co2 (tab n (axF (varL n) 0))) (co2 (tab n (axF R 1)))) = tab n fun i j => if i = 1 then co R j % m else 0 := tab_congr fun a b hab => by
  unfold tmF
  by_cases hn : 2 ≤ n
  · rw [allS_single (p := 1) (q := 0) hab (by omega) fun i j hij hne => by rw [co2_tab _ hij, axF_var n 0 i j hij, if_pos rfl, if_neg hne]]
    rw [co2_tab _ (by omega), axF_var n 0 1 0 (by omega)]
    by_cases h1 : 1 ≤ a ∧ 0 ≤ b
    · rw [if_pos h1, co2_tab _ (by omega)]
      unfold axF
      by_cases h2 : a = 1
      · subst h2; simp
      · have h4 : ¬ a - 1 = 0 := by omega
        simp [h2, h4]
    · rw [if_neg h1]
      have h2 : ¬ a = 1 := by omega
      simp [h2]
  · have ha : a = 0 := by omega
    have hb : b = 0 := by omega
    subst ha hb
    have h0 : co2 (tab n (axF (varL n) 0)) 0 0 = 0 := by rw [co2_tab _ hab, axF_var n 0 0 0 hab]; simp
    have e : allS n (co2 (tab n (axF (varL n) 0))) (co2 (tab n (axF R 1))) n 0 0 = 0 := by
      unfold allS
      apply sumN_none
      intro i hi
      unfold rowS
      apply sumN_none
      intro j hj
      have hi0 : i = 0 := by omega
      have hj0 : j = 0 := by omega
      subst hi0 hj0
      unfold fT
      rw [h0, Int.zero_mul]
      split <;> rfl
    rw [e]
    simp
theorem y_root (m : Int) (n : Nat) (R : List Int) : tab n (tmF m n (co2 (tab n (axF (varL n) 1))) (co2 (tab n (axF R 0)))) = tab n fun i j => if j = 1 then co R i % m else 0 := tab_congr fun a b hab => by
  unfold tmF
  by_cases hn : 2 ≤ n
  · rw [allS_single (p := 0) (q := 1) hab (by omega) fun i j hij hne => by rw [co2_tab _ hij, axF_var n 1 i j hij, if_neg (by decide), if_neg hne]]
    rw [co2_tab _ (by omega), axF_var n 1 0 1 (by omega)]
    by_cases h1 : 0 ≤ a ∧ 1 ≤ b
    · rw [if_pos h1, co2_tab _ (by omega)]
      unfold axF
      by_cases h2 : b = 1
      · subst h2; simp
      · have h4 : ¬ b - 1 = 0 := by omega
        simp [h2, h4]
    · rw [if_neg h1]
      have h2 : ¬ b = 1 := by omega
      simp [h2]
  · have ha : a = 0 := by omega
    have hb : b = 0 := by omega
    subst ha hb
    have h0 : co2 (tab n (axF (varL n) 1)) 0 0 = 0 := by rw [co2_tab _ hab, axF_var n 1 0 0 hab]; simp
    have e : allS n (co2 (tab n (axF (varL n) 1))) (co2 (tab n (axF R 0))) n 0 0 = 0 := by
      unfold allS
      apply sumN_none
      intro i hi
      unfold rowS
      apply sumN_none
      intro j hj
      have hi0 : i = 0 := by omega
      have hj0 : j = 0 := by omega
      subst hi0 hj0
      unfold fT
      rw [h0, Int.zero_mul]
      split <;> rfl
    rw [e]
    simp
theorem top_join (m : Int) (n : Nat) (R : List Int) : (tab n fun i j => (co2 (tab n fun i j => if i = 1 then co R j % m else 0) i j + co2 (tab n fun i j => if j = 1 then co R i % m else 0) i j) % m) = tab n (topF m R) := tab_congr fun i j hij => by
  rw [co2_tab _ hij, co2_tab _ hij]
  unfold topF
  by_cases h1 : i = 1
  · by_cases h2 : j = 1
    · rw [if_pos h1, if_pos h1, if_pos h2, if_pos h2, ← Int.add_emod]
    · rw [if_pos h1, if_pos h1, if_neg h2, if_neg h2, Int.add_zero, Int.add_zero, Int.emod_emod]
  · by_cases h2 : j = 1
    · rw [if_neg h1, if_neg h1, if_pos h2, if_pos h2, Int.zero_add, Int.zero_add, Int.emod_emod]
    · rw [if_neg h1, if_neg h1, if_neg h2, if_neg h2]
/-- The reference's top: row 1, then column 1. -/
def topA (R : List Int) (k i j : Nat) : Int := if i = 1 ∧ j < k then co R j else 0
def topB (m : Int) (R : List Int) (k i j : Nat) : Int := if j = 1 ∧ i < k then topF m R i j else if i = 1 then co R j else 0
theorem topA_zero (R : List Int) (n : Nat) : (tab n fun _ _ => 0) = tab n (topA R 0) := tab_congr fun i j _ => by simp [topA]
theorem topA_step (R : List Int) (n k : Nat) : tab n (upd2 (topA R k) 1 k (co R k)) = tab n (topA R (k + 1)) := tab_congr fun i j _ => by
  unfold upd2 topA
  by_cases h : i = 1 ∧ j = k
  · obtain ⟨rfl, rfl⟩ := h
    rw [if_pos ⟨rfl, rfl⟩, if_pos ⟨rfl, by omega⟩]
  · rw [if_neg h]
    by_cases h2 : i = 1 ∧ j < k
    · have h3 : i = 1 ∧ j < k + 1 := by omega
      rw [if_pos h2, if_pos h3]
    · have h3 : ¬ (i = 1 ∧ j < k + 1) := by omega
      rw [if_neg h2, if_neg h3]
theorem topA_all (m : Int) (R : List Int) (n : Nat) : tab n (topA R (n - 1)) = tab n (topB m R 0) := tab_congr fun i j hij => by
  unfold topA topB
  rw [if_neg (show ¬ (j = 1 ∧ i < 0) by omega)]
  by_cases h : i = 1
  · rw [if_pos ⟨h, by omega⟩, if_pos h]
  · rw [if_neg (by omega), if_neg h]
theorem topB_at (m : Int) (R : List Int) (k : Nat) : topB m R k k 1 = if k = 1 then co R 1 else 0 := by
  unfold topB
  rw [if_neg (by omega)]
theorem topB_step (m : Int) (R : List Int) (n k : Nat) : tab n (upd2 (topB m R k) k 1 ((topB m R k k 1 + co R k) % m)) = tab n (topB m R (k + 1)) := tab_congr fun i j _ => by
  rw [topB_at]
  unfold upd2
  by_cases h : i = k ∧ j = 1
  · obtain ⟨rfl, rfl⟩ := h
    rw [if_pos ⟨rfl, rfl⟩]
    have h3 : (1 : Nat) = 1 ∧ i < i + 1 := ⟨rfl, by omega⟩
    unfold topB topF
    rw [if_pos h3]
    simp
  · rw [if_neg h]
    unfold topB
    by_cases h2 : j = 1 ∧ i < k
    · have h3 : j = 1 ∧ i < k + 1 := by omega
      rw [if_pos h2, if_pos h3]
    · have h3 : ¬ (j = 1 ∧ i < k + 1) := by omega
      rw [if_neg h2, if_neg h3]
theorem topB_all (m : Int) (R : List Int) (n : Nat) (hR : NumL m R) : tab n (topB m R (n - 1)) = tab n (topF m R) := tab_congr fun i j hij => by
  unfold topB
  by_cases h : j = 1
  · rw [if_pos ⟨h, by omega⟩]
  · rw [if_neg (by omega)]
    unfold topF
    rw [if_neg h, Int.add_zero]
    split
    · exact (Int.emod_eq_of_lt (hR j).1 (hR j).2).symm
    · simp
/-- The reference's factor. -/
def facTo (m e : Int) (k i j : Nat) : Int := if i = j ∧ i % 2 = 0 ∧ i / 2 < k then gp m e (i / 2) else 0
theorem facTo_zero (m e : Int) (n : Nat) : (tab n fun _ _ => 0) = tab n (facTo m e 0) := tab_congr fun i j _ => by simp [facTo]
theorem facTo_step (m e : Int) (n k : Nat) : tab n (upd2 (facTo m e k) (2 * k) (2 * k) (gp m e k)) = tab n (facTo m e (k + 1)) := tab_congr fun i j _ => by
  unfold upd2 facTo
  by_cases h : i = 2 * k ∧ j = 2 * k
  · obtain ⟨rfl, rfl⟩ := h
    rw [if_pos ⟨rfl, rfl⟩, if_pos ⟨rfl, by omega, by omega⟩, show 2 * k / 2 = k by omega]
  · rw [if_neg h]
    by_cases h2 : i = j ∧ i % 2 = 0 ∧ i / 2 < k
    · have h3 : i = j ∧ i % 2 = 0 ∧ i / 2 < k + 1 := by omega
      rw [if_pos h2, if_pos h3]
    · have h3 : ¬ (i = j ∧ i % 2 = 0 ∧ i / 2 < k + 1) := by omega
      rw [if_neg h2, if_neg h3]
theorem facTo_all (m e : Int) (n k : Nat) (h : n ≤ 4 * k) : tab n (facTo m e k) = tab n (geoF m e 2 (n - 1)) := tab_congr fun i j hij => by
  unfold facTo geoF
  by_cases h2 : i = j ∧ i % 2 = 0 ∧ i / 2 < k
  · have h3 : i = j ∧ i % 2 = 0 ∧ i / 2 ≤ n - 1 := by omega
    rw [if_pos h2, if_pos h3]
  · have h3 : ¬ (i = j ∧ i % 2 = 0 ∧ i / 2 ≤ n - 1) := by omega
    rw [if_neg h2, if_neg h3]
theorem xy_sq (m : Int) (n : Nat) (hm : 2 ≤ m) : tab n (tmF m n (co2 (tab n fun i j => if i = 1 ∧ j = 1 then (1 : Int) else 0)) (co2 (tab n fun i j => if i = 1 ∧ j = 1 then (1 : Int) else 0))) = tab n fun i j => if i = 2 ∧ j = 2 then 1 else 0 := tab_congr fun a b hab => by
  unfold tmF
  rw [allS_single2 (p := 1) (q := 1) hab fun i j hij hne => by rw [co2_tab _ hij, if_neg hne]]
  have e1 : (1 : Int) % m = 1 := Int.emod_eq_of_lt (by omega) (by omega)
  by_cases h1 : 1 ≤ a ∧ 1 ≤ b
  · rw [if_pos h1, co2_tab _ (by omega), co2_tab _ (by omega)]
    by_cases h2 : a = 2 ∧ b = 2
    · obtain ⟨rfl, rfl⟩ := h2
      simp [e1]
    · have h3 : ¬ (a - 1 = 1 ∧ b - 1 = 1) := by omega
      rw [if_neg h3, if_neg h2, Int.zero_mul, Int.zero_emod]
  · rw [if_neg h1, if_neg (by omega), Int.zero_emod]
theorem eul_rest (m e : Int) (n : Nat) (hm : 2 ≤ m) : (tab n fun i j => (co2 (tab n (numF m 1)) i j - co2 (tab n fun i j => (co2 (tab n (numF m 1)) i j - co2 (tab n fun i j => e % m * co2 (tab n fun i j => if i = 2 ∧ j = 2 then (1 : Int) else 0) i j % m) i j) % m) i j) % m) = tab n (sing 2 (e % m)) := tab_congr fun i j hij => by
  rw [co2_tab _ hij, co2_tab _ hij, co2_tab _ hij, co2_tab _ hij, co2_tab _ hij]
  unfold numF sing
  have e1 : (1 : Int) % m = 1 := Int.emod_eq_of_lt (by omega) (by omega)
  rw [sub_emod_right]
  by_cases h1 : i = 2 ∧ j = 2
  · obtain ⟨rfl, rfl⟩ := h1
    simp
  · rw [if_neg h1, if_neg h1, Int.mul_zero, Int.zero_emod, Int.sub_zero, Int.sub_self, Int.zero_emod]

/-! ### The product of two tables (spec) -/
set_option maxRecDepth 16000 in
set_option maxHeartbeats 8000000 in
theorem l03Times_any (w : World) (m : Int) (v v2 : Value) (xss yss zss : List (List Int)) (n : Nat) (lo0 hi0 lo2 hi2 : Nat) (hv : OwnP w lo0 hi0 v xss) (ht : Tri n xss) (hq : Num2 m xss) (hv2 : OwnP w lo2 hi2 v2 yss) (ht2 : Tri n yss) (hq2 : Num2 m yss) (hm : 2 ≤ m) (hm' : m ≤ 3000000000) (hn1 : 1 ≤ n) (hn : n ≤ 1000) (hz : tab n (tmF m n (co2 xss) (co2 yss)) = zss) :
    Calls Try.prog 142 #[.int .i64 m, v, v2] w (NewP w zss) := by
  obtain ⟨gA, cA, rfl, hcA1, hcA2, hgA, hA⟩ := hv.source n ht.1 hn1
  obtain ⟨gB, cB, rfl, hcB1, hcB2, hgB, hB⟩ := hv2.source n ht2.1 hn1
  have HZ := Lib.hid hz
  have HT := Lib.hid ht
  have HT2 := Lib.hid ht2
  have HQ := Lib.hid hq
  have HQ2 := Lib.hid hq2
  have HV := Lib.hid hv
  have HV2 := Lib.hid hv2
  have HL : Hid (zss.length = n) := by unfold Hid; rw [← hz, length_tab]
  clear hz ht ht2 hq hq2 hv hv2 hA hB
  go_enter Try.func142, Try.ntmps142
  go_wp2_with (go_at_call 121; refine (l03Zero_any _ _ n (by omega) (by omega)).mono ?_; rintro e w1 ⟨A1, c1, rfl, o1, hb1⟩; rw [length_tab] at o1 ⊢; obtain ⟨g, _, _, -, e0, hg1, hg2, hg3, -⟩ := o1.row (k := 0) (by rw [length_tab]; omega); rw [length_tab] at e0; simp only [Value.slice.injEq] at e0; obtain ⟨rfl, -, rfl⟩ := e0)
  rw [tP_zero m n (co2 xss) (co2 yss)] at o1
  obtain ⟨lo, hlo⟩ : ∃ lo, lo = w.heap.size := ⟨_, rfl⟩
  obtain ⟨hi, hhi⟩ : ∃ hi, hi = w1.heap.size := ⟨_, rfl⟩
  have HR0 : Hid (OwnP w1 lo hi (.slice (some ⟨g, 0, none⟩) n c1) (tab n (stP m n (co2 xss) (co2 yss) 0 0 0 0))) := by rw [hlo, hhi]; exact o1
  have HB0 := Lib.hid hb1
  have hlo2 : w.heap.size ≤ lo := by omega
  clear o1 hb1 hhi
  go_loopw [9] (fun s wr => ∃ i : Nat, i ≤ n ∧ s = .int .i64 i ∧ Hid (OwnP wr lo hi (.slice (some ⟨g, 0, none⟩) n c1) (tab n (stP m n (co2 xss) (co2 yss) i 0 0 0))) ∧ Hid (Below w.heap.size w wr)) (fun s _ => n - (intOf s).toNat)
  case atStart => exact ⟨0, Nat.zero_le _, rfl, HR0, HB0⟩
  case round =>
    clear HR0 HB0
    obtain ⟨i, hin, rfl, HR, HB⟩ := hrel
    by_cases hlti : i < n
    · obtain ⟨gx, grx, crx, e1, hx1, hx2, hx3, -, hx5⟩ := HV.out.at2 (i := i) (j := 0) (by rw [HT.out.1]; exact hlti) (by rw [HT.out.2 i hlti]; omega)
      simp only [Option.some.injEq, Addr.mk.injEq] at e1
      obtain ⟨rfl, -⟩ := e1
      obtain ⟨ri, hri⟩ : ∃ ri, ri = n - i := ⟨_, rfl⟩
      rw [HT.out.2 i hlti, ← hri] at hx2 hx5
      have hri2 : i + ri = n := by omega
      have HRI := Lib.hid hri2
      have hri3 : i + ri ≤ n ∧ n ≤ i + ri := by omega
      clear hri hri2
      have hi0 : (0 : Int) ≤ (i : Int) := by omega
      have hi1 : (i : Int) < (n : Int) := by omega
      go_wp2
      go_loopw [10] (fun s wr => ∃ j : Nat, j ≤ ri ∧ s = .int .i64 j ∧ Hid (OwnP wr lo hi (.slice (some ⟨g, 0, none⟩) n c1) (tab n (stP m n (co2 xss) (co2 yss) i j 0 0))) ∧ Hid (Below w.heap.size w wr)) (fun s _ => ri - (intOf s).toNat)
      case atStart => exact ⟨0, Nat.zero_le _, rfl, HR, HB⟩
      case round =>
        clear HR HB
        obtain ⟨j, hj, rfl, HR, HB⟩ := hrel
        by_cases hltj : j < ri
        · obtain ⟨gx2, grx2, crx2, e1, -, hy2, hy3, hy4, -⟩ := HV.out.at2 (i := i) (j := j) (by rw [HT.out.1]; exact hlti) (by rw [HT.out.2 i hlti]; omega)
          simp only [Option.some.injEq, Addr.mk.injEq] at e1
          obtain ⟨rfl, -⟩ := e1
          rw [hx2] at hy2
          simp only [Option.some.injEq, Value.slice.injEq, Addr.mk.injEq] at hy2
          obtain ⟨⟨rfl, -⟩, -, -⟩ := hy2
          have hc1 := (HB.out.cell (p := ⟨gA, i, none⟩) hx1).trans hx2
          have hc2 := (HB.out.cell (p := ⟨grx, j, none⟩) hy3).trans hy4
          have hxb := HQ.out i j
          obtain ⟨x, hx⟩ : ∃ x, x = co2 xss i j := ⟨_, rfl⟩
          rw [← hx] at hc2 hxb hy4
          have HX := Lib.hid hx
          clear hx
          have hj0 : (0 : Int) ≤ (j : Int) := by omega
          have hj1 : (j : Int) < (ri : Int) := by omega
          have hij : (i : Int) + (j : Int) < (n : Int) := by omega
          by_cases hx0 : x = 0
          · have hxz : (x == 0) = true := by simpa using hx0
            have hs := HR.out
            rw [tP_skip m n (co2 xss) (co2 yss) i j (by rw [← HX.out]; exact hx0)] at hs
            have HR' := Lib.hid hs
            clear hs hx0
            go_wp2
            go_roundw
            case rel => exact ⟨j + 1, by omega, by go_num, HR', HB⟩
            case measure => simp [intOf]; omega
          · have hxz : (x == 0) = false := by simpa using hx0
            clear hx0
            go_wp2
            clear hc2 hc1
            go_loopw [11] (fun s wr => ∃ k : Nat, i + j + k ≤ n ∧ s = .int .i64 k ∧ Hid (OwnP wr lo hi (.slice (some ⟨g, 0, none⟩) n c1) (tab n (stP m n (co2 xss) (co2 yss) i j k 0))) ∧ Hid (Below w.heap.size w wr)) (fun s _ => n + 1 - (intOf s).toNat)
            case atStart => exact ⟨0, by omega, rfl, HR, HB⟩
            case round =>
              clear HR HB
              obtain ⟨k, hk, rfl, HR, HB⟩ := hrel
              by_cases hltk : i + j + k < n
              · obtain ⟨gy, gry, cry, e1, hw1, hw2, hw3, -, hw5⟩ := HV2.out.at2 (i := k) (j := 0) (by rw [HT2.out.1]; omega) (by rw [HT2.out.2 k (by omega)]; omega)
                simp only [Option.some.injEq, Addr.mk.injEq] at e1
                obtain ⟨rfl, -⟩ := e1
                obtain ⟨rk, hrk⟩ : ∃ rk, rk = n - k := ⟨_, rfl⟩
                rw [HT2.out.2 k (by omega), ← hrk] at hw2 hw5
                obtain ⟨r, hr⟩ : ∃ r, i + j + k + r = n := ⟨n - (i + j + k), by omega⟩
                have HRR := Lib.hid hr
                have hr3 : i + j + k + r ≤ n ∧ n ≤ i + j + k + r ∧ r ≤ rk ∧ rk + k ≤ n ∧ n ≤ rk + k := by omega
                clear hrk hr
                have hc3 := (HB.out.cell (p := ⟨gB, k, none⟩) hw1).trans hw2
                obtain ⟨gr, cr, hcr, hne, hgl, hgh, hgz, -, -, -⟩ := HR.out.put (i := i + k) (j := j) (by omega)
                obtain ⟨q, hq⟩ : ∃ q, q = n - (i + k) := ⟨_, rfl⟩
                rw [← hq] at hcr
                have hq2 : q + (i + k) ≤ n ∧ n ≤ q + (i + k) := by omega
                clear hq
                have hk0 : (0 : Int) ≤ (k : Int) := by omega
                have hk1 : (k : Int) < (n : Int) := by omega
                have hk2 : (i : Int) + (j : Int) + (k : Int) < (n : Int) := by omega
                have v1 : IntKind.i64.wrap ((i : Int) + (k : Int)) = (i : Int) + (k : Int) := IntWalk.i64_in _ (by omega)
                have v5 : (0 : Int) ≤ (i : Int) + (k : Int) := by omega
                have v6 : (i : Int) + (k : Int) < (n : Int) := by omega
                have v7 : ((i : Int) + (k : Int)).toNat = i + k := by omega
                go_wp2
                go_quiet (fail)
                have HCR : Hid (wr.cell? ⟨g, i + k, none⟩ = some (.slice (some ⟨gr, 0, none⟩) q cr)) := hcr
                clear v1 hc3 hcr
                go_wp2
                go_loopw [14] (fun s wr => ∃ l : Nat, l ≤ r ∧ s = .int .i64 l ∧ Hid (wr.cell? ⟨g, i + k, none⟩ = some (.slice (some ⟨gr, 0, none⟩) q cr)) ∧ Hid (OwnP wr lo hi (.slice (some ⟨g, 0, none⟩) n c1) (tab n (stP m n (co2 xss) (co2 yss) i j k l))) ∧ Hid (Below w.heap.size w wr)) (fun s _ => r - (intOf s).toNat)
                case atStart => exact ⟨0, Nat.zero_le _, rfl, HCR, HR, below_drewN HB.out _⟩
                case round =>
                  clear HR HB HCR
                  obtain ⟨l, hl, rfl, HCR, HR, HB⟩ := hrel
                  by_cases hltl : l < r
                  · obtain ⟨gy2, gry2, cry2, e1, -, hu2, hu3, hu4, -⟩ := HV2.out.at2 (i := k) (j := l) (by rw [HT2.out.1]; omega) (by rw [HT2.out.2 k (by omega)]; omega)
                    simp only [Option.some.injEq, Addr.mk.injEq] at e1
                    obtain ⟨rfl, -⟩ := e1
                    rw [hw2] at hu2
                    simp only [Option.some.injEq, Value.slice.injEq, Addr.mk.injEq] at hu2
                    obtain ⟨⟨rfl, -⟩, -, -⟩ := hu2
                    have hc1 := (HB.out.cell (p := ⟨gA, i, none⟩) hx1).trans hx2
                    have hc2 := (HB.out.cell (p := ⟨grx, j, none⟩) hy3).trans hy4
                    have hc4 := (HB.out.cell (p := ⟨gry, l, none⟩) hu3).trans hu4
                    have hyb := HQ2.out k l
                    obtain ⟨gr2, cr2, hcr2, hne2, hgl2, hgh2, hgz2, hd0, hf0, hset⟩ := HR.out.put (i := i + k) (j := j + l) (by omega)
                    rw [HCR.out] at hcr2
                    simp only [Option.some.injEq, Value.slice.injEq, Addr.mk.injEq] at hcr2
                    obtain ⟨⟨rfl, -⟩, -, -⟩ := hcr2
                    rw [stP_at] at hd0
                    have hsb := stS_bd (show 0 < m by omega) n (co2 xss) (co2 yss) i j (i + k) (j + l)
                    have hst := tP_step' m n (co2 xss) (co2 yss) i j k l
                    rw [← HX.out] at hst
                    obtain ⟨y, hy⟩ : ∃ y, y = co2 yss k l := ⟨_, rfl⟩
                    rw [← hy] at hc4 hyb hst
                    have HST := Lib.hid hst
                    have HSET := Lib.hid hset
                    obtain ⟨s, hs⟩ : ∃ s, s = stS n (co2 xss) (co2 yss) i j (i + k) (j + l) % m := ⟨_, rfl⟩
                    rw [← hs] at hd0 hsb HST
                    clear hset hst hu4 hy hs
                    have hxy := prod_bd hxb.1 hxb.2 hyb.1 hyb.2 hm'
                    have hl0 : (0 : Int) ≤ (l : Int) := by omega
                    have hl1 : (l : Int) < (rk : Int) := by omega
                    have hl2 : (i : Int) + (j : Int) + (k : Int) + (l : Int) < (n : Int) := by omega
                    have v2 : IntKind.i64.wrap ((j : Int) + (l : Int)) = (j : Int) + (l : Int) := IntWalk.i64_in _ (by omega)
                    have v3 : IntKind.i64.wrap (s + x * y) = s + x * y := IntWalk.i64_in _ (by omega)
                    have v3' : IntKind.i64.wrap (x * y) = x * y := IntWalk.i64_in _ (by omega)
                    have v4 : (s + x * y).tmod m = (s + x * y) % m := Int.tmod_eq_emod_of_nonneg (by omega)
                    have v8 : (0 : Int) ≤ (j : Int) + (l : Int) := by omega
                    have v9 : (j : Int) + (l : Int) < (q : Int) := by omega
                    have v10 : ((j : Int) + (l : Int)).toNat = j + l := by omega
                    have v11 : (m == 0) = false := by simp; omega
                    have v12 : ¬ m = 0 := by omega
                    go_wp2
                    go_still_tail 26, (by kernel_rfl)
                    change wpList _ _ _ _ _ wr.drew
                    clear v2 v3 v3' v4
                    go_wp2
                    go_roundw
                    case rel =>
                      refine ⟨l + 1, by omega, by go_num, ?_, ?_, (below_drew HB.out).setCell (by simp; omega) _⟩
                      · unfold Hid
                        exact (World.cell?_setCell_other _ _ _ _ (by first | (simp; done) | (simp; omega))).trans HCR.out
                      · unfold Hid
                        rw [← HST.out]
                        exact HSET.out _
                    case measure => simp [intOf]; omega
                  · have hlr : l = r := by omega
                    have hs := HR.out
                    rw [hlr, tP_endl m n (co2 xss) (co2 yss) i j k r HRR.out] at hs
                    have HR' := Lib.hid hs
                    have hd6 : decide ((i : Int) + (j : Int) + (k : Int) + (l : Int) < (n : Int)) = false := by simp; omega
                    clear hs hlr
                    go_wp2
                    go_roundw
                    case rel => exact ⟨k + 1, by omega, by go_num, HR', HB⟩
                    case measure => simp [intOf]; omega
              · have hkn : i + j + k = n := by omega
                have hs := HR.out
                rw [tP_endk m n (co2 xss) (co2 yss) i j k hkn] at hs
                have HR' := Lib.hid hs
                have hd6 : decide ((i : Int) + (j : Int) + (k : Int) < (n : Int)) = false := by simp; omega
                clear hs hkn
                go_wp2
                go_roundw
                case rel => exact ⟨j + 1, by omega, by go_num, HR', HB⟩
                case measure => simp [intOf]; omega
        · have hjr : j = ri := by omega
          have hs := HR.out
          rw [hjr, tP_endj m n (co2 xss) (co2 yss) i ri HRI.out] at hs
          have HR' := Lib.hid hs
          have hd6 : decide ((i : Int) + (j : Int) < (n : Int)) = false := by simp; omega
          clear hs hjr
          go_wp2
          go_roundw
          case rel => exact ⟨i + 1, by omega, by go_num, HR', HB⟩
          case measure => simp [intOf]; omega
    · obtain rfl : i = n := by omega
      have hs := HR.out
      rw [tP_all, HZ.out] at hs
      have hd6 : decide ((i : Int) < (i : Int)) = false := by simp
      go_wp2
      go_ret
      exact ⟨some ⟨g, 0, none⟩, c1, by rw [HL.out]; rfl, by rw [HL.out]; exact hs.top (by omega), HB.out⟩

/-! ### Horner's rule over planes: the plain law (for the axioms of a law) -/
theorem sumN_mul (c : Int) (f : Nat → Int) (n : Nat) : sumN (fun i => c * f i) n = c * sumN f n := by
  induction n with
  | zero => simp [sumN]
  | succ n ih => simp only [sumN]; rw [ih, Int.mul_add]
theorem allS_smul (n : Nat) (c : Int) (f g : Nat → Nat → Int) (I a b : Nat) : allS n (fun i j => c * f i j) g I a b = c * allS n f g I a b := by
  unfold allS
  rw [← sumN_mul]
  apply sumN_congr
  intro i _
  unfold rowS
  rw [← sumN_mul]
  apply sumN_congr
  intro j _
  unfold fT
  split
  · rw [Int.mul_assoc]
  · rw [Int.mul_zero]
theorem sumN_dvd {f : Nat → Int} {m : Int} {n : Nat} (h : ∀ i, i < n → m ∣ f i) : m ∣ sumN f n := by
  induction n with
  | zero => exact Int.dvd_zero m
  | succ n ih => exact Int.dvd_add (ih fun i hi => h i (by omega)) (h n (by omega))
theorem sumN_sub (f g : Nat → Int) (n : Nat) : sumN (fun i => f i - g i) n = sumN f n - sumN g n := by
  induction n with
  | zero => simp [sumN]
  | succ n ih => simp only [sumN]; rw [ih]; omega
/-- A product of a first factor that is congruent. -/
theorem tmF_modL {m : Int} {n : Nat} {f f' g : Nat → Nat → Int} {a b : Nat} (hab : a + b < n) (h : ∀ i j, i + j < n → f i j % m = f' i j % m) : tmF m n f g a b = tmF m n f' g a b := by
  unfold tmF
  apply Int.emod_emod_of_dvd _ (Int.dvd_refl m) |>.symm.trans
  rw [Int.emod_emod]
  apply Int.emod_eq_emod_iff_emod_sub_eq_zero.2
  apply Int.emod_eq_zero_of_dvd
  unfold allS
  rw [← sumN_sub]
  apply sumN_dvd
  intro i hi
  unfold rowS
  rw [← sumN_sub]
  apply sumN_dvd
  intro j hj
  unfold fT
  split
  · rw [← Int.sub_mul]
    exact Int.dvd_mul_of_dvd_left (Int.dvd_of_emod_eq_zero (Int.emod_eq_emod_iff_emod_sub_eq_zero.1 (h i j (by omega))))
  · simp
theorem allS_sum (n : Nat) (c : Nat → Int) (P : Nat → Nat → Nat → Int) (g : Nat → Nat → Int) (s a b : Nat) : allS n (fun i j => sumN (fun q => c q * P q i j) s) g n a b = sumN (fun q => c q * allS n (P q) g n a b) s := by
  induction s with
  | zero =>
    simp only [sumN]
    unfold allS
    apply sumN_none
    intro i _
    unfold rowS
    apply sumN_none
    intro j _
    unfold fT
    split
    · rw [Int.zero_mul]
    · rfl
  | succ s ih =>
    simp only [sumN]
    rw [allS_add, allS_smul, ih]
/-- The powers of a plane, one after the other. -/
def pwP (m : Int) (n : Nat) (F : Nat → Nat → Int) : Nat → Nat → Nat → Int
  | 0 => numF m 1
  | k + 1 => tmF m n (pwP m n F k) F
/-- Horner's rule: s steps from index t - 1 downwards. -/
def hrP (m : Int) (n : Nat) (c : Nat → Int) (F : Nat → Nat → Int) (t : Nat) : Nat → Nat → Nat → Int
  | 0 => fun _ _ => 0
  | s + 1 => fun i j => if i = 0 ∧ j = 0 then (tmF m n (hrP m n c F t s) F 0 0 + c (t - 1 - s)) % m else tmF m n (hrP m n c F t s) F i j
theorem hrP_eq (m : Int) (n : Nat) (hm : 2 ≤ m) (c : Nat → Int) (F : Nat → Nat → Int) (t : Nat) : ∀ s, s ≤ t → ∀ i j, i + j < n → hrP m n c F t s i j = sumN (fun q => c (t - s + q) * pwP m n F q i j) s % m := by
  intro s
  induction s with
  | zero => intro _ i j _; simp [hrP, sumN]
  | succ s ih =>
    intro hs i j hij
    have e0 : ∀ i j, i + j < n → tmF m n (hrP m n c F t s) F i j = sumN (fun q => c (t - s + q) * pwP m n F (q + 1) i j) s % m := by
      intro i j hij
      rw [tmF_modL (f' := fun i j => sumN (fun q => c (t - s + q) * pwP m n F q i j) s) hij (fun i j hij => by rw [ih (by omega) i j hij, Int.emod_emod])]
      unfold tmF
      rw [allS_sum]
      apply Int.emod_eq_emod_iff_emod_sub_eq_zero.2
      apply Int.emod_eq_zero_of_dvd
      rw [← sumN_sub]
      apply sumN_dvd
      intro q _
      rw [← Int.mul_sub]
      apply Int.dvd_mul_of_dvd_right
      simp only [pwP, tmF]
      exact Int.dvd_self_sub_emod
    have e1 : sumN (fun q => c (t - (s + 1) + q) * pwP m n F q i j) (s + 1) = c (t - (s + 1)) * numF m 1 i j + sumN (fun q => c (t - s + q) * pwP m n F (q + 1) i j) s := by
      rw [sumN_shift']
      have e2 : sumN (fun q => c (t - (s + 1) + (q + 1)) * pwP m n F (q + 1) i j) s = sumN (fun q => c (t - s + q) * pwP m n F (q + 1) i j) s := by
        apply sumN_congr
        intro q _
        rw [show t - (s + 1) + (q + 1) = t - s + q by omega]
      rw [e2]
      rfl
    have h1 : (1 : Int) % m = 1 := Int.emod_eq_of_lt (by omega) (by omega)
    rw [e1]
    simp only [hrP]
    unfold numF
    by_cases h : i = 0 ∧ j = 0
    · obtain ⟨rfl, rfl⟩ := h
      rw [if_pos ⟨rfl, rfl⟩, e0 0 0 hij, if_pos ⟨rfl, rfl⟩, h1, Int.mul_one, Int.emod_add_emod, show t - 1 - s = t - (s + 1) by omega, Int.add_comm]
    · rw [if_neg h, e0 i j hij, if_neg h, Int.mul_zero, Int.zero_add]

/-! ### PartialPlane -/
def prF (xss : List (List Int)) (k : Int) (i j : Nat) : Int := if k = 0 then ((i : Int) + 1) * co2 xss (i + 1) j else ((j : Int) + 1) * co2 xss i (j + 1)
theorem first3c {w w1 : World} {x y k x' y' : Value} {t tk t' : TypeId} (hb : Below (((w.alloc (.cells #[x, y] t)).alloc (.cells #[k] tk)).alloc (.cells #[x', y'] t')).heap.size (((w.alloc (.cells #[x, y] t)).alloc (.cells #[k] tk)).alloc (.cells #[x', y'] t')) w1) :
    Bf w1 w.heap.size x y ∧ w1.cell? ⟨w.heap.size + 1, 0, none⟩ = some k ∧ Bf w1 (w.heap.size + 2) x' y' ∧ Below w.heap.size w w1 := by
  refine ⟨(((Bf.alloc1 w x y t).alloc _).alloc _).keep hb, ?_, ?_, ?_⟩
  · rw [hb.cell (p := ⟨w.heap.size + 1, 0, none⟩) (by simp)]
    have h1 : ((w.alloc (.cells #[x, y] t)).alloc (.cells #[k] tk)).cell? ⟨w.heap.size + 1, 0, none⟩ = some k := by
      simp
    have h2 := (below_alloc1 ((w.alloc (.cells #[x, y] t)).alloc (.cells #[k] tk)) (.cells #[x', y'] t')).cell (p := ⟨w.heap.size + 1, 0, none⟩) (by simp)
    exact h2.trans h1
  · have := (Bf.alloc1 ((w.alloc (.cells #[x, y] t)).alloc (.cells #[k] tk)) x' y' t').keep hb
    simpa using this
  · refine Below.trans ?_ (hb.mono (by simp; omega))
    exact (((Below.refl _ _).alloc (Nat.le_refl _) _).alloc (by simp) _).alloc (by simp; omega) _
theorem partial_rows (m : Int) (xss : List (List Int)) (n : Nat) (ht : Tri n xss) : rowsF (fun i => scaleL m (((i : Int) + 1) % m) (xss.getD (i + 1) [])) (n - 1) = tab (n - 1) fun i j => prF xss 0 i j % m := by
  unfold rowsF tab
  apply List.map_congr_left
  intro i hi
  have hi' := List.mem_range.1 hi
  unfold scaleL
  rw [ht.2 (i + 1) (by omega), show n - (i + 1) = n - 1 - i by omega]
  apply lst_congr
  intro j _
  simp only [prF, if_true]
  rw [Int.mul_emod (((i : Int) + 1) % m), Int.emod_emod, ← Int.mul_emod]
  rfl
def PartialPlaneR (m : Int) (xss : List (List Int)) (k : Int) : (Int × List (List Int)) × Int := if isPl m xss = false then ((0, []), 1) else if inB k 0 1 = false then ((0, []), 2) else if xss.length = 2 then ((0, []), 5) else ((m, tab (xss.length - 1) fun i j => prF xss k i j % m), 0)
theorem PartialPlaneR_len (m : Int) (xss : List (List Int)) (k : Int) : cntP (PartialPlaneR m xss k).1.2 ≤ 200 := by
  unfold PartialPlaneR
  cases h : isPl m xss
  · simp [cntP]
  · have h2 := (isPl_true h).2.1
    simp only [Bool.true_eq_false, if_false]
    split
    · simp [cntP]
    · split
      · simp [cntP]
      · exact cntP_tab_100 _ (by omega)
theorem partial_turn (m : Int) (xss : List (List Int)) (n : Nat) (k : Int) (hk : ¬ k = 0) (hn : 1 ≤ n) : (tab (n - 1) fun i j => co2 (tab (n - 1) fun i j => prF (tab n fun i j => co2 xss j i) 0 i j % m) j i) = tab (n - 1) fun i j => prF xss k i j % m := by
  apply tab_congr
  intro i j hij
  rw [co2_tab _ (by omega)]
  simp only [prF, if_true, if_neg hk]
  rw [co2_tab _ (by omega)]

/-! ### A number times a plane -/
theorem scale_rows (m c0 : Int) (xss : List (List Int)) (n : Nat) (ht : Tri n xss) : rowsF (fun i => scaleL m c0 (xss.getD i [])) n = tab n fun i j => c0 * co2 xss i j % m := by
  unfold rowsF tab
  apply List.map_congr_left
  intro i hi
  have hi' := List.mem_range.1 hi
  unfold scaleL
  rw [ht.2 i hi']
  rfl
set_option maxRecDepth 8000 in
set_option maxHeartbeats 2000000 in
theorem l03Scale_any (w : World) (m c0 : Int) (v : Value) (xss zss : List (List Int)) (n : Nat) (lo hi : Nat) (hv : OwnP w lo hi v xss) (ht : Tri n xss) (hq : Num2 m xss) (hm : 2 ≤ m) (hm' : m ≤ 3000000000) (hc : 0 ≤ c0 ∧ c0 < m) (hn1 : 1 ≤ n) (hn : n ≤ 1000) (hz : (tab n fun i j => c0 * co2 xss i j % m) = zss) :
    Calls Try.prog 120 #[.int .i64 m, .int .i64 c0, v] w (NewP w zss) := by
  obtain ⟨g, c, rfl, hc1, hc2, hg, hA⟩ := hv.source n ht.1 hn1
  have HRW : Hid (rowsF (fun i => scaleL m c0 (xss.getD i [])) n = zss) := by
    unfold Hid
    rw [scale_rows m c0 xss n ht]
    exact hz
  have HA := Lib.hid hA
  have HT := Lib.hid ht
  have HQ := Lib.hid hq
  clear hA hv ht hz hq
  go_enter Try.func120, Try.ntmps120
  go_wp2
  go_loopw [7, 8] (fun s i wr => ∃ (k : Nat) (A : Option Addr) (c : Nat), k ≤ n ∧ s = .slice A k c ∧ i = .int .i64 k ∧ Hid (OwnP wr w.heap.size wr.heap.size (.slice A k c) (rowsF (fun i => scaleL m c0 (xss.getD i [])) k)) ∧ Hid (Below w.heap.size w wr)) (fun _ i _ => n + 2 - (intOf i).toNat)
  case atStart => exact ⟨0, _, 0, Nat.zero_le _, rfl, rfl, OwnP.start (Nat.le_refl _), by unfold Hid; (repeat (first | assumption | exact Below.refl _ _ | refine Below.alloc ?_ (by first | omega | (simp; done) | (simp; omega)) _ | refine Below.setCell ?_ (by first | omega | (simp; done) | (simp; omega)) _ | refine below_drewN ?_ _))⟩
  case round =>
    obtain ⟨k, A, c', hk, rfl, rfl, HO, HB⟩ := hrel
    have hz := HB.out.size
    by_cases hlt : k < n
    · have hk1 : (k : Int) < (n : Int) := by omega
      obtain ⟨Ar, cr, hcell, hown⟩ := HA.out k (by omega)
      have hc0 := (HB.out.cell (p := ⟨g, k, none⟩) hg).trans hcell
      have HOX := Lib.hid (hown.keep HB.out (Nat.le_refl _))
      obtain ⟨x, hx⟩ : ∃ x, x = xss.getD k [] := ⟨_, rfl⟩
      have hxl : x.length ≤ 1000 := by rw [hx, HT.out.2 k (by omega)]; omega
      have HXN : Hid (NumL m x) := fun j => by rw [hx]; exact HQ.out k j
      obtain ⟨y, hy⟩ : ∃ y, scaleL m c0 x = y := ⟨_, rfl⟩
      have HS2 : Hid (rowsF (fun i => scaleL m c0 (xss.getD i [])) (k + 1) = rowsF (fun i => scaleL m c0 (xss.getD i [])) k ++ [y]) := by unfold Hid; rw [rowsF_succ, ← hy, hx]
      rw [← hx] at hc0 HOX
      have HY := Lib.hid hy
      clear hcell hown hx hy
      have hk0 : (0 : Int) ≤ (k : Int) := by omega
      go_wp2_with (first | (go_at_call 68; refine (l02Scale_any m c0 _ _ x y lo HOX.out HY.out (by omega) (by omega) hc.1 hc.2 HXN.out (by omega)).mono ?_; rintro e w3 ⟨A3, c3, rfl, o3, hb3⟩; have O3 := Lib.hid o3; have R3 := Lib.hid hb3; have s3 := hb3.size; clear o3) | (at_builtin; refine appendP _ _ w.heap.size wr.heap.size (.slice A k c') (.slice A3 y.length c3) (rowsF (fun i => scaleL m c0 (xss.getD i [])) k) y w3.heap.size (by rfl) (by rfl) (by rfl) (by rfl) ((HO.out.keep R3.out).alloc _) (by simp; omega) ((O3.out.alloc _).mono (by omega)) (fun g hg => (O3.out.block_ge hg).1) (heap_alloc_new w3 _) (by rw [length_rowsF]; omega) (by simp; omega) ?_; intro A2 c2 w2 ho2 hg2; rw [length_rowsF] at ho2 ⊢))
      go_roundw
      case rel =>
        refine ⟨k + 1, A2, c2, by omega, rfl, by go_num, by rw [HS2.out]; exact ho2, ?_⟩
        unfold Hid
        exact below_grownP ((HB.out.trans (R3.out.mono hz)).alloc (by omega) _) (by simp; omega) hg2 (fun g hg => ownP_block_ge HO.out hg)
      case measure => simp [intOf]; omega
    · have hkn : k = n := by omega
      have hd5 : decide ((k : Int) < (n : Int)) = false := by simp; omega
      have hO := HO.out
      rw [hkn, HRW.out] at hO
      have HL : Hid (zss.length = n) := by unfold Hid; rw [← HRW.out, length_rowsF]
      have HO2 := Lib.hid hO
      clear hO
      subst hkn
      go_wp2
      go_ret
      exact ⟨A, c', by rw [HL.out]; rfl, by rw [HL.out]; exact HO2.out, HB.out⟩

end Go.Proofs.Ytfdklbimdkaaiaa
