/- Contracts over this seat's translation. Condition: each contract's own. -/
import Derived.Test.YtfdklbimdkaaiaaL
import Derived.ProofKit
import Derived.Laws.Bits64b
import Derived.Lib.Mul64
import Derived.OpenShut
import Derived.Below
import Derived.ChangeSame
import Derived.Deep.Modes
import Derived.Lib.SmallJoins
import Derived.ChangeSlices
import Derived.WalkKit
import Derived.WalkSpells
import Derived.WalkLawsBesides
import Derived.Deep.QuietTactic
import Derived.BigQuiet
import Derived.Deep.RegionHeld3
import Derived.Deep.RegionWith
import Derived.Deep.RegionLaw
import Derived.Deep.AppendLies
import Derived.Laws.CopyOwn
import Derived.Deep.DeepCutAuto
import Derived.Deep.OwnRows
import Derived.Deep.LoopGhost
import Derived.Deep.DeepFit
import Derived.Deep.DeepMust
import Derived.Deep.Draws
import Derived.Deep.CutRange
import Derived.Maps.AppendAt
import Derived.Lib.Hide
import Derived.StillTailTactics
import Derived.Laws.MakeOwn
import Derived.Deep.Matrix
set_option linter.unusedVariables false
open Go Go.RowKit
namespace Go.Proofs.Ytfdklbimdkaaiaa
/-! ### Lists of lists in memory; what lies in an interval of blocks -/
/-- Between w and w' only blocks from lo to below hi, and new ones, may differ. -/
def Within (lo hi : Nat) (w w' : World) : Prop := w'.os = w.os ∧ w'.tape = w.tape ∧ w'.output = w.output ∧ w.heap.size ≤ w'.heap.size ∧ ∀ k, k < w.heap.size → (k < lo ∨ hi ≤ k) → w'.heap[k]? = w.heap[k]?
theorem Within.refl (lo hi : Nat) (w : World) : Within lo hi w w := ⟨rfl, rfl, rfl, Nat.le_refl _, fun _ _ _ => rfl⟩
theorem Within.trans {lo hi : Nat} {a b c : World} (h : Within lo hi a b) (h' : Within lo hi b c) : Within lo hi a c :=
  ⟨h'.1.trans h.1, h'.2.1.trans h.2.1, h'.2.2.1.trans h.2.2.1, Nat.le_trans h.2.2.2.1 h'.2.2.2.1, fun k hk hn => (h'.2.2.2.2 k (Nat.lt_of_lt_of_le hk h.2.2.2.1) hn).trans (h.2.2.2.2 k hk hn)⟩
theorem Within.of_grownBy {lo hi : Nat} {w w' : World} {r : Option Nat} (h : w.grownBy w' r) (hr : ∀ g, r = some g → lo ≤ g ∧ g < hi) : Within lo hi w w' :=
  ⟨h.os, h.tape, h.output, h.size, fun k hk hn => h.block k hk fun e => by have := hr k e.symm; omega⟩
theorem Within.behind {lo hi : Nat} {w W w' : World} (h : Below w.heap.size w W) (h' : Within lo hi W w') : Within lo hi w w' :=
  ⟨h'.1.trans h.os, h'.2.1.trans h.tape, h'.2.2.1.trans h.output, Nat.le_trans h.size h'.2.2.2.1, fun k hk hn => (h'.2.2.2.2 k (Nat.lt_of_lt_of_le hk h.size) hn).trans (h.block k hk)⟩
theorem Within.below {lo hi B : Nat} {w0 w w' : World} (h0 : Below B w0 w) (hB : B ≤ w.heap.size) (h : Within lo hi w w') (hl : B ≤ lo) : Below B w0 w' :=
  ⟨h.1.trans h0.os, h.2.1.trans h0.tape, h.2.2.1.trans h0.output, Nat.le_trans h0.size h.2.2.2.1, fun k hk => (h.2.2.2.2 k (by omega) (.inl (by omega))).trans (h0.block k hk)⟩
theorem Bx.within {lo hi : Nat} {w w' : World} {b : Nat} {x y : Value} (h : Bx w b x y) (R : Within lo hi w w') (hne : b < lo ∨ hi ≤ b) : Bx w' b x y := by
  have e : w'.heap[b]? = w.heap[b]? := R.2.2.2.2 b h.1 hne
  exact ⟨Nat.lt_of_lt_of_le h.1 R.2.2.2.1, (World.cell?_of_block (a := ⟨b, 0, none⟩) e).trans h.2.1, (World.cell?_of_block (a := ⟨b, 1, none⟩) e).trans h.2.2⟩
/-- A list of int64 in a block from lo to below hi. -/
def OwnB (w : World) (lo hi : Nat) (v : Value) (xs : List Int) : Prop := OwnI w lo v xs ∧ ∀ g, v.ownBlock = some g → g < hi
theorem OwnI.toB {w : World} {lo : Nat} {v : Value} {xs : List Int} (h : OwnI w lo v xs) : OwnB w lo w.heap.size v xs := ⟨h, fun _ hg => (h.block_ge hg).2⟩
theorem OwnB.keep {w w' : World} {lo hi : Nat} {v : Value} {xs : List Int} (h : OwnB w lo hi v xs) (R : Below w.heap.size w w') : OwnB w' lo hi v xs := ⟨h.1.keep R (Nat.le_refl _), h.2⟩
theorem OwnB.within {w w' : World} {lo hi lo' hi' : Nat} {v : Value} {xs : List Int} (h : OwnB w lo hi v xs) (R : Within lo' hi' w w') (hd : hi ≤ lo' ∨ hi' ≤ lo) : OwnB w' lo hi v xs :=
  ⟨h.1.of_block fun g hg => R.2.2.2.2 g (h.1.block_ge hg).2 (by have := h.1.block_ge hg; have := h.2 g hg; omega), h.2⟩
theorem OwnB.rd {w : World} {lo hi : Nat} {v : Value} {xs : List Int} (h : OwnB w lo hi v xs) : RdI w v xs := h.1.rd
theorem OwnB.mono {w : World} {lo lo' hi hi' : Nat} {v : Value} {xs : List Int} (h : OwnB w lo hi v xs) (h1 : lo' ≤ lo) (h2 : hi ≤ hi') : OwnB w lo' hi' v xs := ⟨h.1.mono h1, fun g hg => Nat.lt_of_lt_of_le (h.2 g hg) h2⟩

/-- A list of lists of int64: the outer block and the rows' blocks lie from lo to below hi, no two of them the same. -/
def OwnP (w : World) (lo hi : Nat) (v : Value) (xss : List (List Int)) : Prop :=
  ∃ us : List Value, us.length = xss.length ∧ w.ownsRow lo 22 1 v us.length us ∧ (∀ g, v.ownBlock = some g → g < hi) ∧
    (∀ k, k < us.length → OwnI w lo (us.getD k (.slice none 0 0)) (xss.getD k []) ∧ ∀ g, (us.getD k (.slice none 0 0)).ownBlock = some g → g < hi ∧ v.ownBlock ≠ some g) ∧
    ∀ i j g, i < us.length → j < us.length → i ≠ j → (us.getD i (.slice none 0 0)).ownBlock = some g → (us.getD j (.slice none 0 0)).ownBlock ≠ some g
theorem ownsRow_of_block {w w' : World} {B : Nat} {t : TypeId} {sz : Nat} {v : Value} {n : Nat} {us : List Value} (h : w.ownsRow B t sz v n us) (hb : ∀ g, v.ownBlock = some g → w'.heap[g]? = w.heap[g]?) : w'.ownsRow B t sz v n us := by
  rcases h.2 with h0 | ⟨g, cap, cur, h1, h2, h3, h4⟩
  · exact ⟨h.1, .inl h0⟩
  · exact ⟨h.1, .inr ⟨g, cap, cur, h1, h2, (hb g (by rw [h1]; rfl)).trans h3, h4⟩⟩
theorem ownsRow_block_ge {w : World} {B : Nat} {t : TypeId} {sz : Nat} {v : Value} {n g : Nat} {us : List Value} (h : w.ownsRow B t sz v n us) (hg : v.ownBlock = some g) : B ≤ g ∧ g < w.heap.size := by
  rcases h.2 with ⟨rfl, _⟩ | ⟨g', cap, cur, rfl, h2, h3, _⟩
  · simp [Value.ownBlock] at hg
  · have : g' = g := by simpa [Value.ownBlock] using hg
    subst this
    exact ⟨h2, lt_of_block h3⟩
theorem OwnP.of_block {w w' : World} {lo hi : Nat} {v : Value} {xss : List (List Int)} (h : OwnP w lo hi v xss) (hb : ∀ k, k < w.heap.size → lo ≤ k → k < hi → w'.heap[k]? = w.heap[k]?) : OwnP w' lo hi v xss := by
  obtain ⟨us, h1, h2, h3, h4, h5⟩ := h
  refine ⟨us, h1, ownsRow_of_block h2 fun g hg => ?_, h3, fun k hk => ⟨(h4 k hk).1.of_block fun g hg => ?_, (h4 k hk).2⟩, h5⟩
  · have := ownsRow_block_ge h2 hg
    exact hb g this.2 this.1 (h3 g hg)
  · have := (h4 k hk).1.block_ge hg
    exact hb g this.2 this.1 ((h4 k hk).2 g hg).1
theorem OwnP.keep {w w' : World} {lo hi : Nat} {v : Value} {xss : List (List Int)} (h : OwnP w lo hi v xss) (R : Below w.heap.size w w') : OwnP w' lo hi v xss := h.of_block fun k hk _ _ => R.block k hk
theorem OwnP.within {w w' : World} {lo hi lo' hi' : Nat} {v : Value} {xss : List (List Int)} (h : OwnP w lo hi v xss) (R : Within lo' hi' w w') (hd : hi ≤ lo' ∨ hi' ≤ lo) : OwnP w' lo hi v xss :=
  h.of_block fun k hk h1 h2 => R.2.2.2.2 k hk (by omega)
theorem OwnP.drewN {w : World} {lo hi : Nat} {v : Value} {xss : List (List Int)} (h : OwnP w lo hi v xss) (n : Nat) : OwnP (w.drewN n) lo hi v xss := h
theorem OwnP.mono {w : World} {lo lo' hi hi' : Nat} {v : Value} {xss : List (List Int)} (h : OwnP w lo hi v xss) (h1 : lo' ≤ lo) (h2 : hi ≤ hi') : OwnP w lo' hi' v xss := by
  obtain ⟨us, k1, k2, k3, k4, k5⟩ := h
  refine ⟨us, k1, ?_, fun g hg => Nat.lt_of_lt_of_le (k3 g hg) h2, fun k hk => ⟨(k4 k hk).1.mono h1, fun g hg => ⟨Nat.lt_of_lt_of_le ((k4 k hk).2 g hg).1 h2, ((k4 k hk).2 g hg).2⟩⟩, k5⟩
  rcases k2.2 with h0 | ⟨g, cap, cur, e1, e2, e3⟩
  · exact ⟨k2.1, .inl h0⟩
  · exact ⟨k2.1, .inr ⟨g, cap, cur, e1, by omega, e3⟩⟩
theorem OwnP.form {w : World} {lo hi : Nat} {v : Value} {xss : List (List Int)} (h : OwnP w lo hi v xss) : ∃ A c, v = .slice A xss.length c ∧ xss.length ≤ c ∧ c ≤ maxLen := by
  obtain ⟨us, h1, h2, _⟩ := h
  rcases h2.2 with ⟨rfl, h0⟩ | ⟨g, cap, cur, rfl, _, _, e1, e2, _⟩
  · exact ⟨none, 0, by rw [← h1, h0], by omega, by unfold maxLen; omega⟩
  · exact ⟨_, cap, by rw [← h1], by omega, e2⟩
/-- Row k. -/
theorem OwnP.row {w : World} {lo hi : Nat} {v : Value} {xss : List (List Int)} (h : OwnP w lo hi v xss) {k : Nat} (hk : k < xss.length) :
    ∃ g c A c', v = .slice (some ⟨g, 0, none⟩) xss.length c ∧ lo ≤ g ∧ g < hi ∧ g < w.heap.size ∧ w.cell? ⟨g, k, none⟩ = some (.slice A (xss.getD k []).length c') ∧ w.frozen? ⟨g, k, none⟩ = false ∧
      OwnI w lo (.slice A (xss.getD k []).length c') (xss.getD k []) ∧ (∀ b, (Value.slice A (xss.getD k []).length c').ownBlock = some b → b < hi ∧ b ≠ g) ∧
      ∀ w' ys, OwnI w' lo (.slice A (xss.getD k []).length c') ys → w.grownBy w' (Value.slice A (xss.getD k []).length c').ownBlock → OwnP w' lo hi v (xss.set k ys) := by
  obtain ⟨us, h1, h2, h3, h4, h5⟩ := h
  rcases h2.2 with ⟨rfl, h0⟩ | ⟨g, cap, cur, e0, e1, e2, e3, e4, e5, e6⟩
  · omega
  · have hku : k < us.length := by omega
    obtain ⟨A, c', hu⟩ := (h4 k hku).1.form
    have hcell : w.cell? ⟨g, k, none⟩ = some (us.getD k (.slice none 0 0)) := by
      rw [cell_of_row w g k cur _ (0, 0) e2]
      have e : cur.toList[k]? = us[k]? := by rw [← e6, List.getElem?_take, if_pos (by omega)]
      simp only [Array.getElem?_toList] at e
      rw [e, List.getD_eq_getElem?_getD, List.getElem?_eq_getElem hku]
      rfl
    refine ⟨g, cap, A, c', by rw [e0, h1], e1, h3 g (by rw [e0]; rfl), lt_of_block e2, by rw [hcell, hu], by simp [World.frozen?, e2], by rw [← hu]; exact (h4 k hku).1, fun b hb => ?_, fun w' ys hw hg => ?_⟩
    · rw [← hu] at hb
      have := (h4 k hku).2 b hb
      refine ⟨this.1, fun e => this.2 ?_⟩
      rw [e0, e]; rfl
    · rw [← hu] at hw hg
      refine ⟨us, by simp [h1], ownsRow_of_block h2 fun b hb => ?_, h3, fun j hj => ?_, h5⟩
      · refine hg.block b (ownsRow_block_ge h2 hb).2 fun e => ?_
        exact ((h4 k hku).2 b e.symm).2 hb
      · by_cases hjk : j = k
        · subst hjk
          rw [show (xss.set j ys).getD j [] = ys by simp [List.getD_eq_getElem?_getD, hk]]
          exact ⟨hw, (h4 j hj).2⟩
        · rw [show (xss.set k ys).getD j [] = xss.getD j [] by simp [List.getD_eq_getElem?_getD, Ne.symm hjk]]
          refine ⟨(h4 j hj).1.of_block fun b hb => ?_, (h4 j hj).2⟩
          refine hg.block b ((h4 j hj).1.block_ge hb).2 fun e => ?_
          exact h5 j k b hj hku hjk hb e.symm

/-! ### Lists of lists that are only read; the laws' comparisons and marks -/
def rowA (xss : List (List Int)) (k : Nat) : List Int := xss.getD k []
/-- The slice value v reads as the lists xss. -/
def RdP (w : World) (v : Value) (xss : List (List Int)) : Prop :=
  ∃ A c, v = .slice A xss.length c ∧ xss.length ≤ c ∧ c ≤ maxLen ∧ ∀ k, k < xss.length → ∃ b off u, A = some ⟨b, off, none⟩ ∧ b < w.heap.size ∧ w.cell? ⟨b, off + k, none⟩ = some u ∧ RdI w u (xss.getD k [])
theorem RdP.below {w w' : World} {v : Value} {xss : List (List Int)} (h : RdP w v xss) (hb : Below w.heap.size w w') : RdP w' v xss := by
  obtain ⟨A, c, h1, h2, h3, h4⟩ := h
  refine ⟨A, c, h1, h2, h3, fun k hk => ?_⟩
  obtain ⟨b, off, u, h5, h6, h7, h8⟩ := h4 k hk
  exact ⟨b, off, u, h5, by have := hb.size; omega, (hb.cell (p := ⟨b, off + k, none⟩) h6).trans h7, h8.below hb⟩
theorem RdP.form {w : World} {v : Value} {xss : List (List Int)} (h : RdP w v xss) : ∃ A c, v = .slice A xss.length c := by
  obtain ⟨A, c, h1, _⟩ := h
  exact ⟨A, c, h1⟩
theorem OwnP.rd {w : World} {lo hi : Nat} {v : Value} {xss : List (List Int)} (h : OwnP w lo hi v xss) : RdP w v xss := by
  obtain ⟨A, c, rfl, h1, h2⟩ := h.form
  refine ⟨A, c, rfl, h1, h2, fun k hk => ?_⟩
  obtain ⟨g, c2, A2, c', e, _, _, h5, h6, _, h7, _⟩ := h.row hk
  simp only [Value.slice.injEq] at e
  exact ⟨g, 0, _, e.1, h5, by rw [Nat.zero_add]; exact h6, h7.rd⟩
def cntP : List (List Int) → Nat
  | [] => 0
  | r :: rs => r.length + cntP rs
theorem cntP_append (a b : List (List Int)) : cntP (a ++ b) = cntP a + cntP b := by
  induction a with
  | nil => simp [cntP]
  | cons r rs ih => simp [cntP, ih]; omega
theorem cntP_take_succ (xss : List (List Int)) (k : Nat) (hk : k < xss.length) : cntP (xss.take (k + 1)) = cntP (xss.take k) + (xss.getD k []).length := by
  rw [List.take_succ_eq_append_getElem hk, cntP_append, List.getD_eq_getElem?_getD, List.getElem?_eq_getElem hk]
  simp [cntP]
theorem cntP_take_le (xss : List (List Int)) (k : Nat) : cntP (xss.take k) ≤ cntP xss := by
  have := cntP_append (xss.take k) (xss.drop k)
  rw [List.take_append_drop] at this
  omega
def mkP : Int → List (List Int) → List (List Int)
  | _, [] => []
  | q, r :: rs => marks q r.length :: mkP (q + r.length) rs
theorem length_mkP (q : Int) (xss : List (List Int)) : (mkP q xss).length = xss.length := by
  induction xss generalizing q with
  | nil => rfl
  | cons r rs ih => simp [mkP, ih]
theorem mkP_append (q : Int) (a b : List (List Int)) : mkP q (a ++ b) = mkP q a ++ mkP (q + cntP a) b := by
  induction a generalizing q with
  | nil => simp [mkP, cntP]
  | cons r rs ih =>
    simp only [List.cons_append, mkP, ih, cntP]
    congr 3
    omega
theorem mkP_step (q : Int) (xss : List (List Int)) (k : Nat) (hk : k < xss.length) :
    (mkP q (xss.take k) ++ xss.drop k).set k (marks (q + cntP (xss.take k)) (xss.getD k []).length) = mkP q (xss.take (k + 1)) ++ xss.drop (k + 1) := by
  have h1 : (xss.take k).length = k := by simp; omega
  rw [List.set_append_right _ _ (by rw [length_mkP]; omega), length_mkP, h1, Nat.sub_self, List.drop_eq_getElem_cons hk, List.set_cons_zero, List.take_succ_eq_append_getElem hk, mkP_append, List.append_assoc, List.getD_eq_getElem?_getD, List.getElem?_eq_getElem hk]
  rfl
theorem getD_mkP (q : Int) (xss : List (List Int)) (k : Nat) (hk : k < xss.length) : (mkP q xss).getD k [] = marks (q + cntP (xss.take k)) (xss.getD k []).length := by
  have h := mkP_append q (xss.take k) (xss.drop k)
  rw [List.take_append_drop] at h
  have h1 : (mkP q (xss.take k)).length = k := by rw [length_mkP]; simp; omega
  rw [h, List.getD_eq_getElem?_getD, List.getElem?_append_right (by omega), h1, Nat.sub_self, List.drop_eq_getElem_cons hk, List.getD_eq_getElem?_getD, List.getElem?_eq_getElem hk]
  rfl
theorem getD_mix (q : Int) (xss : List (List Int)) (k : Nat) (hk : k < xss.length) : (mkP q (xss.take k) ++ xss.drop k).getD k [] = xss.getD k [] := by
  have h1 : (mkP q (xss.take k)).length = k := by rw [length_mkP]; simp; omega
  rw [List.getD_eq_getElem?_getD, List.getElem?_append_right (by omega), h1, Nat.sub_self, List.drop_eq_getElem_cons hk, List.getD_eq_getElem?_getD, List.getElem?_eq_getElem hk]
  rfl
theorem length_mix (q : Int) (xss : List (List Int)) (k : Nat) (hk : k ≤ xss.length) : (mkP q (xss.take k) ++ xss.drop k).length = xss.length := by
  rw [List.length_append, length_mkP, List.length_take, List.length_drop]; omega
def MarkedQ (w : World) (lo hi : Nat) (v : Value) (q : Int) (xss : List (List Int)) (e : Ending) (w' : World) : Prop := e = .returned (.int .i64 (q + (cntP xss : Int))) ∧ OwnP w' lo hi v (mkP q xss) ∧ Within lo hi w w'

/-! ### append of a row -/
theorem T.infoRow : (Try.prog.info? 22).map (fun i => (i.zero, i.size, i.bytes)) = some (some (.slice none 0 0), 1, 24) := by kernel_rfl
theorem getD_append_lt {us : List Value} {u : Value} {k : Nat} (h : k < us.length) : (us ++ [u]).getD k (.slice none 0 0) = us.getD k (.slice none 0 0) := by
  rw [List.getD_eq_getElem?_getD, List.getElem?_append_left h, ← List.getD_eq_getElem?_getD]
theorem getD_append_eq {us : List Value} {u : Value} : (us ++ [u]).getD us.length (.slice none 0 0) = u := by
  rw [List.getD_eq_getElem?_getD, List.getElem?_append_right (Nat.le_refl _)]; simp
theorem getDR_append_lt {xss : List (List Int)} {y : List Int} {k : Nat} (h : k < xss.length) : (xss ++ [y]).getD k [] = xss.getD k [] := by
  rw [List.getD_eq_getElem?_getD, List.getElem?_append_left h, ← List.getD_eq_getElem?_getD]
theorem getDR_append_eq {xss : List (List Int)} {y : List Int} {n : Nat} (h : xss.length = n) : (xss ++ [y]).getD n [] = y := by
  rw [List.getD_eq_getElem?_getD, List.getElem?_append_right (by omega), h]; simp
/-- A row more. -/
theorem OwnP.push {W w' : World} {lo hi : Nat} {v v' u : Value} {us : List Value} {xss : List (List Int)} {ys : List Int}
    (hl : us.length = xss.length) (h2 : W.ownsRow lo 22 1 v us.length us) (h3 : ∀ g, v.ownBlock = some g → g < hi)
    (h4 : ∀ k, k < us.length → OwnI W lo (us.getD k (.slice none 0 0)) (xss.getD k []) ∧ ∀ g, (us.getD k (.slice none 0 0)).ownBlock = some g → g < hi ∧ v.ownBlock ≠ some g)
    (h5 : ∀ i j g, i < us.length → j < us.length → i ≠ j → (us.getD i (.slice none 0 0)).ownBlock = some g → (us.getD j (.slice none 0 0)).ownBlock ≠ some g)
    (hhi : hi ≤ W.heap.size) (hu : OwnI W lo u ys) (hu2 : ∀ g, u.ownBlock = some g → hi ≤ g)
    (n2 : w'.ownsRow lo 22 1 v' (us.length + 1) (us ++ [u])) (hg : W.grownBy w' v.ownBlock) (hb : v'.ownBlock = v.ownBlock ∨ v'.ownBlock = some W.heap.size) :
    OwnP w' lo w'.heap.size v' (xss ++ [ys]) := by
  have hz := hg.size
  refine ⟨us ++ [u], by simp [hl], by simpa using n2, fun g hg' => (ownsRow_block_ge n2 hg').2, fun k hk => ?_, fun i j g hi1 hj1 hij hgi => ?_⟩
  · rcases Nat.lt_or_ge k us.length with h | h
    · rw [getD_append_lt h, getDR_append_lt (by omega)]
      refine ⟨(h4 k h).1.of_block fun g hg' => hg.block g ((h4 k h).1.block_ge hg').2 fun e => ((h4 k h).2 g hg').2 e.symm, fun g hg' => ?_⟩
      have q := (h4 k h).2 g hg'
      refine ⟨by omega, fun e => ?_⟩
      rcases hb with hb | hb
      · exact q.2 (hb.symm.trans e)
      · rw [hb] at e
        have : W.heap.size = g := by simpa using e
        omega
    · have hk' : k = us.length := by simp at hk; omega
      subst hk'
      rw [getD_append_eq, getDR_append_eq hl.symm]
      refine ⟨hu.of_block fun g hg' => hg.block g (hu.block_ge hg').2 fun e => ?_, fun g hg' => ?_⟩
      · have := h3 g e.symm
        have := hu2 g hg'
        omega
      · have q := hu.block_ge hg'
        have q2 := hu2 g hg'
        refine ⟨by omega, fun e => ?_⟩
        rcases hb with hb | hb
        · have := h3 g (hb.symm.trans e)
          omega
        · rw [hb] at e
          have : W.heap.size = g := by simpa using e
          omega
  · simp only [List.length_append, List.length_singleton] at hi1 hj1
    rcases Nat.lt_or_ge i us.length with h | h <;> rcases Nat.lt_or_ge j us.length with h' | h'
    · rw [getD_append_lt h] at hgi
      rw [getD_append_lt h']
      exact h5 i j g h h' hij hgi
    · have : j = us.length := by omega
      subst this
      rw [getD_append_lt h] at hgi
      rw [getD_append_eq]
      intro e
      have := ((h4 i h).2 g hgi).1
      have := hu2 g e
      omega
    · have : i = us.length := by omega
      subst this
      rw [getD_append_eq] at hgi
      rw [getD_append_lt h']
      intro e
      have := ((h4 j h').2 g e).1
      have := hu2 g hgi
      omega
    · omega
theorem appendP {W : World} {ops : Array Oper} {rest : List Oper} {o : Oper} {a : Act} {Q : Exit → Act → World → Prop} (s x : Operand) (lo hi : Nat) (v u : Value) (xss : List (List Int)) (ys : List Int) (b : Nat)
    (hgd : o.guard = none) (ho : o.op = .call { callee := .builtin .append, args := #[s, x], argTypes := #[69, 69] })
    (hs : a.eval s = v) (hx : a.eval x = .slice (some ⟨b, 0, none⟩) 1 1) (hv : OwnP W lo hi v xss) (hhi : hi ≤ W.heap.size) (hu : OwnI W lo u ys) (hu2 : ∀ g, u.ownBlock = some g → hi ≤ g)
    (hb : W.heap[b]? = some (.cells #[u] 22 (0, 0))) (hl : xss.length ≤ 1000000000000) (hB : lo ≤ W.heap.size)
    (h : ∀ A c w', OwnP w' lo w'.heap.size (.slice A (xss.length + 1) c) (xss ++ [ys]) → W.grownBy w' v.ownBlock → wpList Try.prog ops Q rest (a.put o.dst (.slice A (xss.length + 1) c)) w') :
    wpList Try.prog ops Q (o :: rest) a W := by
  obtain ⟨i0, hi0, hz0, hz1, hz2⟩ := info_parts T.infoRow
  obtain ⟨us, h1, h2, h3, h4, h5⟩ := hv
  obtain ⟨Au, cu, eu⟩ := hu.form
  refine wpList_append_own_at W hgd s x 69 ho lo 22 i0 (.slice none 0 0) 1 24 Try.underlying69 hi0 hz0 hz1 hz2 rfl (by decide) v us.length us hs h2 ⟨b, 0, none⟩ 1 1 [u] hx rfl (World.news_of_block (cs := #[u]) hb) (fun q hq => by simp at hq; subst hq; subst eu; rfl) (by unfold maxLen; omega) (by omega) hB ?_
  intro v' w' n2 hg _ hbl
  have ho' := OwnP.push h1 h2 h3 h4 h5 hhi hu hu2 n2 hg hbl
  obtain ⟨A, c, e, _⟩ := ho'.form
  rw [show (xss ++ [ys]).length = xss.length + 1 by simp] at e
  subst e
  exact h A c w' ho' hg
def RetQI (w : World) (r : List (List Int) × Int) (e : Ending) (w' : World) : Prop := ∃ A c, e = .returned (.tuple #[.slice A r.1.length c, .int .i64 r.2]) ∧ OwnP w' w.heap.size w'.heap.size (.slice A r.1.length c) r.1 ∧ Below w.heap.size w w'
theorem RetQI.of {w : World} {r r' : List (List Int) × Int} {e : Ending} {w' : World} (h : RetQI w r e w') (he : Hid (r = r')) : RetQI w r' e w' := by rw [← he.out]; exact h
theorem OwnP.nil_ (w : World) (lo hi : Nat) : OwnP w lo hi (.slice none 0 0) [] := ⟨[], rfl, World.ownsRow_nil _ _ _ _, fun g hg => by simp [Value.ownBlock] at hg, fun k hk => by simp at hk, fun i j g hi1 => by simp at hi1⟩
theorem OwnP.lit0 (w : World) {lo : Nat} (h : lo ≤ w.heap.size) : OwnP (w.alloc (.cells #[] 22)) lo (w.heap.size + 1) (.slice (some ⟨w.heap.size, 0, none⟩) 0 0) [] :=
  ⟨[], rfl, World.ownsRow_lit w #[] 0 h (by unfold maxLen; omega) rfl, fun g hg => by simp [Value.ownBlock] at hg; omega, fun k hk => by simp at hk, fun i j g hi1 => by simp at hi1⟩
/-! ### Marks and held marks, blocks in intervals -/
theorem markLB_any (w : World) (lo hi : Nat) (v : Value) (xs : List Int) (q : Int) (hv : OwnB w lo hi v xs) (hl : xs.length ≤ 100000000) (hq : 0 ≤ q) (hq' : q ≤ 500000000) :
    Calls Try.prog 34 #[v, .int .i64 q] w fun e w' => e = .returned (.int .i64 (q + (xs.length : Int))) ∧ OwnB w' lo hi v (marks q xs.length) ∧ Within lo hi w w' :=
  (markInt64S_any w lo v xs xs.length q hv.1 rfl hl hq (by omega)).mono fun _ _ ⟨h1, h2, h3⟩ => ⟨h1, ⟨h2, hv.2⟩, Within.of_grownBy h3 fun g hg => ⟨(hv.1.block_ge hg).1, hv.2 g hg⟩⟩
theorem heldLB_any (w : World) (lo hi : Nat) (v : Value) (xs : List Int) (q : Int) (hv : OwnB w lo hi v (marks q xs.length)) (hl : xs.length ≤ 100000000) (hq : 0 ≤ q) (hq' : q ≤ 500000000) :
    Calls Try.prog 35 #[v, .int .i64 q] w fun e w' => e = .returned (.int .i64 (q + (xs.length : Int))) ∧ Below w.heap.size w w' := heldL_any w lo v xs.length q hv.1 hl hq (by omega)
theorem markSB_any (w : World) (lo hi : Nat) (m : Int) (v : Value) (xs : List Int) (q : Int) (hv : OwnB w lo hi v xs) (hl : xs.length ≤ 100000000) (hq : 0 ≤ q) (hq' : q ≤ 500000000) :
    Calls Try.prog 20 #[.agg #[.int .i64 m, v], .int .i64 q] w fun e w' => e = .returned (.int .i64 (q + (xs.length : Int))) ∧ OwnB w' lo hi v (marks q xs.length) ∧ Within lo hi w w' :=
  (markS_any w lo m v xs xs.length q hv.1 rfl hl hq (by omega)).mono fun _ _ ⟨h1, h2, h3⟩ => ⟨h1, ⟨h2, hv.2⟩, Within.of_grownBy h3 fun g hg => ⟨(hv.1.block_ge hg).1, hv.2 g hg⟩⟩
theorem heldSB_any (w : World) (lo hi : Nat) (m : Int) (v : Value) (xs : List Int) (q : Int) (hv : OwnB w lo hi v (marks q xs.length)) (hl : xs.length ≤ 100000000) (hq : 0 ≤ q) (hq' : q ≤ 500000000) :
    Calls Try.prog 21 #[.agg #[.int .i64 m, v], .int .i64 q] w fun e w' => e = .returned (.int .i64 (q + (xs.length : Int))) ∧ Below w.heap.size w w' := heldS_any w lo m v xs.length q hv.1 hl hq (by omega)
/-- How much a list of lists takes. -/
def szP (xss : List (List Int)) : Nat := xss.length + cntP xss
theorem cntP_le_szP (xss : List (List Int)) : cntP xss ≤ szP xss := by unfold szP; omega
theorem length_le_szP (xss : List (List Int)) : xss.length ≤ szP xss := by unfold szP; omega

/-! ### append of zeros, and of nothing -/
section
variable {P : Program} (w : World)
theorem zeroCells_rep (z : Value) (n : Nat) : Builtin.zeroCells #[z] n = (List.replicate n z).toArray := by
  apply Array.ext'
  simp [Builtin.zeroCells, Nat.mod_one, List.map_const']
theorem run_append_zeros (base : Nat) (t tx ty e : TypeId) (k : IntKind) (i : TypeInfo) (z : Value) (ht : P.underlying t = some (.slice e)) (hx : P.underlying tx = some (.int k)) (hi : P.info? e = some i) (hz : i.zero = some z)
    (hsize : i.size = 1) (hby : i.bytes = 8) (hzc : z.cells = #[z]) (h1z : z.oneCell' = true)
    (v : Value) (n : Nat) (xs : List Value) (hown : w.ownsRow base e 1 v n xs) (m : Nat) (kx : IntKind) (hm : (m : Int) ≤ 1000000) (hn : n ≤ 1000000) (hbase : base ≤ w.heap.size) :
    ∃ v' w', (Builtin.append_ #[t, tx] ty #[v, .int kx (m : Int)]).run P w = .ok v' w' ∧ w'.ownsRow base e 1 v' (n + m) (xs ++ List.replicate m z) ∧ w.grownBy w' v.ownBlock := by
  have hwrap : IntKind.i64.wrap (m : Int) = (m : Int) := IntWalk.i64_in _ (by omega)
  have hneg : ¬ ((m : Int) < 0) := by omega
  have h48 : ¬ ((281474976710656 : Int) < (m : Int) * 8) := by omega
  have hxl := hown.1
  have h63 : ¬ (9223372036854775807 < ((n : Int) + (m : Int))) := by omega
  have grown : ∀ (old : Nat), old < n + m → ∀ (row : Option Nat),
      (w.drew.alloc (.cells (xs.toArray ++ (List.replicate m z).toArray ++ Builtin.zeroCells z.cells (grownCap w (n + m) old e - (n + m))) e)).ownsRow base e 1
        (.slice (some ⟨w.heap.size, 0, none⟩) (n + m) (grownCap w (n + m) old e)) (n + m) (xs ++ List.replicate m z) ∧
      w.grownBy (w.drew.alloc (.cells (xs.toArray ++ (List.replicate m z).toArray ++ Builtin.zeroCells z.cells (grownCap w (n + m) old e - (n + m))) e)) row := by
    intro old ho row
    have hge := grownCap_ge w (n + m) old e
    have hcm : grownCap w (n + m) old e ≤ maxLen := grownCap_le_maxLen w (n + m) old e (by simp only [maxLen]; omega)
    refine ⟨⟨by simp [hxl], .inr ⟨w.heap.size, _, _, rfl, hbase, heap_alloc_new w.drew _, hge, hcm, ?_, ?_⟩⟩, ⟨rfl, rfl, rfl, by simp, fun k hk _ => by first | exact heap_alloc_old w.drew _ hk | exact heap_alloc_old w.drew _ _ hk⟩⟩
    · simp only [Array.size_append, List.size_toArray, size_zeroCells, hzc, hxl, List.length_replicate]
      simp; omega
    · simp only [Array.toList_append, List.append_assoc]
      rw [← List.append_assoc]
      have : (n + m) * 1 = (xs ++ List.replicate m z).length := by simp [hxl]
      rw [this]
      exact List.take_left
  have hA : ∀ w' : World, (asIntOf (.int kx (m : Int))).run P w' = .ok (kx, (m : Int)) w' := fun w' => rfl
  by_cases hm0 : m = 0
  · subst hm0
    refine ⟨v, w, ?_, by simpa using hown, ⟨rfl, rfl, rfl, Nat.le_refl _, fun _ _ _ => rfl⟩⟩
    have hw0 : IntKind.i64.wrap 0 = 0 := by decide
    have hA0 : ∀ w' : World, (asIntOf (.int kx 0)).run P w' = .ok (kx, 0) w' := fun w' => rfl
    rcases hown.2 with ⟨rfl, rfl⟩ | ⟨g, cap, cur, rfl, hbg, hg, hnc, hcm, hcs, htake⟩
    · simp [Builtin.append_, run_underlying ht, run_underlying hx, sizeOf, typeInfo, hi, asInt, hby, hA0, hw0]
    · simp [Builtin.append_, run_underlying ht, run_underlying hx, sizeOf, typeInfo, hi, asInt, hby, hA0, hw0, hnc, storeCells]
  · have hle0 : ¬ ((m : Int) ≤ 0) := by omega
    have hlt0 : ¬ (m ≤ 0) := by omega
    rcases hown.2 with ⟨rfl, rfl⟩ | ⟨g, cap, cur, rfl, hbg, hg, hnc, hcm, hcs, htake⟩
    · have hx0 : xs = [] := List.eq_nil_of_length_eq_zero (by simpa using hxl)
      subst hx0
      have hgr := grown 0 (by omega) (Value.ownBlock (.slice none 0 0))
      simp only [Nat.zero_add] at hgr ⊢
      have hfit : ¬ (281474976710656 < Builtin.nextslicecap m 0 * 8) := by rw [nextslicecap_zero (by omega)]; omega
      refine ⟨_, _, ?_, hgr.1, hgr.2⟩
      have h63' : ¬ (9223372036854775807 < (m : Int)) := by omega
      simp [Builtin.append_, run_underlying ht, run_underlying hx, sizeOf, typeInfo, zeroValue, hi, hz, asInt, hA, hsize, hby, hwrap, hneg, h48, hm0, h63', hfit, Question.forced, run_firstCells_none, newRow, grownCap, hzc, zeroCells_rep]
    · by_cases hroom : n + m ≤ cap
      · have hfit : n * 1 + (List.replicate m z).length ≤ cur.size := by rw [List.length_replicate, hcs]; omega
        have hst := run_storeCells_at P g (n * 1) e (List.replicate m z) 0 cur w hg (by simpa using hfit) (fun u hu => by rw [(List.mem_replicate.1 hu).2]; exact h1z)
        simp only [Nat.add_zero] at hst
        have hr : (Builtin.append_ #[t, tx] ty #[.slice (some ⟨g, 0, none⟩) n cap, .int kx (m : Int)]).run P w = .ok (.slice (some ⟨g, 0, none⟩) (n + m) cap) (w.setRow g (cur.toList.take (n * 1) ++ List.replicate m z ++ cur.toList.drop (n * 1 + (List.replicate m z).length)).toArray) := by
          simp [Builtin.append_, run_underlying ht, run_underlying hx, sizeOf, typeInfo, zeroValue, hi, hz, asInt, hA, hsize, hby, hwrap, hneg, h48, hm0, hroom, hzc, zeroCells_rep, Addr.add_lit] at hst ⊢
          rw [hst]; simp
        refine ⟨_, _, hr, ⟨by simp [hxl], .inr ⟨g, cap, _, rfl, hbg, setRow_heap w g cur _ e _ hg, hroom, hcm, ?_, ?_⟩⟩, ⟨rfl, rfl, rfl, by simp, fun k _ hk => setRow_other w g k _ (fun e => hk (by simp [Value.ownBlock, e]))⟩⟩
        · simp only [List.size_toArray, List.length_append, List.length_take, List.length_drop, Array.length_toList]
          omega
        · rw [htake]
          have : (n + m) * 1 = (xs ++ List.replicate m z).length := by simp [hxl]
          rw [this]
          exact List.take_left
      · have holds : ∀ j u, xs[j]? = some u → w.cell? ((⟨g, 0, none⟩ : Addr).add j) = some u := hown.cells (g := g) rfl
        have hgr := grown cap (by omega) (Value.ownBlock (.slice (some ⟨g, 0, none⟩) n cap))
        refine ⟨_, _, ?_, hgr.1, hgr.2⟩
        have hfo := run_firstCells_some (P := P) w.drew 1 n ⟨g, 0, none⟩ n cap xs hxl (by simpa using holds)
        have h48' : ¬ (281474976710656 < Builtin.nextslicecap (n + m) cap * 8) := by
          have := growslice_fits (need := n + m) (old := cap) (bytes := 8) (by omega) (by omega)
          omega
        simp [Builtin.append_, run_underlying ht, run_underlying hx, sizeOf, typeInfo, zeroValue, hi, hz, asInt, hA, hsize, hby, hwrap, hneg, h48, hm0, hroom, h63, h48', Question.forced, hfo, newRow, grownCap, hzc, zeroCells_rep]
theorem run_append_empty (t ty e : TypeId) (i : TypeInfo) (ht : P.underlying t = some (.slice e)) (hi : P.info? e = some i)
    (A : Option Addr) (n cap : Nat) (B : Option Addr) (c : Nat) (h : n ≤ cap) :
    (Builtin.append_ #[t, t] ty #[.slice A n cap, .slice B 0 c]).run P w = .ok (.slice A n cap) w := by
  cases A <;> cases B <;> simp [Builtin.append_, run_underlying ht, sizeOf, typeInfo, hi, Builtin.lenOf, Builtin.firstCells, loadCells, loadCellsFrom, storeCells, h]
end

/-! ### The typical logarithm: the plain law -/
def pad3 (xs : List Int) : List Int := xs ++ List.replicate (3 - xs.length) 0
theorem length_pad3 {xs : List Int} (h : xs.length ≤ 3) : (pad3 xs).length = 3 := by simp [pad3]; omega
theorem pad3_num {m : Int} {xs : List Int} (hm : 0 < m) (h : NumL m xs) : NumL m (pad3 xs) := by
  intro j
  unfold pad3
  simp only [List.getD_eq_getElem?_getD, List.getElem?_append]
  split
  · have := h j
    rw [List.getD_eq_getElem?_getD] at this
    exact this
  · simp only [List.getElem?_replicate]
    split <;> simp <;> omega
/-- The coefficients of the logarithm as far as the power k of p. -/
def lgS (m : Int) (p : Nat) (u : Int) (nm : List Int) (n : Nat) : Nat → List Int
  | 0 => List.replicate n 0
  | k + 1 => (lgS m p u nm n k).set (p ^ k) (co nm k * powN m u k % m)
theorem length_lgS (m : Int) (p : Nat) (u : Int) (nm : List Int) (n k : Nat) : (lgS m p u nm n k).length = n := by
  induction k with
  | zero => simp [lgS]
  | succ k ih => simp [lgS, ih]
theorem lgS_stop (m : Int) (p : Nat) (hp : 1 ≤ p) (u : Int) (nm : List Int) (n k : Nat) (h : n ≤ p ^ k) : ∀ j, lgS m p u nm n (k + j) = lgS m p u nm n k
  | 0 => rfl
  | j + 1 => by
    rw [show k + (j + 1) = k + j + 1 by omega, lgS, lgS_stop m p hp u nm n k h j]
    apply List.set_eq_of_length_le
    rw [length_lgS]
    exact Nat.le_trans h (Nat.pow_le_pow_right hp (by omega))
def lgL (m : Int) (p : Nat) (u : Int) (nm : List Int) (n : Nat) : List Int := lgS m p u nm n 4
theorem length_lgL (m : Int) (p : Nat) (u : Int) (nm : List Int) (n : Nat) : (lgL m p u nm n).length = n := length_lgS _ _ _ _ _ _
theorem lgL_stop {m : Int} {p : Nat} (hp : 1 ≤ p) {u : Int} {nm : List Int} {n k : Nat} (hk : k ≤ 4) (h : n ≤ p ^ k) : lgS m p u nm n k = lgL m p u nm n := by
  unfold lgL
  rw [show 4 = k + (4 - k) by omega, lgS_stop m p hp u nm n k h]
theorem co_lgS_bd {m : Int} (hm : 0 < m) (p : Nat) (u : Int) (nm : List Int) (n k j : Nat) : 0 ≤ co (lgS m p u nm n k) j ∧ co (lgS m p u nm n k) j < m := by
  induction k with
  | zero => simp only [lgS, co, List.getD_eq_getElem?_getD, List.getElem?_replicate]; split <;> simp <;> omega
  | succ k ih =>
    simp only [lgS, co, List.getD_eq_getElem?_getD, List.getElem?_set] at ih ⊢
    have h1 := Int.emod_nonneg (nm[k]?.getD 0 * powN m u k) (show m ≠ 0 by omega)
    have h2 := Int.emod_lt_of_pos (nm[k]?.getD 0 * powN m u k) hm
    split
    · split
      · simp; omega
      · simp; omega
    · exact ih
theorem pw_next (m u : Int) (k : Nat) : powN m u k * u % m = powN m u (k + 1) := by
  unfold powN
  rw [Int.pow_succ, Int.mul_emod, Int.emod_emod_of_dvd _ (Int.dvd_refl m), ← Int.mul_emod]
/-- One of the four primes is a unit just if it does not divide the modulus. -/
theorem typ_unit {m : Int} {p : Nat} (hm : 2 ≤ m) (hp : p = 2 ∨ p = 3 ∨ p = 5 ∨ p = 7) : unitB m ((p : Int) % m) = !(m % (p : Int) == 0) := by
  have hg : Int.gcd ((p : Int) % m) m = Nat.gcd p m.toNat := by
    obtain ⟨M, rfl⟩ := Int.eq_ofNat_of_zero_le (show 0 ≤ m by omega)
    rw [← Int.natCast_emod, Int.toNat_natCast]
    show Nat.gcd (p % M) M = _
    rw [← Nat.gcd_rec, Nat.gcd_comm]
  have hdvd : Nat.gcd p m.toNat = 1 ↔ ¬ m % (p : Int) = 0 := by
    have h1 : Nat.gcd p m.toNat ∣ p := Nat.gcd_dvd_left ..
    have h2 : Nat.gcd p m.toNat ∣ m.toNat := Nat.gcd_dvd_right ..
    have h3 : m % (p : Int) = 0 ↔ p ∣ m.toNat := by
      rw [show m % (p : Int) = 0 ↔ (p : Int) ∣ m from ⟨Int.dvd_of_emod_eq_zero, Int.emod_eq_zero_of_dvd⟩]
      obtain ⟨M, rfl⟩ := Int.eq_ofNat_of_zero_le (show 0 ≤ m by omega)
      rw [Int.toNat_natCast]; exact Int.natCast_dvd_natCast
    rw [h3]
    constructor
    · intro h h4
      have : p ∣ Nat.gcd p m.toNat := Nat.dvd_gcd (Nat.dvd_refl p) h4
      rw [h] at this
      have := Nat.le_of_dvd (by omega) this
      omega
    · intro h
      have hle := Nat.le_of_dvd (by omega) h1
      generalize hgg : Nat.gcd p m.toNat = g at *
      have hne : g ≠ p := fun e => h (by rw [← e]; exact h2)
      rcases hp with rfl | rfl | rfl | rfl
      all_goals
        obtain ⟨c, hc⟩ := h1
        have hgle : g ≤ 7 := by omega
        rcases (show g = 0 ∨ g = 1 ∨ g = 2 ∨ g = 3 ∨ g = 4 ∨ g = 5 ∨ g = 6 ∨ g = 7 by omega) with e | e | e | e | e | e | e | e <;> subst e <;> omega
  unfold unitB
  rw [hg]
  by_cases c : m % (p : Int) = 0
  · have : ¬ Nat.gcd p m.toNat = 1 := fun h => (hdvd.1 h) c
    simp [c]; omega
  · have : Nat.gcd p m.toNat = 1 := hdvd.2 c
    simp [c, this]
def TypicalLogarithmR (p m d : Int) (xs : List Int) : (Int × List Int) × Int :=
  if typC p m xs 0 = 0 then (if inB d 1 10 = false then ((0, []), 2) else if m % p = 0 then ((0, []), 5) else ((m, lgL m p.toNat (invN m p) (nmL m p.toNat (pad3 xs)) (d.toNat + 1)), 0)) else ((0, []), typC p m xs 0)
theorem TypicalLogarithmR_len (p m d : Int) (xs : List Int) : (TypicalLogarithmR p m d xs).1.2.length ≤ 100 := by
  unfold TypicalLogarithmR
  split
  · cases hd : inB d 1 10
    · simp
    · have := inB_true.1 hd
      simp only [if_neg (show ¬ (true = false) by simp)]
      split
      · simp
      · simp only [length_lgL]; omega
  · simp

/-! ### Parameters with those that are missing: the walks -/
theorem appendZeros {w : World} {ops : Array Oper} {rest : List Oper} {o : Oper} {a : Act} {Q : Exit → Act → World → Prop} (s x : Operand) (B : Nat) (v : Value) (xs : List Int) (m : Nat)
    (hgd : o.guard = none) (ho : o.op = .call { callee := .builtin .append, args := #[s, x], argTypes := #[22, 3] })
    (hs : a.eval s = v) (hx : a.eval x = .int .i64 (m : Int)) (hv : OwnI w B v xs) (hm : m ≤ 1000000) (hl : xs.length ≤ 1000000) (hB : B ≤ w.heap.size)
    (h : ∀ v' w', OwnI w' B v' (xs ++ List.replicate m 0) → w.grownBy w' v.ownBlock → wpList Try.prog ops Q rest (a.put o.dst v') w') :
    wpList Try.prog ops Q (o :: rest) a w := by
  obtain ⟨i0, hi, hz0, hz1, hz2⟩ := info_parts T.info64
  refine wpList_plain hgd fun K hK => ?_
  obtain ⟨v', w', hr, h2, h3⟩ := run_append_zeros (P := Try.prog) w B 22 3 o.type 2 .i64 i0 (.int .i64 0) Try.underlying22 Try.underlying3 hi hz0 hz1 hz2 rfl rfl v xs.length (xs.map (Value.int .i64)) hv m .i64 (by omega) (by omega) hB
  unfold Oper.wp execOp
  simp only [ho, resolve, invoke, builtin, Sem.run_bind, Sem.run_pure, Result.andThen_ok, List.map_toArray, List.map_cons, List.map_nil, hs, hx, hr]
  refine hK _ _ (h v' w' ?_ h3)
  unfold OwnI
  simpa using h2
theorem appendEmpty {w : World} {ops : Array Oper} {rest : List Oper} {o : Oper} {a : Act} {Q : Exit → Act → World → Prop} (s x : Operand) (A : Option Addr) (n cap : Nat) (B : Option Addr) (c : Nat)
    (hgd : o.guard = none) (ho : o.op = .call { callee := .builtin .append, args := #[s, x], argTypes := #[22, 22] })
    (hs : a.eval s = .slice A n cap) (hx : a.eval x = .slice B 0 c) (hn : n ≤ cap)
    (h : wpList Try.prog ops Q rest (a.put o.dst (.slice A n cap)) w) :
    wpList Try.prog ops Q (o :: rest) a w := by
  obtain ⟨i0, hi, hz0, hz1, hz2⟩ := info_parts T.info64
  refine wpList_plain hgd fun K hK => ?_
  have hr := run_append_empty (P := Try.prog) w 22 o.type 2 i0 Try.underlying22 hi A n cap B c hn
  unfold Oper.wp execOp
  simp only [ho, resolve, invoke, builtin, Sem.run_bind, Sem.run_pure, Result.andThen_ok, List.map_toArray, List.map_cons, List.map_nil, hs, hx, hr]
  exact hK _ _ h
theorem copyOf_all (w : World) (v : Value) (xs : List Int) (hv : RdI w v xs) (hl : xs.length ≤ 1000000000) : Calls Try.prog 128 #[v] w (NewI w xs) := by
  rcases Nat.eq_zero_or_pos xs.length with h0 | h0
  · obtain ⟨A, c, e0, _⟩ := id hv
    have hx : xs = [] := List.eq_nil_of_length_eq_zero h0
    subst hx
    subst e0
    clear hv
    go_enter Try.func128, Try.ntmps128
    go_wp2_with (at_builtin; refine appendEmpty _ _ (some ⟨w.heap.size, 0, none⟩) 0 0 A c (by rfl) (by rfl) (by rfl) (by rfl) (Nat.le_refl _) ?_)
    go_ret
    exact ⟨some ⟨w.heap.size, 0, none⟩, 0, rfl, (RowI.lit w [] #[] rfl (by simp)).own (Nat.le_refl _), by (repeat (first | assumption | exact Below.refl _ _ | refine Below.alloc ?_ (by first | omega | (simp; done) | (simp; omega)) _ | refine Below.setCell ?_ (by first | omega | (simp; done) | (simp; omega)) _ | refine below_drewN ?_ _))⟩
  · exact copyOf_any w v xs xs hv rfl h0 hl
theorem l01Own_all (w : World) (v : Value) (xs : List Int) (hv : RdI w v xs) (hl : xs.length ≤ 1000000000) : Calls Try.prog 85 #[v] w (NewI w xs) := by
  rcases Nat.eq_zero_or_pos xs.length with h0 | h0
  · obtain ⟨A, c, e0, _⟩ := id hv
    have hx : xs = [] := List.eq_nil_of_length_eq_zero h0
    subst hx
    subst e0
    clear hv
    go_enter Try.func85, Try.ntmps85
    go_wp2_with (at_builtin; refine appendEmpty _ _ (some ⟨w.heap.size, 0, none⟩) 0 0 A c (by rfl) (by rfl) (by rfl) (by rfl) (Nat.le_refl _) ?_)
    go_ret
    exact ⟨some ⟨w.heap.size, 0, none⟩, 0, rfl, (RowI.lit w [] #[] rfl (by simp)).own (Nat.le_refl _), by (repeat (first | assumption | exact Below.refl _ _ | refine Below.alloc ?_ (by first | omega | (simp; done) | (simp; omega)) _ | refine Below.setCell ?_ (by first | omega | (simp; done) | (simp; omega)) _ | refine below_drewN ?_ _))⟩
  · exact l01Own_any w v xs xs hv rfl h0 hl
theorem padded_any (w : World) (v : Value) (xs zs : List Int) (hv : RdI w v xs) (hl : xs.length ≤ 3) (hz : pad3 xs = zs) : Calls Try.prog 98 #[v] w (NewI w zs) := by
  obtain ⟨A, c, e0, _⟩ := id hv
  subst e0
  have HZ := Lib.hid hz
  clear hz
  go_enter Try.func98, Try.ntmps98
  go_wp2_with (first | (go_at_call 128; refine (copyOf_all _ _ xs (hv.below (by (repeat (first | assumption | exact Below.refl _ _ | refine Below.alloc ?_ (by first | omega | (simp; done) | (simp; omega)) _ | refine Below.setCell ?_ (by first | omega | (simp; done) | (simp; omega)) _ | refine below_drewN ?_ _)))) (by omega)).mono ?_; rintro e w1 ⟨A1, c1, rfl, o1, hb1⟩) | (at_builtin; refine appendZeros _ _ w.heap.size _ xs (3 - xs.length) (by rfl) (by rfl) (by rfl) ?_ o1 (by omega) (by omega) hb1.size ?_; (focus (show Value.int IntKind.i64 (if (xs.length : Int) < 3 then 3 - (xs.length : Int) else 0) = Value.int IntKind.i64 ((3 - xs.length : Nat) : Int); congr 1; split <;> omega)); intro v' w2 ho hg; obtain ⟨A', c', e1⟩ := ho.form; subst e1))
  all_goals
    go_ret
    have hl3 : (xs ++ List.replicate (3 - xs.length) (0 : Int)).length = 3 := by simp; omega
    refine NewI.of (xs := xs ++ List.replicate (3 - xs.length) 0) ⟨A', c', by rw [hl3]; rfl, (by first | exact ho | (rw [hl3]; exact ho) | (rw [hl3] at ho ⊢; exact ho)), ?_⟩ HZ
    refine Below.grown hb1 hg hb1.size fun b hb => ?_
    exact (o1.block_ge hb).1
def lenS : Value → Nat
  | .slice _ n _ => n
  | _ => 0
theorem l09Three_any (w : World) (v : Value) (xs zs : List Int) (hv : RdI w v xs) (hl : xs.length ≤ 3) (hz : pad3 xs = zs) : Calls Try.prog 94 #[v] w (NewI w zs) := by
  obtain ⟨A, c, e0, _⟩ := id hv
  subst e0
  have HZ := Lib.hid hz
  clear hz
  go_enter Try.func94, Try.ntmps94
  go_wp2_with (go_at_call 85; refine (l01Own_all _ _ xs (hv.below (by (repeat (first | assumption | exact Below.refl _ _ | refine Below.alloc ?_ (by first | omega | (simp; done) | (simp; omega)) _ | refine Below.setCell ?_ (by first | omega | (simp; done) | (simp; omega)) _ | refine below_drewN ?_ _)))) (by omega)).mono ?_; rintro e w1 ⟨A1, c1, rfl, o1, hb1⟩)
  go_loopw [3] (fun s wr => ∃ (k : Nat) (A' : Option Addr) (c' : Nat), xs.length + k ≤ 3 ∧ s = .slice A' (xs.length + k : Nat) c' ∧ OwnI wr w.heap.size (.slice A' (xs.length + k : Nat) c') (xs ++ List.replicate k 0) ∧ Below w.heap.size w wr) (fun s _ => 3 - lenS s)
  case atStart => exact ⟨0, A1, c1, by omega, rfl, by simpa using o1, hb1⟩
  case round =>
    obtain ⟨k, A', c', hk, rfl, ho, hb⟩ := hrel
    have hz := hb.size
    have HL : Hid ((xs ++ List.replicate k (0 : Int)).length = xs.length + k) := by simp [Hid]
    by_cases hlt : xs.length + k < 3
    · have hlt1 : ((xs.length + k : Nat) : Int) < 3 := by omega
      go_wp2_with (at_builtin; refine wpAppend1 _ _ w.heap.size (.slice A' (xs.length + k : Nat) c') (xs ++ List.replicate k 0) (xs.length + k) 0 wr.heap.size (wr.heap.size + 1) (by rfl) (by rfl) (by rfl) (by rfl) (ho.alloc _) HL.out (RowI.block1 _) (by omega) (by simp; omega) (by simp) ?_; intro gg cap w2 hown1 hge hgrow hat)
      go_roundw
      case rel =>
        refine ⟨k + 1, _, cap, by omega, rfl, ?_, ?_⟩
        · rw [List.replicate_succ', ← List.append_assoc]
          exact hown1.own' hge (by simp)
        · refine Below.grown (hb.alloc hz _) hgrow (by simp; omega) fun b hb2 => ?_
          exact (ho.block_ge hb2).1
      case measure => simp [lenS]; omega
    · have hd : decide (((xs.length + k : Nat) : Int) < 3) = false := by simp; omega
      have hkr : k = 3 - xs.length := by omega
      subst hkr
      go_wp2
      go_ret
      refine NewI.of (xs := xs ++ List.replicate (3 - xs.length) 0) ⟨A', c', by rw [HL.out]; rfl, by rw [HL.out]; exact ho, hb⟩ HZ

theorem powN_bd' {m a : Int} {k : Nat} (hm : 0 < m) : 0 ≤ powN m a k ∧ powN m a k < m := ⟨Int.emod_nonneg _ (by omega), Int.emod_lt_of_pos _ hm⟩
set_option maxRecDepth 8000 in
set_option maxHeartbeats 4000000 in
theorem iTypicalLogarithmR_any (w : World) (p m d : Int) (v : Value) (xs : List Int) (B : Nat) (hv : OwnI w B v xs) (hl : xs.length ≤ 2000000) : Calls Try.prog 47 #[.int .i64 p, .int .i64 m, .int .i64 d, v] w (RetSI w (TypicalLogarithmR p m d xs)) := by
  obtain ⟨A, c, e0⟩ := hv.form
  subst e0
  by_cases hc : typC p m xs 0 = 0
  · obtain ⟨hm, hp, h1, h3, hn⟩ := typC_zero hc
    have HC := Lib.hid hc
    cases hd : inB d 1 10
    · have HF : TypicalLogarithmR p m d xs = ((0, []), 2) := by simp [TypicalLogarithmR, hc, hd]
      rw [HF]
      have HD := Lib.hid hd
      clear HF hc hd hp hn
      go_enter Try.func47, Try.ntmps47
      go_wp2_with (first | (go_at_call 72; refine (typed_any _ m 0 _ _ xs B (hv.alloc _) hl ⟨by omega, by omega⟩).mono ?_; rintro e w1 ⟨rfl, hb1⟩; rw [HC.out]; have ⟨P1, K1⟩ := Bf.first1 hb1; have p1a := P1.1.2.1; have p1b := P1.1.2.2; have z1 := P1.1.1; have p1c := P1.2.1; have p1d := P1.2.2) | (go_at_call 62; refine (in_any _ _ _ _).mono ?_; rintro e w2 ⟨rfl, k2, rfl⟩; rw [HD.out]))
      exact bodyPost_ret (v := .tuple #[.agg #[.int .i64 0, .slice none 0 0], .int .i64 2]) (by simp [results, Try.results47, go_sem, p1a, p1b]) rfl ⟨none, 0, rfl, OwnI.nil_ _ _, by (repeat (first | assumption | exact Below.refl _ _ | refine Below.alloc ?_ (by first | omega | (simp; done) | (simp; omega)) _ | refine Below.setCell ?_ (by first | omega | (simp; done) | (simp; omega)) _ | refine below_drewN ?_ _))⟩
    · have hdb := inB_true.1 hd
      have HD := Lib.hid hd
      obtain ⟨q, rfl⟩ : ∃ q : Nat, p = (q : Int) := ⟨p.toNat, by omega⟩
      have hq : 2 ≤ q ∧ q ≤ 7 := by omega
      have hq0 : ¬ (q : Int) = 0 := by omega
      by_cases hu : m % (q : Int) = 0
      · have HF : TypicalLogarithmR (q : Int) m d xs = ((0, []), 5) := by simp [TypicalLogarithmR, hc, hd, hu]
        rw [HF]
        have hu' : (m % (q : Int) == 0) = true := by simpa using hu
        clear HF hc hd hp hn
        go_enter Try.func47, Try.ntmps47
        go_wp2_with (first | (go_at_call 72; refine (typed_any _ m 0 _ _ xs B (hv.alloc _) hl ⟨by omega, by omega⟩).mono ?_; rintro e w1 ⟨rfl, hb1⟩; rw [HC.out]; have ⟨P1, K1⟩ := Bf.first1 hb1; have p1a := P1.1.2.1; have p1b := P1.1.2.2; have z1 := P1.1.1; have p1c := P1.2.1; have p1d := P1.2.2) | (go_at_call 62; refine (in_any _ _ _ _).mono ?_; rintro e w2 ⟨rfl, k2, rfl⟩; rw [HD.out]))
        exact bodyPost_ret (v := .tuple #[.agg #[.int .i64 0, .slice none 0 0], .int .i64 5]) (by simp [results, Try.results47, go_sem, p1a, p1b]) rfl ⟨none, 0, rfl, OwnI.nil_ _ _, by (repeat (first | assumption | exact Below.refl _ _ | refine Below.alloc ?_ (by first | omega | (simp; done) | (simp; omega)) _ | refine Below.setCell ?_ (by first | omega | (simp; done) | (simp; omega)) _ | refine below_drewN ?_ _))⟩
      · obtain ⟨dn, rfl⟩ : ∃ dn : Nat, d = (dn : Int) := ⟨d.toNat, by omega⟩
        obtain ⟨u, hu0⟩ : ∃ u, invN m (q : Int) = u := ⟨_, rfl⟩
        have hub := invN_bd (show 0 < m by omega) (q : Int)
        obtain ⟨zs, hz⟩ : ∃ zs, pad3 xs = zs := ⟨_, rfl⟩
        have hz3 : zs.length = 3 := by rw [← hz]; exact length_pad3 h3
        have hzn : NumL m zs := by rw [← hz]; exact pad3_num (by omega) hn
        obtain ⟨L, hL⟩ : ∃ L, nmL m q zs = L := ⟨_, rfl⟩
        have hLl : L.length = 4 := by rw [← hL, length_nmL, hz3]
        have hLn : NumL m L := by rw [← hL]; exact nmTo_num (by omega) q zs _
        obtain ⟨ys, hy⟩ : ∃ ys, lgL m q u L (dn + 1) = ys := ⟨_, rfl⟩
        have HF : TypicalLogarithmR (q : Int) m (dn : Int) xs = ((m, ys), 0) := by
          simp only [TypicalLogarithmR, hc, hd, Int.toNat_natCast, hu0, hz, hL, hy]
          simp [hu]
        rw [HF]
        rw [hu0] at hub
        have hu' : (m % (q : Int) == 0) = false := by simpa using hu
        have HU := Lib.hid hu0
        have HZ := Lib.hid hz
        have HL := Lib.hid hL
        have HLL := Lib.hid hLl
        have HLN := Lib.hid hLn
        have HZN := Lib.hid hzn
        have HZ3 := Lib.hid hz3
        have HY := Lib.hid hy
        have HYL : Hid (ys.length = dn + 1) := by unfold Hid; rw [← hy]; exact length_lgL _ _ _ _ _
        clear HF hc hd hp hn hu0 hz hL hLl hLn hzn hy hu hz3
        go_enter Try.func47, Try.ntmps47
        go_wp2_with (first | (go_at_call 72; refine (typed_any _ m 0 _ _ xs B (hv.alloc _) hl ⟨by omega, by omega⟩).mono ?_; rintro e w1 ⟨rfl, hb1⟩; rw [HC.out]; have ⟨P1, K1⟩ := Bf.first1 hb1; have p1a := P1.1.2.1; have p1b := P1.1.2.2; have z1 := P1.1.1; have p1c := P1.2.1; have p1d := P1.2.2) | (go_at_call 62; refine (in_any _ _ _ _).mono ?_; rintro e w2 ⟨rfl, k2, rfl⟩; rw [HD.out]) | (go_at_call 60; refine (zero_any _ m _ (dn + 1) (by omega) (by omega)).mono ?_; rintro e w3 ⟨g, rfl, hg, hr3, hb3⟩) | (go_at_call 97; refine (inverse_b m (q : Int) _ (by omega) (by omega)).mono ?_; rintro e w4 ⟨rfl, hb4⟩; rw [HU.out]) | (go_at_call 98; refine (padded_any _ _ xs zs ((((((hv.alloc _).keep hb1 (Nat.le_refl _)).drewN _).keep hb3 (Nat.le_refl _)).keep hb4 (Nat.le_refl _)).alloc _).rd h3 HZ.out).mono ?_; rintro e w5 ⟨A5, c5, rfl, o5, hb5⟩) | (go_at_call 73; refine (numerators_any q m _ _ zs L _ o5 hm.1 hm.2 hq.1 hq.2 HZN.out (by rw [HZ3.out]; decide) (by rw [HZ3.out]; decide) HL.out).mono ?_; rintro e w6 ⟨A6, c6, rfl, o6, hb6⟩))
        obtain ⟨bo, hbo⟩ : ∃ bo, bo = w4.heap.size := ⟨_, rfl⟩
        obtain ⟨V, hV⟩ : ∃ V, V = w4.alloc (.cells #[.int .i64 m, .slice (some ⟨g, 0, none⟩) (dn + 1 : Nat) (dn + 1 : Nat)] 26) := ⟨_, rfl⟩
        rw [← hV] at hb5
        have s1 := hb1.size
        have s3 := hb3.size
        have s4 := hb4.size
        simp at s1 s3 hg
        have zg := hr3.lt
        have SP : Bf V w.heap.size (.int .i64 0) (.slice none 0 0) := by rw [hV]; exact (((P1.drewN k2).keep hb3).keep hb4).alloc _
        have SO : Bf V bo (.int .i64 m) (.slice (some ⟨g, 0, none⟩) (dn + 1 : Nat) (dn + 1 : Nat)) := by rw [hV, hbo]; exact Bf.alloc1 _ _ _ _
        have SR : RowI V g (dn + 1) (List.replicate (dn + 1) 0) := by rw [hV]; exact (hr3.below hb4 hr3.lt).alloc _
        have KV : Below w.heap.size w V := by rw [hV]; exact (((below_drewN K1 k2).trans (hb3.mono (by simp; omega))).trans (hb4.mono (by omega))).alloc (by omega) _
        have zV : V.heap.size = w4.heap.size + 1 := by rw [hV]; simp
        rw [← hbo]
        have K65 : Below V.heap.size V w6 := hb5.trans (hb6.mono hb5.size)
        have SP6 := Lib.hid (SP.keep K65)
        have SO6 := Lib.hid (SO.keep K65)
        have SR6 := Lib.hid (SR.below K65 SR.lt)
        have KV6 := Lib.hid (KV.trans (K65.mono KV.size))
        have OL := Lib.hid o6
        have zV6 := K65.size
        have s5 := hb5.size
        have hne : bo ≠ g := by omega
        have hbo2 : w.heap.size < bo := by omega
        have hg2 : w.heap.size < g := by omega
        have hOL : ∀ g', (Value.slice A6 L.length c6).ownBlock = some g' → w5.heap.size ≤ g' := fun g' h => (o6.block_ge h).1
        clear SP SO SR KV K65 o6 o5 hb6 hb5 hV hb4 hr3 hb3 P1 K1 p1a p1b p1c p1d hb1
        rw [HLL.out] at OL hOL ⊢
        rw [show ((4 : Nat) : Int) = (4 : Int) from rfl]
        have hrowL : ∃ gL cL, Value.slice A6 4 c6 = .slice (some ⟨gL, 0, none⟩) 4 cL ∧ w5.heap.size ≤ gL ∧ RowI w6 gL cL L := by
          rcases OL.out.row with ⟨e, _⟩ | ⟨gL, cL, e, hB, hr⟩
          · simp at e
          · rw [HLL.out] at e
            exact ⟨gL, cL, e, hB, hr⟩
        obtain ⟨gL, cL, eL, hgL, hrL⟩ := hrowL
        simp only [Value.slice.injEq] at eL
        obtain ⟨rfl, -, rfl⟩ := eL
        have RL6 := Lib.hid hrL
        have n1 : gL ≠ g := by omega
        have n2 : gL ≠ bo := by omega
        have n3 : g ≠ w.heap.size := by omega
        have n4 : g ≠ bo := by omega
        clear hrL OL hOL hbo zV
        have h1m : powN m u 0 = 1 := by unfold powN; rw [Int.pow_zero]; exact Int.emod_eq_of_lt (by omega) (by omega)
        have H1 := Lib.hid h1m
        clear h1m
        go_loopw [13, 14, 49] (fun s1 s2 s3 wr => ∃ k : Nat, k ≤ 4 ∧ s1 = .int .i64 (powN m u k) ∧ s2 = .int .i64 ((q ^ k : Nat) : Int) ∧ s3 = .int .i64 (k : Int) ∧ Hid (Bf wr w.heap.size (.int .i64 0) (.slice none 0 0)) ∧ Hid (Bf wr bo (.int .i64 m) (.slice (some ⟨g, 0, none⟩) (dn + 1 : Nat) (dn + 1 : Nat))) ∧ Hid (RowI wr g (dn + 1) (lgS m q u L (dn + 1) k)) ∧ Hid (RowI wr gL c6 L) ∧ Hid (Below w.heap.size w wr)) (fun _ _ s3 _ => 5 - (intOf s3).toNat)
        case atStart => exact ⟨0, by omega, by rw [H1.out], by simp, rfl, SP6, SO6, SR6, RL6, KV6⟩
        case round =>
          clear SP6 SO6 SR6 RL6 KV6
          obtain ⟨k, hk, rfl, rfl, rfl, HP, HO, HR, HRL, HB⟩ := hrel
          have p1 := HP.out.1.2.1
          have p2 := HP.out.1.2.2
          have p3 := HP.out.2.1
          have p4 := HP.out.2.2
          have o1 := HO.out.1.2.1
          have o2 := HO.out.1.2.2
          have zO := HO.out.1.1
          have zP := HP.out.1.1
          have hsb := powN_bd' (m := m) (a := u) (k := k) (by omega)
          obtain ⟨s, hs⟩ : ∃ s, s = powN m u k := ⟨_, rfl⟩
          rw [← hs] at hsb ⊢
          have HS := Lib.hid hs
          obtain ⟨P, hP⟩ : ∃ P : Nat, P = q ^ k := ⟨_, rfl⟩
          rw [← hP]
          have HPP := Lib.hid hP
          clear hs hP
          have FIN : k = 4 ∨ dn + 1 ≤ P → RowI wr g (dn + 1) ys := by
            intro h
            have := HR.out
            rcases h with h | h
            · rw [h] at this
              rw [← HY.out]; exact this
            · rw [HPP.out] at h
              rw [lgL_stop (show 1 ≤ q by omega) hk h, HY.out] at this
              exact this
          by_cases hlt : k < 4
          · have hlt1 : (k : Int) < 4 := by omega
            have hc0 := HRL.out.cell (k := k) (by rw [HLL.out]; exact hlt)
            have hxb : 0 ≤ co L k ∧ co L k < m := HLN.out k
            obtain ⟨x, hx⟩ : ∃ x, x = L.getD k 0 := ⟨_, rfl⟩
            rw [← hx] at hc0
            have hxb2 : 0 ≤ x ∧ x < m := by rw [hx]; exact hxb
            have HX := Lib.hid hx
            clear hx hxb
            by_cases hpl : dn < P
            · have hpl1 : (dn : Int) < (P : Int) := by omega
              have hR := FIN (.inr (by omega))
              clear FIN
              go_wp2
              refine bodyPost_ret (v := .tuple #[.agg #[.int .i64 m, .slice (some ⟨g, 0, none⟩) (dn + 1 : Nat) (dn + 1 : Nat)], .int .i64 0]) (by simp [results, Try.results47, go_sem, p1, p2]) rfl ⟨some ⟨g, 0, none⟩, dn + 1, by rw [HYL.out], ?_, ?_⟩
              · rw [HYL.out]
                exact ((hR.far (p := ⟨w.heap.size, 0, none⟩) (by simp; omega) _).far (p := ⟨w.heap.size, 1, none⟩) (by simp; omega) _).own' (by omega) HYL.out
              · exact (HB.out.setCell (by simp) _).setCell (by simp) _
            · have hpl1 : decide ((dn : Int) < (P : Int)) = false := by simp; omega
              clear FIN
              have hp0 : (0 : Int) ≤ (P : Int) := by omega
              have hp1 : (P : Int) < (dn : Int) + 1 := by omega
              have hp2 : (P : Int) ≤ (dn : Int) := by omega
              have hb1' := prod_bd hxb2.1 hxb2.2 hsb.1 hsb.2 (by omega)
              have hb2' := prod_bd hsb.1 hsb.2 hub.1 hub.2 (by omega)
              have hb3' := mul_bd' (show (0 : Int) ≤ (P : Int) by omega) (show (P : Int) ≤ 10 by omega) (show (0 : Int) ≤ (q : Int) by omega) (show (q : Int) ≤ 7 by omega)
              have v1 : IntKind.i64.wrap (x * s) = x * s := IntWalk.i64_in _ (by omega)
              have v2 : (x * s).tmod m = x * s % m := Int.tmod_eq_emod_of_nonneg (by omega)
              have v3 : IntKind.i64.wrap (s * u) = s * u := IntWalk.i64_in _ (by omega)
              have v4 : (s * u).tmod m = s * u % m := Int.tmod_eq_emod_of_nonneg (by omega)
              have v5 : IntKind.i64.wrap ((P : Int) * (q : Int)) = (P : Int) * (q : Int) := IntWalk.i64_in _ (by omega)
              have v8 : ¬ m = 0 := by omega
              have ne2 : (⟨g, P, none⟩ : Addr) ≠ ⟨bo, 1, none⟩ := by first | (simp; done) | (simp; omega)
              have hd0 := HR.out.cell (k := P) (by rw [length_lgS]; omega)
              have hf0 := HR.out.free P
              generalize (lgS m q u L (dn + 1) k).getD P 0 = y0 at hd0
              go_wp2
              go_region_held3 (fun w' => w'.cell? ⟨bo, 1, none⟩ = some (.slice (some ⟨g, 0, none⟩) (dn + 1 : Nat) (dn + 1 : Nat))) ((first | exact ⟨o2⟩ | exact ⟨(World.cell?_setCell_other _ _ _ _ ne2).trans o2⟩ | go_keep)) (fail)
              go_wp2
              go_roundw
              case rel =>
                refine ⟨k + 1, by omega, ?_, ?_, by go_num, HP.out.setCell (by simp; omega) _, HO.out.setCell (by simp; omega) _, ?_, HRL.out.far (by simp; omega) _, (by unfold Hid; exact (HB.out.setCell (p := ⟨g, P, none⟩) (Nat.le_of_lt hg2) _).drew)⟩
                · rw [HS.out, pw_next]
                · rw [HPP.out, Nat.pow_succ, Int.natCast_mul]
                · unfold Hid
                  show RowI _ g (dn + 1) ((lgS m q u L (dn + 1) k).set (q ^ k) (co L k * powN m u k % m))
                  rw [← HPP.out, ← HS.out, show co L k = x from HX.out.symm]
                  exact HR.out.set_ P _
              case measure => simp [intOf]; omega
          · have hlt1 : decide ((k : Int) < 4) = false := by simp; omega
            have hR := FIN (.inl (by omega))
            clear FIN
            go_wp2
            refine bodyPost_ret (v := .tuple #[.agg #[.int .i64 m, .slice (some ⟨g, 0, none⟩) (dn + 1 : Nat) (dn + 1 : Nat)], .int .i64 0]) (by simp [results, Try.results47, go_sem, p1, p2]) rfl ⟨some ⟨g, 0, none⟩, dn + 1, by rw [HYL.out], ?_, ?_⟩
            · rw [HYL.out]
              exact ((hR.far (p := ⟨w.heap.size, 0, none⟩) (by simp; omega) _).far (p := ⟨w.heap.size, 1, none⟩) (by simp; omega) _).own' (by omega) HYL.out
            · exact (HB.out.setCell (by simp) _).setCell (by simp) _
  · have HF : TypicalLogarithmR p m d xs = ((0, []), typC p m xs 0) := by simp [TypicalLogarithmR, hc]
    rw [HF]
    clear HF
    have h1 : (typC p m xs 0 != 0) = true := by simpa using hc
    clear hc
    go_enter Try.func47, Try.ntmps47
    go_wp2_with (go_at_call 72; refine (typed_any p m 0 _ _ xs B (hv.alloc _) hl ⟨by omega, by omega⟩).mono ?_; rintro e w1 ⟨rfl, hb1⟩; have ⟨P1, K1⟩ := Bf.first1 hb1; have p1a := P1.1.2.1; have p1b := P1.1.2.2; have z1 := P1.1.1; have p1c := P1.2.1; have p1d := P1.2.2)
    exact bodyPost_ret (v := .tuple #[.agg #[.int .i64 0, .slice none 0 0], .int .i64 (typC p m xs 0)]) (by simp [results, Try.results47, go_sem, p1a, p1b]) rfl ⟨none, 0, rfl, OwnI.nil_ _ _, by (repeat (first | assumption | exact Below.refl _ _ | refine Below.alloc ?_ (by first | omega | (simp; done) | (simp; omega)) _ | refine Below.setCell ?_ (by first | omega | (simp; done) | (simp; omega)) _ | refine below_drewN ?_ _))⟩

theorem powN_bd2 {m a : Int} {k : Nat} (hm : 0 < m) : 0 ≤ powN m a k ∧ powN m a k < m := ⟨Int.emod_nonneg _ (by omega), Int.emod_lt_of_pos _ hm⟩
theorem RowI.made (W : World) (n : Nat) (hn : n ≤ 1000000000000) : RowI (W.alloc (.cells (madeCells #[.int .i64 0] n) 2)) W.heap.size n (List.replicate n 0) := by
  refine ⟨by simp, by unfold maxLen; omega, _, heap_alloc_new W _, size_madeCells _ _, ?_⟩
  rw [madeCells_zero, List.take_of_length_le (by simp)]
theorem run_makeI (n : Nat) (hn : n ≤ 1000000000000) (W : World) : (Instr.makeSlice 22 (.int .i64 (n : Int)) (.int .i64 (n : Int))).run Try.prog W = .ok (.slice (some ⟨W.heap.size, 0, none⟩) n n) (W.alloc (.cells (madeCells #[.int .i64 0] n) 2)) := by
  obtain ⟨i0, hi, hz0, hz1, hz2⟩ := info_parts T.info64
  exact run_make_row (P := Try.prog) 22 2 i0 (.int .i64 0) Try.underlying22 hi hz0 hz1 rfl .i64 .i64 n (by rw [hz2]; omega) (by omega) W
theorem OwnI.row4 {w : World} {B : Nat} {A : Option Addr} {c : Nat} {L : List Int} (h : OwnI w B (.slice A L.length c) L) (hl : L.length = 4) : ∃ gL cL, Value.slice A L.length c = .slice (some ⟨gL, 0, none⟩) 4 cL ∧ B ≤ gL ∧ gL < w.heap.size ∧ RowI w gL cL L := by
  rcases h.row with ⟨e, e2⟩ | ⟨gL, cL, e, hB, hr⟩
  · rw [e2] at hl; simp at hl
  · rw [hl] at e ⊢
    exact ⟨gL, cL, e, hB, hr.lt, hr⟩
set_option maxRecDepth 8000 in
set_option maxHeartbeats 4000000 in
theorem sTypicalLogarithmR_any (w : World) (p m d : Int) (v : Value) (xs : List Int) (B : Nat) (hv : OwnI w B v xs) (hl : xs.length ≤ 2000000) : Calls Try.prog 46 #[.int .i64 p, .int .i64 m, .int .i64 d, v] w (RetSI w (TypicalLogarithmR p m d xs)) := by
  obtain ⟨A, c, e0⟩ := hv.form
  subst e0
  by_cases hc : typC p m xs 0 = 0
  · obtain ⟨hm, hp, h1, h3, hn⟩ := typC_zero hc
    have HC := Lib.hid hc
    cases hd : inB d 1 10
    · have HF : TypicalLogarithmR p m d xs = ((0, []), 2) := by simp [TypicalLogarithmR, hc, hd]
      rw [HF]
      have HD := Lib.hid hd
      clear HF hc hd hp hn
      go_enter Try.func46, Try.ntmps46
      go_wp2_with (first | (go_at_call 70; refine (l09Code_any _ m 0 _ _ xs B (hv.alloc _) hl ⟨by omega, by omega⟩).mono ?_; rintro e w1 ⟨rfl, hb1⟩; rw [HC.out]; have ⟨P1, K1⟩ := Bf.first1 hb1; have p1a := P1.1.2.1; have p1b := P1.1.2.2; have z1 := P1.1.1; have p1c := P1.2.1; have p1d := P1.2.2) | (go_at_call 57; refine (l01In_any _ _ _ _).mono ?_; rintro e w2 ⟨rfl, k2, rfl⟩; rw [HD.out]))
      exact bodyPost_ret (v := .tuple #[.agg #[.int .i64 0, .slice none 0 0], .int .i64 2]) (by simp [results, Try.results46, go_sem, p1a, p1b]) rfl ⟨none, 0, rfl, OwnI.nil_ _ _, by (repeat (first | assumption | exact Below.refl _ _ | refine Below.alloc ?_ (by first | omega | (simp; done) | (simp; omega)) _ | refine Below.setCell ?_ (by first | omega | (simp; done) | (simp; omega)) _ | refine below_drewN ?_ _))⟩
    · have hdb := inB_true.1 hd
      have HD := Lib.hid hd
      obtain ⟨q, rfl⟩ : ∃ q : Nat, p = (q : Int) := ⟨p.toNat, by omega⟩
      have hq : 2 ≤ q ∧ q ≤ 7 := by omega
      have hq0 : ¬ (q : Int) = 0 := by omega
      have hm0 : ¬ m = 0 := by omega
      have hqm : (q : Int).tmod m = (q : Int) % m := Int.tmod_eq_emod_of_nonneg (by omega)
      have b1 : -1000000000000000000 ≤ (q : Int) % m := Int.le_trans (by decide) (Int.emod_nonneg _ hm0)
      have b2 : (q : Int) % m ≤ 1000000000000000000 := Int.le_trans (Int.le_of_lt (Int.emod_lt_of_pos (q : Int) (show 0 < m by omega))) (by omega)
      have hun := typ_unit (m := m) (p := q) hm.1 (by omega)
      by_cases hu : m % (q : Int) = 0
      · have HF : TypicalLogarithmR (q : Int) m d xs = ((0, []), 5) := by simp [TypicalLogarithmR, hc, hd, hu]
        rw [HF]
        have HUN : Hid (unitB m ((q : Int) % m) = false) := by unfold Hid; rw [hun]; simp [hu]
        clear HF hc hd hp hn hun hu
        go_enter Try.func46, Try.ntmps46
        go_wp2_with (first | (go_at_call 70; refine (l09Code_any _ m 0 _ _ xs B (hv.alloc _) hl ⟨by omega, by omega⟩).mono ?_; rintro e w1 ⟨rfl, hb1⟩; rw [HC.out]; have ⟨P1, K1⟩ := Bf.first1 hb1; have p1a := P1.1.2.1; have p1b := P1.1.2.2; have z1 := P1.1.1; have p1c := P1.2.1; have p1d := P1.2.2) | (go_at_call 57; refine (l01In_any _ _ _ _).mono ?_; rintro e w2 ⟨rfl, k2, rfl⟩; rw [HD.out]) | (go_at_call 80; refine (l01Unit_any m ((q : Int) % m) _ (by omega) (by omega) b1 b2).mono ?_; rintro e w3 ⟨rfl, k3, rfl⟩; rw [HUN.out]))
        exact bodyPost_ret (v := .tuple #[.agg #[.int .i64 0, .slice none 0 0], .int .i64 5]) (by simp [results, Try.results46, go_sem, p1a, p1b]) rfl ⟨none, 0, rfl, OwnI.nil_ _ _, by (repeat (first | assumption | exact Below.refl _ _ | refine Below.alloc ?_ (by first | omega | (simp; done) | (simp; omega)) _ | refine Below.setCell ?_ (by first | omega | (simp; done) | (simp; omega)) _ | refine below_drewN ?_ _))⟩
      · obtain ⟨dn, rfl⟩ : ∃ dn : Nat, d = (dn : Int) := ⟨d.toNat, by omega⟩
        obtain ⟨u, hu0⟩ : ∃ u, invN m (q : Int) = u := ⟨_, rfl⟩
        have hub := invN_bd (show 0 < m by omega) (q : Int)
        obtain ⟨zs, hz⟩ : ∃ zs, pad3 xs = zs := ⟨_, rfl⟩
        have hz3 : zs.length = 3 := by rw [← hz]; exact length_pad3 h3
        have hzn : NumL m zs := by rw [← hz]; exact pad3_num (by omega) hn
        obtain ⟨L, hL⟩ : ∃ L, nmL m q zs = L := ⟨_, rfl⟩
        have hLl : L.length = 4 := by rw [← hL, length_nmL, hz3]
        have hLn : NumL m L := by rw [← hL]; exact nmTo_num (by omega) q zs _
        obtain ⟨ys, hy⟩ : ∃ ys, lgL m q u L (dn + 1) = ys := ⟨_, rfl⟩
        have HF : TypicalLogarithmR (q : Int) m (dn : Int) xs = ((m, ys), 0) := by
          simp only [TypicalLogarithmR, hc, hd, Int.toNat_natCast, hu0, hz, hL, hy]
          simp [hu]
        rw [HF]
        rw [hu0] at hub
        have HUN : Hid (unitB m ((q : Int) % m) = true) := by unfold Hid; rw [hun]; simp [hu]
        have HU := Lib.hid hu0
        have HZ := Lib.hid hz
        have HL := Lib.hid hL
        have HLL := Lib.hid hLl
        have HLN := Lib.hid hLn
        have HZN := Lib.hid hzn
        have HZ3 := Lib.hid hz3
        have HY := Lib.hid hy
        have HYL : Hid (ys.length = dn + 1) := by unfold Hid; rw [← hy]; exact length_lgL _ _ _ _ _
        clear HF hc hd hp hn hu0 hz hL hLl hLn hzn hy hu hz3 hun
        go_enter Try.func46, Try.ntmps46
        go_upto_region 8 with (first | (go_at_call 70; refine (l09Code_any _ m 0 _ _ xs B (hv.alloc _) hl ⟨by omega, by omega⟩).mono ?_; rintro e w1 ⟨rfl, hb1⟩; rw [HC.out]; have ⟨P1, K1⟩ := Bf.first1 hb1; have p1a := P1.1.2.1; have p1b := P1.1.2.2; have z1 := P1.1.1; have p1c := P1.2.1; have p1d := P1.2.2) | (go_at_call 57; refine (l01In_any _ _ _ _).mono ?_; rintro e w2 ⟨rfl, k2, rfl⟩; rw [HD.out]) | (go_at_call 80; refine (l01Unit_any m ((q : Int) % m) _ (by omega) (by omega) b1 b2).mono ?_; rintro e w3 ⟨rfl, k3, rfl⟩; rw [HUN.out]))
        have v0 : IntKind.i64.wrap ((dn : Int) + 1) = (dn : Int) + 1 := IntWalk.i64_in _ (by omega)
        have hxs : RdI w1 (.slice A xs.length c) xs := ((hv.alloc _).keep hb1 (Nat.le_refl _)).rd
        have hxd : ∀ k, RdI (w1.drewN k) (.slice A xs.length c) xs := fun k => hxs
        clear hxs
        go_cut [11, 12, 13] from 37 to 44 (fun s11 s12 s13 wx => ∃ (g gL cL : Nat), s11 = .slice (some ⟨g, 0, none⟩) (dn + 1 : Nat) (dn + 1 : Nat) ∧ s12 = .slice (some ⟨gL, 0, none⟩) 4 cL ∧ s13 = .int .i64 1 ∧ w.heap.size < g ∧ w.heap.size < gL ∧ g ≠ gL ∧ Hid (Bf wx w.heap.size (.int .i64 0) (.slice none 0 0)) ∧ Hid (RowI wx g (dn + 1) (List.replicate (dn + 1) 0)) ∧ Hid (RowI wx gL cL L) ∧ Hid (Below w.heap.size w wx))
        case first =>
          have hmk := run_makeI (dn + 1) (by omega)
          rw [show ((dn + 1 : Nat) : Int) = (dn : Int) + 1 by omega] at hmk
          go_region_law (first | (go_simp; go_at_call 94; refine (l09Three_any _ _ xs zs (by first | with_reducible exact hxd _ | exact RdI.below (hxd _) (below_alloc1 _ _)) h3 HZ.out).mono ?_; (rintro e w5 ⟨A5, c5, rfl, o5, hb5⟩)) | (go_simp; go_at_call 71; refine (l09Numerators_any q m _ _ zs L _ (by first | with_reducible exact o5 | exact o5.alloc _) hm.1 (by omega) hq.1 hq.2 HZN.out (by rw [HZ3.out]; decide) (by rw [HZ3.out]; decide) HL.out).mono ?_; rintro e w6 ⟨A6, c6, rfl, o6, hb6⟩))
          all_goals
            go_wp2_with fail
            go_meet
          all_goals
            obtain ⟨gL, cL, eL, hgL, hgL2, hrL⟩ := o6.row4 HLL.out
            have s5 := hb5.size
            have s6 := hb6.size
            simp at s5 s6 hgL
          · exact ⟨_, gL, cL, rfl, eL, rfl, z1, by omega, by omega, (((P1.drewN _).alloc _).keep hb5).keep hb6, ((RowI.made (w1.drewN _) (dn + 1) (by omega)).below hb5 (by simp)).below hb6 (by show w1.heap.size < w5.heap.size; omega), hrL, (((below_drewN K1 _).alloc (by show w.heap.size ≤ w1.heap.size; omega) _).trans (hb5.mono (by simp; omega))).trans (hb6.mono (by omega))⟩
          · exact ⟨_, gL, cL, rfl, eL, rfl, by omega, by omega, by omega, (((P1.drewN _).keep hb5).alloc _).keep hb6, (RowI.made w5 (dn + 1) (by omega)).below hb6 (by simp), hrL, (((below_drewN K1 _).trans (hb5.mono (by show w.heap.size ≤ w1.heap.size; omega))).alloc (by omega) _).trans (hb6.mono (by simp; omega))⟩
          · exact ⟨_, gL, cL, rfl, eL, rfl, by omega, by omega, by omega, (((P1.drewN _).keep hb5).keep hb6).alloc _, RowI.made w6 (dn + 1) (by omega), hrL.alloc _, (((below_drewN K1 _).trans (hb5.mono (by show w.heap.size ≤ w1.heap.size; omega))).trans (hb6.mono (by omega))).alloc (by omega) _⟩
        case rest =>
          obtain ⟨g, gL, cL, rfl, rfl, rfl, hg1, hg2, hne, SP, SR, SRL, KV⟩ := hcut
          go_wp2
          go_loopw [13, 14] (fun s1 s2 wr => ∃ k : Nat, k ≤ 4 ∧ s1 = .int .i64 ((q ^ k : Nat) : Int) ∧ s2 = .int .i64 (k : Int) ∧ Hid (Bf wr w.heap.size (.int .i64 0) (.slice none 0 0)) ∧ Hid (RowI wr g (dn + 1) (lgS m q u L (dn + 1) k)) ∧ Hid (RowI wr gL cL L) ∧ Hid (Below w.heap.size w wr)) (fun _ s2 _ => 5 - (intOf s2).toNat)
          case atStart => exact ⟨0, by omega, by simp, rfl, SP, SR, SRL, KV⟩
          case round =>
            clear SP SR SRL KV hxd hv K1 P1 p1a p1b p1c p1d hb1
            obtain ⟨k, hk, rfl, rfl, HP, HR, HRL, HB⟩ := hrel
            have p1 := HP.out.1.2.1
            have p2 := HP.out.1.2.2
            have p3 := HP.out.2.1
            have p4 := HP.out.2.2
            have zP := HP.out.1.1
            have hsb := powN_bd2 (m := m) (a := u) (k := k) (by omega)
            have cP := fun W => l01Pow_big m u k W hm.1 (by omega) hub.1 (by omega) (by omega)
            obtain ⟨s, hs⟩ : ∃ s, s = powN m u k := ⟨_, rfl⟩
            rw [← hs] at hsb
            simp only [← hs] at cP
            have HS := Lib.hid hs
            obtain ⟨P, hP⟩ : ∃ P : Nat, P = q ^ k := ⟨_, rfl⟩
            rw [← hP]
            have HPP := Lib.hid hP
            clear hs hP
            have FIN : k = 4 ∨ dn + 1 ≤ P → RowI wr g (dn + 1) ys := by
              intro h
              have := HR.out
              rcases h with h | h
              · rw [h] at this
                rw [← HY.out]; exact this
              · rw [HPP.out] at h
                rw [lgL_stop (show 1 ≤ q by omega) hk h, HY.out] at this
                exact this
            by_cases hlt : k < 4
            · have hlt1 : (k : Int) < 4 := by omega
              have hlt0 : (0 : Int) ≤ (k : Int) := by omega
              have hc0 := HRL.out.cell (k := k) (by rw [HLL.out]; exact hlt)
              have hxb : 0 ≤ co L k ∧ co L k < m := HLN.out k
              obtain ⟨x, hx⟩ : ∃ x, x = L.getD k 0 := ⟨_, rfl⟩
              rw [← hx] at hc0
              have hxb2 : 0 ≤ x ∧ x < m := by rw [hx]; exact hxb
              have HX := Lib.hid hx
              clear hx hxb
              by_cases hpl : dn < P
              · have hpl1 : decide ((P : Int) ≤ (dn : Int)) = false := by simp; omega
                have hR := FIN (.inr (by omega))
                clear FIN cP
                go_wp2_with (go_at_call 51; refine (l02Make_any _ m (some ⟨g, 0, none⟩) (dn + 1) (dn + 1)).mono ?_; rintro e w4 ⟨rfl, hb4⟩; have Q4 := HP.out.keep hb4; have q4a := Q4.1.2.1; have q4b := Q4.1.2.2; have q4c := Q4.2.1; have q4d := Q4.2.2; have K4 := HB.out.trans (hb4.mono HB.out.size); have R4 := hR.below hb4 hR.lt)
                refine bodyPost_ret (v := .tuple #[.agg #[.int .i64 m, .slice (some ⟨g, 0, none⟩) (dn + 1 : Nat) (dn + 1 : Nat)], .int .i64 0]) (by simp [results, Try.results46, go_sem, q4a, q4b]) rfl ⟨some ⟨g, 0, none⟩, dn + 1, by rw [HYL.out], ?_, ?_⟩
                · rw [HYL.out]
                  exact ((R4.far (p := ⟨w.heap.size, 0, none⟩) (by simp; omega) _).far (p := ⟨w.heap.size, 1, none⟩) (by simp; omega) _).own' (by omega) HYL.out
                · exact (K4.setCell (by simp) _).setCell (by simp) _
              · have hpl1 : (P : Int) ≤ (dn : Int) := by omega
                clear FIN
                have hp0 : (0 : Int) ≤ (P : Int) := by omega
                have hp1 : (P : Int) < (dn : Int) + 1 := by omega
                have hb1' := prod_bd hxb2.1 hxb2.2 hsb.1 hsb.2 (by omega)
                have hb3' := mul_bd' (show (0 : Int) ≤ (P : Int) by omega) (show (P : Int) ≤ 10 by omega) (show (0 : Int) ≤ (q : Int) by omega) (show (q : Int) ≤ 7 by omega)
                have v1 : IntKind.i64.wrap (x * s) = x * s := IntWalk.i64_in _ (by omega)
                have v2 : (x * s).tmod m = x * s % m := Int.tmod_eq_emod_of_nonneg (by omega)
                have v5 : IntKind.i64.wrap ((P : Int) * (q : Int)) = (P : Int) * (q : Int) := IntWalk.i64_in _ (by omega)
                have ne2 : (⟨g, P, none⟩ : Addr) ≠ ⟨gL, k, none⟩ := by first | (simp; done) | (simp; omega)
                have hd0 := HR.out.cell (k := P) (by rw [length_lgS]; omega)
                have hf0 := HR.out.free P
                generalize (lgS m q u L (dn + 1) k).getD P 0 = y0 at hd0
                go_wp2
                go_region_held3 (fun w' => w'.cell? ⟨gL, k, none⟩ = some (.int .i64 x)) ((first | exact ⟨hc0⟩ | exact ⟨(World.cell?_setCell_other _ _ _ _ ne2).trans hc0⟩ | go_keep))
                  (first | (go_at_call 96; refine (l01Inv_any m ((q : Int) % m) _ (by omega) (by omega)).mono ?_; rintro e w2 ⟨rfl, k1, rfl⟩; rw [invN_mod, HU.out]) | (go_at_call 95; refine (cP _).mono ?_; rintro e w3 ⟨rfl, k3, rfl⟩))
                go_wp2
                go_roundw
                case rel =>
                  refine ⟨k + 1, by omega, ?_, by go_num, (HP.out.drewN _).setCell (by simp; omega) _, ?_, (HRL.out.drewN _).far (by simp; omega) _, (below_drewN HB.out _).setCell (p := ⟨g, P, none⟩) (Nat.le_of_lt hg1) _⟩
                  · rw [HPP.out, Nat.pow_succ, Int.natCast_mul]
                  · unfold Hid
                    show RowI _ g (dn + 1) ((lgS m q u L (dn + 1) k).set (q ^ k) (co L k * powN m u k % m))
                    rw [← HPP.out, ← HS.out, show co L k = x from HX.out.symm]
                    exact (HR.out.drewN _).set_ P _
                case measure => simp [intOf]; omega
            · have hlt1 : decide ((k : Int) < 4) = false := by simp; omega
              have hR := FIN (.inl (by omega))
              clear FIN cP
              go_wp2_with (go_at_call 51; refine (l02Make_any _ m (some ⟨g, 0, none⟩) (dn + 1) (dn + 1)).mono ?_; rintro e w4 ⟨rfl, hb4⟩; have Q4 := HP.out.keep hb4; have q4a := Q4.1.2.1; have q4b := Q4.1.2.2; have q4c := Q4.2.1; have q4d := Q4.2.2; have K4 := HB.out.trans (hb4.mono HB.out.size); have R4 := hR.below hb4 hR.lt)
              refine bodyPost_ret (v := .tuple #[.agg #[.int .i64 m, .slice (some ⟨g, 0, none⟩) (dn + 1 : Nat) (dn + 1 : Nat)], .int .i64 0]) (by simp [results, Try.results46, go_sem, q4a, q4b]) rfl ⟨some ⟨g, 0, none⟩, dn + 1, by rw [HYL.out], ?_, ?_⟩
              · rw [HYL.out]
                exact ((R4.far (p := ⟨w.heap.size, 0, none⟩) (by simp; omega) _).far (p := ⟨w.heap.size, 1, none⟩) (by simp; omega) _).own' (by omega) HYL.out
              · exact (K4.setCell (by simp) _).setCell (by simp) _
  · have HF : TypicalLogarithmR p m d xs = ((0, []), typC p m xs 0) := by simp [TypicalLogarithmR, hc]
    rw [HF]
    clear HF
    have h1 : (typC p m xs 0 != 0) = true := by simpa using hc
    clear hc
    go_enter Try.func46, Try.ntmps46
    go_wp2_with (go_at_call 70; refine (l09Code_any p m 0 _ _ xs B (hv.alloc _) hl ⟨by omega, by omega⟩).mono ?_; rintro e w1 ⟨rfl, hb1⟩; have ⟨P1, K1⟩ := Bf.first1 hb1; have p1a := P1.1.2.1; have p1b := P1.1.2.2; have z1 := P1.1.1; have p1c := P1.2.1; have p1d := P1.2.2)
    exact bodyPost_ret (v := .tuple #[.agg #[.int .i64 0, .slice none 0 0], .int .i64 (typC p m xs 0)]) (by simp [results, Try.results46, go_sem, p1a, p1b]) rfl ⟨none, 0, rfl, OwnI.nil_ _ _, by (repeat (first | assumption | exact Below.refl _ _ | refine Below.alloc ?_ (by first | omega | (simp; done) | (simp; omega)) _ | refine Below.setCell ?_ (by first | omega | (simp; done) | (simp; omega)) _ | refine below_drewN ?_ _))⟩

/-! ### The laws' walks, printed by genlaw2.py -/
set_option maxHeartbeats 4000000 in
theorem FnExactTypicalLogarithm_walk (w : World) (a0 : Int) (a1 : Int) (a2 : Int) (v3 : Value) (xs3 : List Int) (hv3 : RdI w v3 xs3) : Calls Try.prog 14 #[.int .i64 a0, .int .i64 a1, .int .i64 a2, v3] w fun e w' => e = .returned (.bool true) ∧ Below w.heap.size w w' := by
  obtain ⟨A3, c3, e3⟩ := hv3.form
  subst e3
  obtain ⟨r0, HR⟩ : ∃ r0, Hid (TypicalLogarithmR a0 a1 a2 xs3 = r0) := ⟨_, rfl⟩
  obtain ⟨⟨rm, rl⟩, rc⟩ := r0
  have hlen := TypicalLogarithmR_len a0 a1 a2 xs3
  rw [HR.out] at hlen
  simp only at hlen
  by_cases hz3 : 1048576 < (xs3.length : Int)
  · skip
    have hz3' : (1048576 : Int) < (xs3.length : Int) := hz3
    go_enter Try.func14, Try.ntmps14
    go_wp2
    go_ret
    exact ⟨rfl, by (repeat (first | assumption | exact Below.refl _ _ | refine Below.alloc ?_ (by first | omega | (simp; done) | (simp; omega)) _ | refine Below.setCell ?_ (by first | omega | (simp; done) | (simp; omega)) _ | refine below_drewN ?_ _))⟩
  have hl3 : (xs3.length : Int) ≤ 1048576 := by omega
  go_enter Try.func14, Try.ntmps14
  go_wp2_with fail
  refine (toL_any _ _ xs3 (hv3.below (by (repeat (first | assumption | exact Below.refl _ _ | refine Below.alloc ?_ (by first | omega | (simp; done) | (simp; omega)) _ | refine Below.setCell ?_ (by first | omega | (simp; done) | (simp; omega)) _ | refine below_drewN ?_ _)))) (by omega)).mono ?_
  rintro e w1 ⟨A_p3, c_p3, rfl, o_p3, hb1⟩
  have o_p3' := (o_p3.toB).mono (show w.heap.size ≤ _ from by first | exact Nat.le_refl _ | (simp; done) | (simp; omega)) (Nat.le_refl _)
  clear o_p3
  have R : Below w.heap.size w w1 := Below.trans (by (repeat (first | assumption | exact Below.refl _ _ | refine Below.alloc ?_ (by first | omega | (simp; done) | (simp; omega)) _ | refine Below.setCell ?_ (by first | omega | (simp; done) | (simp; omega)) _ | refine below_drewN ?_ _))) (hb1.mono (by first | exact Nat.le_refl _ | (simp; done) | (simp; omega)))
  have s1 : w.heap.size ≤ w1.heap.size := R.size
  have K1 : Hid (Below w.heap.size w w1) := R
  clear R hb1
  have p3 : Hid (OwnB w1 w.heap.size w1.heap.size (.slice A_p3 xs3.length c_p3) xs3) := o_p3'
  clear o_p3'
  go_wp2_with fail
  refine (sTypicalLogarithmR_any _ a0 a1 a2 (.slice A_p3 xs3.length c_p3) xs3 w.heap.size (p3.out.keep (by (repeat (first | assumption | exact Below.refl _ _ | refine Below.alloc ?_ (by first | omega | (simp; done) | (simp; omega)) _ | refine Below.setCell ?_ (by first | omega | (simp; done) | (simp; omega)) _ | refine below_drewN ?_ _)))).1 (by omega)).mono ?_
  rintro e w2 h_r
  replace h_r := h_r.of HR
  obtain ⟨A_ow, c_ow, rfl, o_ow, hb2⟩ := h_r
  have o_ow' := (o_ow.toB).mono (show w1.heap.size ≤ _ from by first | exact Nat.le_refl _ | (simp; done) | (simp; omega)) (Nat.le_refl _)
  clear o_ow
  have R : Below w1.heap.size w1 w2 := Below.trans (by (repeat (first | assumption | exact Below.refl _ _ | refine Below.alloc ?_ (by first | omega | (simp; done) | (simp; omega)) _ | refine Below.setCell ?_ (by first | omega | (simp; done) | (simp; omega)) _ | refine below_drewN ?_ _))) (hb2.mono (by first | exact Nat.le_refl _ | (simp; done) | (simp; omega)))
  have s2 : w1.heap.size ≤ w2.heap.size := R.size
  have K2 : Hid (Below w.heap.size w w2) := K1.out.trans (R.mono (by omega))
  replace p3 : Hid (OwnB w2 w.heap.size w1.heap.size (.slice A_p3 xs3.length c_p3) xs3) := p3.out.keep R
  clear R hb2
  have ow : Hid (OwnB w2 w1.heap.size w2.heap.size (.slice A_ow rl.length c_ow) rl) := o_ow'
  clear o_ow'
  clear p3
  go_wp2_with fail
  refine (toL_any _ _ xs3 (hv3.below (K2.out.trans (Below.mono (by (repeat (first | assumption | exact Below.refl _ _ | refine Below.alloc ?_ (by first | omega | (simp; done) | (simp; omega)) _ | refine Below.setCell ?_ (by first | omega | (simp; done) | (simp; omega)) _ | refine below_drewN ?_ _))) (by omega)))) (by omega)).mono ?_
  rintro e w3 ⟨A_x3, c_x3, rfl, o_x3, hb3⟩
  have o_x3' := (o_x3.toB).mono (show (w2.heap.size + 1) ≤ _ from by first | exact Nat.le_refl _ | (simp; done) | (simp; omega)) (Nat.le_refl _)
  clear o_x3
  have R : Below w2.heap.size w2 w3 := Below.trans (by (repeat (first | assumption | exact Below.refl _ _ | refine Below.alloc ?_ (by first | omega | (simp; done) | (simp; omega)) _ | refine Below.setCell ?_ (by first | omega | (simp; done) | (simp; omega)) _ | refine below_drewN ?_ _))) (hb3.mono (by first | exact Nat.le_refl _ | (simp; done) | (simp; omega)))
  have s3 : w2.heap.size ≤ w3.heap.size := R.size
  have K3 : Hid (Below w.heap.size w w3) := K2.out.trans (R.mono (by omega))
  replace ow : Hid (OwnB w3 w1.heap.size w2.heap.size (.slice A_ow rl.length c_ow) rl) := ow.out.keep R
  have bw : Hid (Bx w3 w2.heap.size (.int .i64 rm) (.slice A_ow rl.length c_ow)) := ⟨by have := hb3.size; simp at this; omega, by rw [hb3.cell (by first | (simp; done) | (simp; omega))]; simp, by rw [hb3.cell (by first | (simp; done) | (simp; omega))]; simp⟩
  have bw_lt := bw.out.1
  clear R hb3
  have x3 : Hid (OwnB w3 (w2.heap.size + 1) w3.heap.size (.slice A_x3 xs3.length c_x3) xs3) := o_x3'
  clear o_x3'
  have bw_c := bw.out.2.1
  have bw_d := bw.out.2.2
  have bw_z := bw.out.1
  go_wp2_with fail
  refine (iTypicalLogarithmR_any _ a0 a1 a2 (.slice A_x3 xs3.length c_x3) xs3 (w2.heap.size + 1) (x3.out.keep (by (repeat (first | assumption | exact Below.refl _ _ | refine Below.alloc ?_ (by first | omega | (simp; done) | (simp; omega)) _ | refine Below.setCell ?_ (by first | omega | (simp; done) | (simp; omega)) _ | refine below_drewN ?_ _)))).1 (by omega)).mono ?_
  rintro e w4 h_r
  replace h_r := h_r.of HR
  obtain ⟨A_og, c_og, rfl, o_og, hb4⟩ := h_r
  have o_og' := (o_og.toB).mono (show w3.heap.size ≤ _ from by first | exact Nat.le_refl _ | (simp; done) | (simp; omega)) (Nat.le_refl _)
  clear o_og
  clear bw_c bw_d bw_z
  have R : Below w3.heap.size w3 w4 := Below.trans (by (repeat (first | assumption | exact Below.refl _ _ | refine Below.alloc ?_ (by first | omega | (simp; done) | (simp; omega)) _ | refine Below.setCell ?_ (by first | omega | (simp; done) | (simp; omega)) _ | refine below_drewN ?_ _))) (hb4.mono (by first | exact Nat.le_refl _ | (simp; done) | (simp; omega)))
  have s4 : w3.heap.size ≤ w4.heap.size := R.size
  have K4 : Hid (Below w.heap.size w w4) := K3.out.trans (R.mono (by omega))
  replace bw : Hid (Bx w4 w2.heap.size (.int .i64 rm) (.slice A_ow rl.length c_ow)) := bw.out.keep R
  replace ow : Hid (OwnB w4 w1.heap.size w2.heap.size (.slice A_ow rl.length c_ow) rl) := ow.out.keep R
  replace x3 : Hid (OwnB w4 (w2.heap.size + 1) w3.heap.size (.slice A_x3 xs3.length c_x3) xs3) := x3.out.keep R
  clear R hb4
  have og : Hid (OwnB w4 w3.heap.size w4.heap.size (.slice A_og rl.length c_og) rl) := o_og'
  clear o_og'
  have bw_c := bw.out.2.1
  have bw_d := bw.out.2.2
  have bw_z := bw.out.1
  go_wp2_with fail
  refine (eqS_any _ rm rm _ _ _ _ (og.out.keep (by (repeat (first | assumption | exact Below.refl _ _ | refine Below.alloc ?_ (by first | omega | (simp; done) | (simp; omega)) _ | refine Below.setCell ?_ (by first | omega | (simp; done) | (simp; omega)) _ | refine below_drewN ?_ _)))).rd (ow.out.keep (by (repeat (first | assumption | exact Below.refl _ _ | refine Below.alloc ?_ (by first | omega | (simp; done) | (simp; omega)) _ | refine Below.setCell ?_ (by first | omega | (simp; done) | (simp; omega)) _ | refine below_drewN ?_ _)))).rd).mono ?_
  rintro e w5 ⟨rfl, hb5⟩
  clear bw_c bw_d bw_z
  have R : Below w4.heap.size w4 w5 := Below.trans (by (repeat (first | assumption | exact Below.refl _ _ | refine Below.alloc ?_ (by first | omega | (simp; done) | (simp; omega)) _ | refine Below.setCell ?_ (by first | omega | (simp; done) | (simp; omega)) _ | refine below_drewN ?_ _))) (hb5.mono (by first | exact Nat.le_refl _ | (simp; done) | (simp; omega)))
  have s5 : w4.heap.size ≤ w5.heap.size := R.size
  have K5 : Hid (Below w.heap.size w w5) := K4.out.trans (R.mono (by omega))
  replace bw : Hid (Bx w5 w2.heap.size (.int .i64 rm) (.slice A_ow rl.length c_ow)) := bw.out.keep R
  replace ow : Hid (OwnB w5 w1.heap.size w2.heap.size (.slice A_ow rl.length c_ow) rl) := ow.out.keep R
  replace x3 : Hid (OwnB w5 (w2.heap.size + 1) w3.heap.size (.slice A_x3 xs3.length c_x3) xs3) := x3.out.keep R
  replace og : Hid (OwnB w5 w3.heap.size w4.heap.size (.slice A_og rl.length c_og) rl) := og.out.keep R
  have bg : Hid (Bx w5 w4.heap.size (.int .i64 rm) (.slice A_og rl.length c_og)) := ⟨by have := hb5.size; simp at this; omega, by rw [hb5.cell (by first | (simp; done) | (simp; omega))]; simp, by rw [hb5.cell (by first | (simp; done) | (simp; omega))]; simp⟩
  clear R hb5
  have bw_c := bw.out.2.1
  have bw_d := bw.out.2.2
  have bw_z := bw.out.1
  have bg_c := bg.out.2.1
  have bg_d := bg.out.2.2
  have bg_z := bg.out.1
  go_wp2_with fail
  refine (toL_any _ _ xs3 (hv3.below K5.out) (by omega)).mono ?_
  rintro e w7 ⟨A_t6, c_t6, rfl, o_t6, hb7⟩
  clear bw_c bw_d bw_z
  clear bg_c bg_d bg_z
  have o_t6' := (o_t6.toB).mono (show w5.heap.size ≤ _ from by first | exact Nat.le_refl _ | (simp; done) | (simp; omega)) (Nat.le_refl _)
  clear o_t6
  have R : Below w5.heap.size w5 w7 := Below.trans (by (repeat (first | assumption | exact Below.refl _ _ | refine Below.alloc ?_ (by first | omega | (simp; done) | (simp; omega)) _ | refine Below.setCell ?_ (by first | omega | (simp; done) | (simp; omega)) _ | refine below_drewN ?_ _))) (hb7.mono (by first | exact Nat.le_refl _ | (simp; done) | (simp; omega)))
  have s7 : w5.heap.size ≤ w7.heap.size := R.size
  have K7 : Hid (Below w.heap.size w w7) := K5.out.trans (R.mono (by omega))
  replace bw : Hid (Bx w7 w2.heap.size (.int .i64 rm) (.slice A_ow rl.length c_ow)) := bw.out.keep R
  replace bg : Hid (Bx w7 w4.heap.size (.int .i64 rm) (.slice A_og rl.length c_og)) := bg.out.keep R
  replace ow : Hid (OwnB w7 w1.heap.size w2.heap.size (.slice A_ow rl.length c_ow) rl) := ow.out.keep R
  replace x3 : Hid (OwnB w7 (w2.heap.size + 1) w3.heap.size (.slice A_x3 xs3.length c_x3) xs3) := x3.out.keep R
  replace og : Hid (OwnB w7 w3.heap.size w4.heap.size (.slice A_og rl.length c_og) rl) := og.out.keep R
  clear R hb7
  have t6 : Hid (OwnB w7 w5.heap.size w7.heap.size (.slice A_t6 xs3.length c_t6) xs3) := o_t6'
  clear o_t6'
  have bw_c := bw.out.2.1
  have bw_d := bw.out.2.2
  have bw_z := bw.out.1
  have bg_c := bg.out.2.1
  have bg_d := bg.out.2.2
  have bg_z := bg.out.1
  go_wp2_with fail
  refine (eqL_any _ _ _ _ _ (x3.out.keep (by (repeat (first | assumption | exact Below.refl _ _ | refine Below.alloc ?_ (by first | omega | (simp; done) | (simp; omega)) _ | refine Below.setCell ?_ (by first | omega | (simp; done) | (simp; omega)) _ | refine below_drewN ?_ _)))).rd (t6.out.keep (by (repeat (first | assumption | exact Below.refl _ _ | refine Below.alloc ?_ (by first | omega | (simp; done) | (simp; omega)) _ | refine Below.setCell ?_ (by first | omega | (simp; done) | (simp; omega)) _ | refine below_drewN ?_ _)))).rd).mono ?_
  rintro e w8 ⟨rfl, hb8⟩
  clear bw_c bw_d bw_z
  clear bg_c bg_d bg_z
  have R : Below w7.heap.size w7 w8 := Below.trans (by (repeat (first | assumption | exact Below.refl _ _ | refine Below.alloc ?_ (by first | omega | (simp; done) | (simp; omega)) _ | refine Below.setCell ?_ (by first | omega | (simp; done) | (simp; omega)) _ | refine below_drewN ?_ _))) (hb8.mono (by first | exact Nat.le_refl _ | (simp; done) | (simp; omega)))
  have s8 : w7.heap.size ≤ w8.heap.size := R.size
  have K8 : Hid (Below w.heap.size w w8) := K7.out.trans (R.mono (by omega))
  replace bw : Hid (Bx w8 w2.heap.size (.int .i64 rm) (.slice A_ow rl.length c_ow)) := bw.out.keep R
  replace bg : Hid (Bx w8 w4.heap.size (.int .i64 rm) (.slice A_og rl.length c_og)) := bg.out.keep R
  replace ow : Hid (OwnB w8 w1.heap.size w2.heap.size (.slice A_ow rl.length c_ow) rl) := ow.out.keep R
  replace x3 : Hid (OwnB w8 (w2.heap.size + 1) w3.heap.size (.slice A_x3 xs3.length c_x3) xs3) := x3.out.keep R
  replace og : Hid (OwnB w8 w3.heap.size w4.heap.size (.slice A_og rl.length c_og) rl) := og.out.keep R
  replace t6 : Hid (OwnB w8 w5.heap.size w7.heap.size (.slice A_t6 xs3.length c_t6) xs3) := t6.out.keep R
  clear R hb8
  clear t6
  have bw_c := bw.out.2.1
  have bw_d := bw.out.2.2
  have bw_z := bw.out.1
  have bg_c := bg.out.2.1
  have bg_d := bg.out.2.2
  have bg_z := bg.out.1
  go_wp2_with fail
  refine (markLB_any _ (w2.heap.size + 1) w3.heap.size _ xs3 (1) (x3.out.keep (by (repeat (first | assumption | exact Below.refl _ _ | refine Below.alloc ?_ (by first | omega | (simp; done) | (simp; omega)) _ | refine Below.setCell ?_ (by first | omega | (simp; done) | (simp; omega)) _ | refine below_drewN ?_ _)))) (by omega) (by omega) (by omega)).mono ?_
  rintro e w9 ⟨rfl, o_m, hg9⟩
  clear bw_c bw_d bw_z
  clear bg_c bg_d bg_z
  have R : Within (w2.heap.size + 1) w3.heap.size w8 w9 := Within.behind (by (repeat (first | assumption | exact Below.refl _ _ | refine Below.alloc ?_ (by first | omega | (simp; done) | (simp; omega)) _ | refine Below.setCell ?_ (by first | omega | (simp; done) | (simp; omega)) _ | refine below_drewN ?_ _))) hg9
  have s9 : w8.heap.size ≤ w9.heap.size := R.2.2.2.1
  have K9 : Hid (Below w.heap.size w w9) := R.below K8.out (by omega) (by omega)
  replace bw : Hid (Bx w9 w2.heap.size (.int .i64 rm) (.slice A_ow rl.length c_ow)) := bw.out.within R (by omega)
  replace bg : Hid (Bx w9 w4.heap.size (.int .i64 rm) (.slice A_og rl.length c_og)) := bg.out.within R (by omega)
  replace ow : Hid (OwnB w9 w1.heap.size w2.heap.size (.slice A_ow rl.length c_ow) rl) := ow.out.within R (by omega)
  replace og : Hid (OwnB w9 w3.heap.size w4.heap.size (.slice A_og rl.length c_og) rl) := og.out.within R (by omega)
  clear R hg9
  replace x3 : Hid (OwnB w9 (w2.heap.size + 1) w3.heap.size (.slice A_x3 xs3.length c_x3) (marks (1) xs3.length)) := o_m
  clear o_m
  have bw_c := bw.out.2.1
  have bw_d := bw.out.2.2
  have bw_z := bw.out.1
  have bg_c := bg.out.2.1
  have bg_d := bg.out.2.2
  have bg_z := bg.out.1
  go_wp2_with fail
  refine (eqS_any _ rm rm _ _ _ _ (og.out.keep (by (repeat (first | assumption | exact Below.refl _ _ | refine Below.alloc ?_ (by first | omega | (simp; done) | (simp; omega)) _ | refine Below.setCell ?_ (by first | omega | (simp; done) | (simp; omega)) _ | refine below_drewN ?_ _)))).rd (ow.out.keep (by (repeat (first | assumption | exact Below.refl _ _ | refine Below.alloc ?_ (by first | omega | (simp; done) | (simp; omega)) _ | refine Below.setCell ?_ (by first | omega | (simp; done) | (simp; omega)) _ | refine below_drewN ?_ _)))).rd).mono ?_
  rintro e w10 ⟨rfl, hb10⟩
  clear bw_c bw_d bw_z
  clear bg_c bg_d bg_z
  have R : Below w9.heap.size w9 w10 := Below.trans (by (repeat (first | assumption | exact Below.refl _ _ | refine Below.alloc ?_ (by first | omega | (simp; done) | (simp; omega)) _ | refine Below.setCell ?_ (by first | omega | (simp; done) | (simp; omega)) _ | refine below_drewN ?_ _))) (hb10.mono (by first | exact Nat.le_refl _ | (simp; done) | (simp; omega)))
  have s10 : w9.heap.size ≤ w10.heap.size := R.size
  have K10 : Hid (Below w.heap.size w w10) := K9.out.trans (R.mono (by omega))
  replace bw : Hid (Bx w10 w2.heap.size (.int .i64 rm) (.slice A_ow rl.length c_ow)) := bw.out.keep R
  replace bg : Hid (Bx w10 w4.heap.size (.int .i64 rm) (.slice A_og rl.length c_og)) := bg.out.keep R
  replace ow : Hid (OwnB w10 w1.heap.size w2.heap.size (.slice A_ow rl.length c_ow) rl) := ow.out.keep R
  replace x3 : Hid (OwnB w10 (w2.heap.size + 1) w3.heap.size (.slice A_x3 xs3.length c_x3) (marks (1) xs3.length)) := x3.out.keep R
  replace og : Hid (OwnB w10 w3.heap.size w4.heap.size (.slice A_og rl.length c_og) rl) := og.out.keep R
  clear R hb10
  have bw_c := bw.out.2.1
  have bw_d := bw.out.2.2
  have bw_z := bw.out.1
  have bg_c := bg.out.2.1
  have bg_d := bg.out.2.2
  have bg_z := bg.out.1
  go_wp2_with fail
  refine (markSB_any _ w3.heap.size w4.heap.size rm _ rl (1) (og.out.keep (by (repeat (first | assumption | exact Below.refl _ _ | refine Below.alloc ?_ (by first | omega | (simp; done) | (simp; omega)) _ | refine Below.setCell ?_ (by first | omega | (simp; done) | (simp; omega)) _ | refine below_drewN ?_ _)))) (by omega) (by omega) (by omega)).mono ?_
  rintro e w11 ⟨rfl, o_m, hg11⟩
  clear bw_c bw_d bw_z
  clear bg_c bg_d bg_z
  have R : Within w3.heap.size w4.heap.size w10 w11 := Within.behind (by (repeat (first | assumption | exact Below.refl _ _ | refine Below.alloc ?_ (by first | omega | (simp; done) | (simp; omega)) _ | refine Below.setCell ?_ (by first | omega | (simp; done) | (simp; omega)) _ | refine below_drewN ?_ _))) hg11
  have s11 : w10.heap.size ≤ w11.heap.size := R.2.2.2.1
  have K11 : Hid (Below w.heap.size w w11) := R.below K10.out (by omega) (by omega)
  replace bw : Hid (Bx w11 w2.heap.size (.int .i64 rm) (.slice A_ow rl.length c_ow)) := bw.out.within R (by omega)
  replace bg : Hid (Bx w11 w4.heap.size (.int .i64 rm) (.slice A_og rl.length c_og)) := bg.out.within R (by omega)
  replace ow : Hid (OwnB w11 w1.heap.size w2.heap.size (.slice A_ow rl.length c_ow) rl) := ow.out.within R (by omega)
  replace x3 : Hid (OwnB w11 (w2.heap.size + 1) w3.heap.size (.slice A_x3 xs3.length c_x3) (marks (1) xs3.length)) := x3.out.within R (by omega)
  clear R hg11
  replace og : Hid (OwnB w11 w3.heap.size w4.heap.size (.slice A_og rl.length c_og) (marks (1) rl.length)) := o_m
  clear o_m
  have bw_c := bw.out.2.1
  have bw_d := bw.out.2.2
  have bw_z := bw.out.1
  have bg_c := bg.out.2.1
  have bg_d := bg.out.2.2
  have bg_z := bg.out.1
  go_wp2_with fail
  refine (heldSB_any _ w3.heap.size w4.heap.size rm _ rl (1) (og.out.keep (by (repeat (first | assumption | exact Below.refl _ _ | refine Below.alloc ?_ (by first | omega | (simp; done) | (simp; omega)) _ | refine Below.setCell ?_ (by first | omega | (simp; done) | (simp; omega)) _ | refine below_drewN ?_ _)))) (by omega) (by omega) (by omega)).mono ?_
  rintro e w12 ⟨rfl, hb12⟩
  clear bw_c bw_d bw_z
  clear bg_c bg_d bg_z
  have R : Below w11.heap.size w11 w12 := Below.trans (by (repeat (first | assumption | exact Below.refl _ _ | refine Below.alloc ?_ (by first | omega | (simp; done) | (simp; omega)) _ | refine Below.setCell ?_ (by first | omega | (simp; done) | (simp; omega)) _ | refine below_drewN ?_ _))) (hb12.mono (by first | exact Nat.le_refl _ | (simp; done) | (simp; omega)))
  have s12 : w11.heap.size ≤ w12.heap.size := R.size
  have K12 : Hid (Below w.heap.size w w12) := K11.out.trans (R.mono (by omega))
  replace bw : Hid (Bx w12 w2.heap.size (.int .i64 rm) (.slice A_ow rl.length c_ow)) := bw.out.keep R
  replace bg : Hid (Bx w12 w4.heap.size (.int .i64 rm) (.slice A_og rl.length c_og)) := bg.out.keep R
  replace ow : Hid (OwnB w12 w1.heap.size w2.heap.size (.slice A_ow rl.length c_ow) rl) := ow.out.keep R
  replace x3 : Hid (OwnB w12 (w2.heap.size + 1) w3.heap.size (.slice A_x3 xs3.length c_x3) (marks (1) xs3.length)) := x3.out.keep R
  replace og : Hid (OwnB w12 w3.heap.size w4.heap.size (.slice A_og rl.length c_og) (marks (1) rl.length)) := og.out.keep R
  clear R hb12
  have bw_c := bw.out.2.1
  have bw_d := bw.out.2.2
  have bw_z := bw.out.1
  have bg_c := bg.out.2.1
  have bg_d := bg.out.2.2
  have bg_z := bg.out.1
  go_wp2_with fail
  refine (toL_any _ _ xs3 (hv3.below K12.out) (by omega)).mono ?_
  rintro e w13 ⟨A_y3, c_y3, rfl, o_y3, hb13⟩
  clear bw_c bw_d bw_z
  clear bg_c bg_d bg_z
  have o_y3' := (o_y3.toB).mono (show w12.heap.size ≤ _ from by first | exact Nat.le_refl _ | (simp; done) | (simp; omega)) (Nat.le_refl _)
  clear o_y3
  have R : Below w12.heap.size w12 w13 := Below.trans (by (repeat (first | assumption | exact Below.refl _ _ | refine Below.alloc ?_ (by first | omega | (simp; done) | (simp; omega)) _ | refine Below.setCell ?_ (by first | omega | (simp; done) | (simp; omega)) _ | refine below_drewN ?_ _))) (hb13.mono (by first | exact Nat.le_refl _ | (simp; done) | (simp; omega)))
  have s13 : w12.heap.size ≤ w13.heap.size := R.size
  have K13 : Hid (Below w.heap.size w w13) := K12.out.trans (R.mono (by omega))
  replace bw : Hid (Bx w13 w2.heap.size (.int .i64 rm) (.slice A_ow rl.length c_ow)) := bw.out.keep R
  replace bg : Hid (Bx w13 w4.heap.size (.int .i64 rm) (.slice A_og rl.length c_og)) := bg.out.keep R
  replace ow : Hid (OwnB w13 w1.heap.size w2.heap.size (.slice A_ow rl.length c_ow) rl) := ow.out.keep R
  replace x3 : Hid (OwnB w13 (w2.heap.size + 1) w3.heap.size (.slice A_x3 xs3.length c_x3) (marks (1) xs3.length)) := x3.out.keep R
  replace og : Hid (OwnB w13 w3.heap.size w4.heap.size (.slice A_og rl.length c_og) (marks (1) rl.length)) := og.out.keep R
  clear R hb13
  have y3 : Hid (OwnB w13 w12.heap.size w13.heap.size (.slice A_y3 xs3.length c_y3) xs3) := o_y3'
  clear o_y3'
  have bw_c := bw.out.2.1
  have bw_d := bw.out.2.2
  have bw_z := bw.out.1
  have bg_c := bg.out.2.1
  have bg_d := bg.out.2.2
  have bg_z := bg.out.1
  go_wp2_with fail
  refine (iTypicalLogarithmR_any _ a0 a1 a2 (.slice A_y3 xs3.length c_y3) xs3 w12.heap.size (y3.out.keep (by (repeat (first | assumption | exact Below.refl _ _ | refine Below.alloc ?_ (by first | omega | (simp; done) | (simp; omega)) _ | refine Below.setCell ?_ (by first | omega | (simp; done) | (simp; omega)) _ | refine below_drewN ?_ _)))).1 (by omega)).mono ?_
  rintro e w14 h_r
  replace h_r := h_r.of HR
  obtain ⟨A_oh, c_oh, rfl, o_oh, hb14⟩ := h_r
  have o_oh' := (o_oh.toB).mono (show w13.heap.size ≤ _ from by first | exact Nat.le_refl _ | (simp; done) | (simp; omega)) (Nat.le_refl _)
  clear o_oh
  clear bw_c bw_d bw_z
  clear bg_c bg_d bg_z
  have R : Below w13.heap.size w13 w14 := Below.trans (by (repeat (first | assumption | exact Below.refl _ _ | refine Below.alloc ?_ (by first | omega | (simp; done) | (simp; omega)) _ | refine Below.setCell ?_ (by first | omega | (simp; done) | (simp; omega)) _ | refine below_drewN ?_ _))) (hb14.mono (by first | exact Nat.le_refl _ | (simp; done) | (simp; omega)))
  have s14 : w13.heap.size ≤ w14.heap.size := R.size
  have K14 : Hid (Below w.heap.size w w14) := K13.out.trans (R.mono (by omega))
  replace bw : Hid (Bx w14 w2.heap.size (.int .i64 rm) (.slice A_ow rl.length c_ow)) := bw.out.keep R
  replace bg : Hid (Bx w14 w4.heap.size (.int .i64 rm) (.slice A_og rl.length c_og)) := bg.out.keep R
  replace ow : Hid (OwnB w14 w1.heap.size w2.heap.size (.slice A_ow rl.length c_ow) rl) := ow.out.keep R
  replace x3 : Hid (OwnB w14 (w2.heap.size + 1) w3.heap.size (.slice A_x3 xs3.length c_x3) (marks (1) xs3.length)) := x3.out.keep R
  replace og : Hid (OwnB w14 w3.heap.size w4.heap.size (.slice A_og rl.length c_og) (marks (1) rl.length)) := og.out.keep R
  replace y3 : Hid (OwnB w14 w12.heap.size w13.heap.size (.slice A_y3 xs3.length c_y3) xs3) := y3.out.keep R
  clear R hb14
  have oh : Hid (OwnB w14 w13.heap.size w14.heap.size (.slice A_oh rl.length c_oh) rl) := o_oh'
  clear o_oh'
  have bw_c := bw.out.2.1
  have bw_d := bw.out.2.2
  have bw_z := bw.out.1
  have bg_c := bg.out.2.1
  have bg_d := bg.out.2.2
  have bg_z := bg.out.1
  go_wp2_with fail
  refine (eqS_any _ rm rm _ _ _ _ (oh.out.keep (by (repeat (first | assumption | exact Below.refl _ _ | refine Below.alloc ?_ (by first | omega | (simp; done) | (simp; omega)) _ | refine Below.setCell ?_ (by first | omega | (simp; done) | (simp; omega)) _ | refine below_drewN ?_ _)))).rd (ow.out.keep (by (repeat (first | assumption | exact Below.refl _ _ | refine Below.alloc ?_ (by first | omega | (simp; done) | (simp; omega)) _ | refine Below.setCell ?_ (by first | omega | (simp; done) | (simp; omega)) _ | refine below_drewN ?_ _)))).rd).mono ?_
  rintro e w15 ⟨rfl, hb15⟩
  clear bw_c bw_d bw_z
  clear bg_c bg_d bg_z
  have R : Below w14.heap.size w14 w15 := Below.trans (by (repeat (first | assumption | exact Below.refl _ _ | refine Below.alloc ?_ (by first | omega | (simp; done) | (simp; omega)) _ | refine Below.setCell ?_ (by first | omega | (simp; done) | (simp; omega)) _ | refine below_drewN ?_ _))) (hb15.mono (by first | exact Nat.le_refl _ | (simp; done) | (simp; omega)))
  have s15 : w14.heap.size ≤ w15.heap.size := R.size
  have K15 : Hid (Below w.heap.size w w15) := K14.out.trans (R.mono (by omega))
  replace bw : Hid (Bx w15 w2.heap.size (.int .i64 rm) (.slice A_ow rl.length c_ow)) := bw.out.keep R
  replace bg : Hid (Bx w15 w4.heap.size (.int .i64 rm) (.slice A_og rl.length c_og)) := bg.out.keep R
  replace ow : Hid (OwnB w15 w1.heap.size w2.heap.size (.slice A_ow rl.length c_ow) rl) := ow.out.keep R
  replace x3 : Hid (OwnB w15 (w2.heap.size + 1) w3.heap.size (.slice A_x3 xs3.length c_x3) (marks (1) xs3.length)) := x3.out.keep R
  replace og : Hid (OwnB w15 w3.heap.size w4.heap.size (.slice A_og rl.length c_og) (marks (1) rl.length)) := og.out.keep R
  replace y3 : Hid (OwnB w15 w12.heap.size w13.heap.size (.slice A_y3 xs3.length c_y3) xs3) := y3.out.keep R
  replace oh : Hid (OwnB w15 w13.heap.size w14.heap.size (.slice A_oh rl.length c_oh) rl) := oh.out.keep R
  have bh : Hid (Bx w15 w14.heap.size (.int .i64 rm) (.slice A_oh rl.length c_oh)) := ⟨by have := hb15.size; simp at this; omega, by rw [hb15.cell (by first | (simp; done) | (simp; omega))]; simp, by rw [hb15.cell (by first | (simp; done) | (simp; omega))]; simp⟩
  clear R hb15
  have bw_c := bw.out.2.1
  have bw_d := bw.out.2.2
  have bw_z := bw.out.1
  have bg_c := bg.out.2.1
  have bg_d := bg.out.2.2
  have bg_z := bg.out.1
  have bh_c := bh.out.2.1
  have bh_d := bh.out.2.2
  have bh_z := bh.out.1
  go_wp2_with fail
  refine (heldSB_any _ w3.heap.size w4.heap.size rm _ rl (1) (og.out.keep (by (repeat (first | assumption | exact Below.refl _ _ | refine Below.alloc ?_ (by first | omega | (simp; done) | (simp; omega)) _ | refine Below.setCell ?_ (by first | omega | (simp; done) | (simp; omega)) _ | refine below_drewN ?_ _)))) (by omega) (by omega) (by omega)).mono ?_
  rintro e w16 ⟨rfl, hb16⟩
  clear bw_c bw_d bw_z
  clear bg_c bg_d bg_z
  clear bh_c bh_d bh_z
  have R : Below w15.heap.size w15 w16 := Below.trans (by (repeat (first | assumption | exact Below.refl _ _ | refine Below.alloc ?_ (by first | omega | (simp; done) | (simp; omega)) _ | refine Below.setCell ?_ (by first | omega | (simp; done) | (simp; omega)) _ | refine below_drewN ?_ _))) (hb16.mono (by first | exact Nat.le_refl _ | (simp; done) | (simp; omega)))
  have s16 : w15.heap.size ≤ w16.heap.size := R.size
  have K16 : Hid (Below w.heap.size w w16) := K15.out.trans (R.mono (by omega))
  replace bw : Hid (Bx w16 w2.heap.size (.int .i64 rm) (.slice A_ow rl.length c_ow)) := bw.out.keep R
  replace bg : Hid (Bx w16 w4.heap.size (.int .i64 rm) (.slice A_og rl.length c_og)) := bg.out.keep R
  replace bh : Hid (Bx w16 w14.heap.size (.int .i64 rm) (.slice A_oh rl.length c_oh)) := bh.out.keep R
  replace ow : Hid (OwnB w16 w1.heap.size w2.heap.size (.slice A_ow rl.length c_ow) rl) := ow.out.keep R
  replace x3 : Hid (OwnB w16 (w2.heap.size + 1) w3.heap.size (.slice A_x3 xs3.length c_x3) (marks (1) xs3.length)) := x3.out.keep R
  replace og : Hid (OwnB w16 w3.heap.size w4.heap.size (.slice A_og rl.length c_og) (marks (1) rl.length)) := og.out.keep R
  replace y3 : Hid (OwnB w16 w12.heap.size w13.heap.size (.slice A_y3 xs3.length c_y3) xs3) := y3.out.keep R
  replace oh : Hid (OwnB w16 w13.heap.size w14.heap.size (.slice A_oh rl.length c_oh) rl) := oh.out.keep R
  clear R hb16
  have bw_c := bw.out.2.1
  have bw_d := bw.out.2.2
  have bw_z := bw.out.1
  have bg_c := bg.out.2.1
  have bg_d := bg.out.2.2
  have bg_z := bg.out.1
  have bh_c := bh.out.2.1
  have bh_d := bh.out.2.2
  have bh_z := bh.out.1
  go_wp2
  go_ret
  exact ⟨rfl, K16.out⟩


end Go.Proofs.Ytfdklbimdkaaiaa
