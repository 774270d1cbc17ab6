/- Contracts over this seat's translation. Condition: each contract's own. -/
import Derived.Test.YtglbccikdglcgaaGreatDoorB
import Derived.ProofKit
import Derived.Laws.Bits64b
import Derived.Lib.Mul64
import Derived.OpenShut
import Derived.Below
import Derived.ChangeSame
import Derived.Deep.Modes
import Derived.Lib.SmallJoins
import Derived.ChangeSlices
import Derived.WalkKit
import Derived.WalkSpells
import Derived.WalkLawsBesides
import Derived.Deep.QuietTactic
import Derived.BigQuiet
import Derived.Deep.RegionHeld3
import Derived.Deep.RegionWith
import Derived.Deep.RegionLaw
import Derived.Deep.AppendLies
import Derived.Laws.CopyOwn
import Derived.Deep.DeepCutAuto
import Derived.Deep.OwnRows
import Derived.Deep.LoopGhost
import Derived.Deep.DeepFit
import Derived.Deep.DeepMust
import Derived.Deep.Draws
import Derived.Deep.CutRange
import Derived.Maps.AppendAt
import Derived.Lib.Hide
import Derived.StillTailTactics
import Derived.Laws.MakeOwn
import Derived.Deep.Matrix
import Derived.ChangeAgain
import Derived.Lib.SplitLaws
import Derived.Lib.ParseIntB
import Derived.Lib.ItoaMem
import Derived.Lib.Join
import Derived.Lib.IndexBytes
set_option linter.unusedVariables false
open Go Go.RowKit
namespace Go.Proofs.YtglbccikdglcgaaGreatDoor
/-! ### Lists of lists in memory; what lies in an interval of blocks -/
/-- Between w and w' only blocks from lo to below hi, and new ones, may differ. -/
def Within (lo hi : Nat) (w w' : World) : Prop := w'.os = w.os ∧ w'.tape = w.tape ∧ w'.output = w.output ∧ w.heap.size ≤ w'.heap.size ∧ ∀ k, k < w.heap.size → (k < lo ∨ hi ≤ k) → w'.heap[k]? = w.heap[k]?
theorem Within.refl (lo hi : Nat) (w : World) : Within lo hi w w := ⟨rfl, rfl, rfl, Nat.le_refl _, fun _ _ _ => rfl⟩
theorem Within.trans {lo hi : Nat} {a b c : World} (h : Within lo hi a b) (h' : Within lo hi b c) : Within lo hi a c :=
  ⟨h'.1.trans h.1, h'.2.1.trans h.2.1, h'.2.2.1.trans h.2.2.1, Nat.le_trans h.2.2.2.1 h'.2.2.2.1, fun k hk hn => (h'.2.2.2.2 k (Nat.lt_of_lt_of_le hk h.2.2.2.1) hn).trans (h.2.2.2.2 k hk hn)⟩
theorem Within.of_grownBy {lo hi : Nat} {w w' : World} {r : Option Nat} (h : w.grownBy w' r) (hr : ∀ g, r = some g → lo ≤ g ∧ g < hi) : Within lo hi w w' :=
  ⟨h.os, h.tape, h.output, h.size, fun k hk hn => h.block k hk fun e => by have := hr k e.symm; omega⟩
theorem Within.behind {lo hi : Nat} {w W w' : World} (h : Below w.heap.size w W) (h' : Within lo hi W w') : Within lo hi w w' :=
  ⟨h'.1.trans h.os, h'.2.1.trans h.tape, h'.2.2.1.trans h.output, Nat.le_trans h.size h'.2.2.2.1, fun k hk hn => (h'.2.2.2.2 k (Nat.lt_of_lt_of_le hk h.size) hn).trans (h.block k hk)⟩
theorem Within.below {lo hi B : Nat} {w0 w w' : World} (h0 : Below B w0 w) (hB : B ≤ w.heap.size) (h : Within lo hi w w') (hl : B ≤ lo) : Below B w0 w' :=
  ⟨h.1.trans h0.os, h.2.1.trans h0.tape, h.2.2.1.trans h0.output, Nat.le_trans h0.size h.2.2.2.1, fun k hk => (h.2.2.2.2 k (by omega) (.inl (by omega))).trans (h0.block k hk)⟩
theorem Bx.within {lo hi : Nat} {w w' : World} {b : Nat} {x y : Value} (h : Bx w b x y) (R : Within lo hi w w') (hne : b < lo ∨ hi ≤ b) : Bx w' b x y := by
  have e : w'.heap[b]? = w.heap[b]? := R.2.2.2.2 b h.1 hne
  exact ⟨Nat.lt_of_lt_of_le h.1 R.2.2.2.1, (World.cell?_of_block (a := ⟨b, 0, none⟩) e).trans h.2.1, (World.cell?_of_block (a := ⟨b, 1, none⟩) e).trans h.2.2⟩
/-- A list of int64 in a block from lo to below hi. -/
def OwnB (w : World) (lo hi : Nat) (v : Value) (xs : List Int) : Prop := OwnI w lo v xs ∧ ∀ g, v.ownBlock = some g → g < hi
theorem OwnI.toB {w : World} {lo : Nat} {v : Value} {xs : List Int} (h : OwnI w lo v xs) : OwnB w lo w.heap.size v xs := ⟨h, fun _ hg => (h.block_ge hg).2⟩
theorem OwnB.keep {w w' : World} {lo hi : Nat} {v : Value} {xs : List Int} (h : OwnB w lo hi v xs) (R : Below w.heap.size w w') : OwnB w' lo hi v xs := ⟨h.1.keep R (Nat.le_refl _), h.2⟩
theorem OwnB.within {w w' : World} {lo hi lo' hi' : Nat} {v : Value} {xs : List Int} (h : OwnB w lo hi v xs) (R : Within lo' hi' w w') (hd : hi ≤ lo' ∨ hi' ≤ lo) : OwnB w' lo hi v xs :=
  ⟨h.1.of_block fun g hg => R.2.2.2.2 g (h.1.block_ge hg).2 (by have := h.1.block_ge hg; have := h.2 g hg; omega), h.2⟩
theorem OwnB.rd {w : World} {lo hi : Nat} {v : Value} {xs : List Int} (h : OwnB w lo hi v xs) : RdI w v xs := h.1.rd
theorem OwnB.mono {w : World} {lo lo' hi hi' : Nat} {v : Value} {xs : List Int} (h : OwnB w lo hi v xs) (h1 : lo' ≤ lo) (h2 : hi ≤ hi') : OwnB w lo' hi' v xs := ⟨h.1.mono h1, fun g hg => Nat.lt_of_lt_of_le (h.2 g hg) h2⟩

/-- A list of lists of int64: the outer block and the rows' blocks lie from lo to below hi, no two of them the same. -/
def OwnP (w : World) (lo hi : Nat) (v : Value) (xss : List (List Int)) : Prop :=
  ∃ us : List Value, us.length = xss.length ∧ w.ownsRow lo 24 1 v us.length us ∧ (∀ g, v.ownBlock = some g → g < hi) ∧
    (∀ k, k < us.length → OwnI w lo (us.getD k (.slice none 0 0)) (xss.getD k []) ∧ ∀ g, (us.getD k (.slice none 0 0)).ownBlock = some g → g < hi ∧ v.ownBlock ≠ some g) ∧
    ∀ i j g, i < us.length → j < us.length → i ≠ j → (us.getD i (.slice none 0 0)).ownBlock = some g → (us.getD j (.slice none 0 0)).ownBlock ≠ some g
theorem ownsRow_of_block {w w' : World} {B : Nat} {t : TypeId} {sz : Nat} {v : Value} {n : Nat} {us : List Value} (h : w.ownsRow B t sz v n us) (hb : ∀ g, v.ownBlock = some g → w'.heap[g]? = w.heap[g]?) : w'.ownsRow B t sz v n us := by
  rcases h.2 with h0 | ⟨g, cap, cur, h1, h2, h3, h4⟩
  · exact ⟨h.1, .inl h0⟩
  · exact ⟨h.1, .inr ⟨g, cap, cur, h1, h2, (hb g (by rw [h1]; rfl)).trans h3, h4⟩⟩
theorem ownsRow_block_ge {w : World} {B : Nat} {t : TypeId} {sz : Nat} {v : Value} {n g : Nat} {us : List Value} (h : w.ownsRow B t sz v n us) (hg : v.ownBlock = some g) : B ≤ g ∧ g < w.heap.size := by
  rcases h.2 with ⟨rfl, _⟩ | ⟨g', cap, cur, rfl, h2, h3, _⟩
  · simp [Value.ownBlock] at hg
  · have : g' = g := by simpa [Value.ownBlock] using hg
    subst this
    exact ⟨h2, lt_of_block h3⟩
theorem OwnP.of_block {w w' : World} {lo hi : Nat} {v : Value} {xss : List (List Int)} (h : OwnP w lo hi v xss) (hb : ∀ k, k < w.heap.size → lo ≤ k → k < hi → w'.heap[k]? = w.heap[k]?) : OwnP w' lo hi v xss := by
  obtain ⟨us, h1, h2, h3, h4, h5⟩ := h
  refine ⟨us, h1, ownsRow_of_block h2 fun g hg => ?_, h3, fun k hk => ⟨(h4 k hk).1.of_block fun g hg => ?_, (h4 k hk).2⟩, h5⟩
  · have := ownsRow_block_ge h2 hg
    exact hb g this.2 this.1 (h3 g hg)
  · have := (h4 k hk).1.block_ge hg
    exact hb g this.2 this.1 ((h4 k hk).2 g hg).1
theorem OwnP.keep {w w' : World} {lo hi : Nat} {v : Value} {xss : List (List Int)} (h : OwnP w lo hi v xss) (R : Below w.heap.size w w') : OwnP w' lo hi v xss := h.of_block fun k hk _ _ => R.block k hk
theorem OwnP.within {w w' : World} {lo hi lo' hi' : Nat} {v : Value} {xss : List (List Int)} (h : OwnP w lo hi v xss) (R : Within lo' hi' w w') (hd : hi ≤ lo' ∨ hi' ≤ lo) : OwnP w' lo hi v xss :=
  h.of_block fun k hk h1 h2 => R.2.2.2.2 k hk (by omega)
theorem OwnP.drewN {w : World} {lo hi : Nat} {v : Value} {xss : List (List Int)} (h : OwnP w lo hi v xss) (n : Nat) : OwnP (w.drewN n) lo hi v xss := h
theorem OwnP.mono {w : World} {lo lo' hi hi' : Nat} {v : Value} {xss : List (List Int)} (h : OwnP w lo hi v xss) (h1 : lo' ≤ lo) (h2 : hi ≤ hi') : OwnP w lo' hi' v xss := by
  obtain ⟨us, k1, k2, k3, k4, k5⟩ := h
  refine ⟨us, k1, ?_, fun g hg => Nat.lt_of_lt_of_le (k3 g hg) h2, fun k hk => ⟨(k4 k hk).1.mono h1, fun g hg => ⟨Nat.lt_of_lt_of_le ((k4 k hk).2 g hg).1 h2, ((k4 k hk).2 g hg).2⟩⟩, k5⟩
  rcases k2.2 with h0 | ⟨g, cap, cur, e1, e2, e3⟩
  · exact ⟨k2.1, .inl h0⟩
  · exact ⟨k2.1, .inr ⟨g, cap, cur, e1, by omega, e3⟩⟩
theorem OwnP.form {w : World} {lo hi : Nat} {v : Value} {xss : List (List Int)} (h : OwnP w lo hi v xss) : ∃ A c, v = .slice A xss.length c ∧ xss.length ≤ c ∧ c ≤ maxLen := by
  obtain ⟨us, h1, h2, _⟩ := h
  rcases h2.2 with ⟨rfl, h0⟩ | ⟨g, cap, cur, rfl, _, _, e1, e2, _⟩
  · exact ⟨none, 0, by rw [← h1, h0], by omega, by unfold maxLen; omega⟩
  · exact ⟨_, cap, by rw [← h1], by omega, e2⟩
/-- Row k. -/
theorem OwnP.row {w : World} {lo hi : Nat} {v : Value} {xss : List (List Int)} (h : OwnP w lo hi v xss) {k : Nat} (hk : k < xss.length) :
    ∃ g c A c', v = .slice (some ⟨g, 0, none⟩) xss.length c ∧ lo ≤ g ∧ g < hi ∧ g < w.heap.size ∧ w.cell? ⟨g, k, none⟩ = some (.slice A (xss.getD k []).length c') ∧ w.frozen? ⟨g, k, none⟩ = false ∧
      OwnI w lo (.slice A (xss.getD k []).length c') (xss.getD k []) ∧ (∀ b, (Value.slice A (xss.getD k []).length c').ownBlock = some b → b < hi ∧ b ≠ g) ∧
      ∀ w' ys, OwnI w' lo (.slice A (xss.getD k []).length c') ys → w.grownBy w' (Value.slice A (xss.getD k []).length c').ownBlock → OwnP w' lo hi v (xss.set k ys) := by
  obtain ⟨us, h1, h2, h3, h4, h5⟩ := h
  rcases h2.2 with ⟨rfl, h0⟩ | ⟨g, cap, cur, e0, e1, e2, e3, e4, e5, e6⟩
  · omega
  · have hku : k < us.length := by omega
    obtain ⟨A, c', hu⟩ := (h4 k hku).1.form
    have hcell : w.cell? ⟨g, k, none⟩ = some (us.getD k (.slice none 0 0)) := by
      rw [cell_of_row w g k cur _ (0, 0) e2]
      have e : cur.toList[k]? = us[k]? := by rw [← e6, List.getElem?_take, if_pos (by omega)]
      simp only [Array.getElem?_toList] at e
      rw [e, List.getD_eq_getElem?_getD, List.getElem?_eq_getElem hku]
      rfl
    refine ⟨g, cap, A, c', by rw [e0, h1], e1, h3 g (by rw [e0]; rfl), lt_of_block e2, by rw [hcell, hu], by simp [World.frozen?, e2], by rw [← hu]; exact (h4 k hku).1, fun b hb => ?_, fun w' ys hw hg => ?_⟩
    · rw [← hu] at hb
      have := (h4 k hku).2 b hb
      refine ⟨this.1, fun e => this.2 ?_⟩
      rw [e0, e]; rfl
    · rw [← hu] at hw hg
      refine ⟨us, by simp [h1], ownsRow_of_block h2 fun b hb => ?_, h3, fun j hj => ?_, h5⟩
      · refine hg.block b (ownsRow_block_ge h2 hb).2 fun e => ?_
        exact ((h4 k hku).2 b e.symm).2 hb
      · by_cases hjk : j = k
        · subst hjk
          rw [show (xss.set j ys).getD j [] = ys by simp [List.getD_eq_getElem?_getD, hk]]
          exact ⟨hw, (h4 j hj).2⟩
        · rw [show (xss.set k ys).getD j [] = xss.getD j [] by simp [List.getD_eq_getElem?_getD, Ne.symm hjk]]
          refine ⟨(h4 j hj).1.of_block fun b hb => ?_, (h4 j hj).2⟩
          refine hg.block b ((h4 j hj).1.block_ge hb).2 fun e => ?_
          exact h5 j k b hj hku hjk hb e.symm

/-! ### Lists of lists that are only read; the laws' comparisons and marks -/
def rowA (xss : List (List Int)) (k : Nat) : List Int := xss.getD k []
/-- The slice value v reads as the lists xss. -/
def RdP (w : World) (v : Value) (xss : List (List Int)) : Prop :=
  ∃ A c, v = .slice A xss.length c ∧ xss.length ≤ c ∧ c ≤ maxLen ∧ ∀ k, k < xss.length → ∃ b off u, A = some ⟨b, off, none⟩ ∧ b < w.heap.size ∧ w.cell? ⟨b, off + k, none⟩ = some u ∧ RdI w u (xss.getD k [])
theorem RdP.below {w w' : World} {v : Value} {xss : List (List Int)} (h : RdP w v xss) (hb : Below w.heap.size w w') : RdP w' v xss := by
  obtain ⟨A, c, h1, h2, h3, h4⟩ := h
  refine ⟨A, c, h1, h2, h3, fun k hk => ?_⟩
  obtain ⟨b, off, u, h5, h6, h7, h8⟩ := h4 k hk
  exact ⟨b, off, u, h5, by have := hb.size; omega, (hb.cell (p := ⟨b, off + k, none⟩) h6).trans h7, h8.below hb⟩
theorem RdP.form {w : World} {v : Value} {xss : List (List Int)} (h : RdP w v xss) : ∃ A c, v = .slice A xss.length c := by
  obtain ⟨A, c, h1, _⟩ := h
  exact ⟨A, c, h1⟩
theorem OwnP.rd {w : World} {lo hi : Nat} {v : Value} {xss : List (List Int)} (h : OwnP w lo hi v xss) : RdP w v xss := by
  obtain ⟨A, c, rfl, h1, h2⟩ := h.form
  refine ⟨A, c, rfl, h1, h2, fun k hk => ?_⟩
  obtain ⟨g, c2, A2, c', e, _, _, h5, h6, _, h7, _⟩ := h.row hk
  simp only [Value.slice.injEq] at e
  exact ⟨g, 0, _, e.1, h5, by rw [Nat.zero_add]; exact h6, h7.rd⟩
def cntP : List (List Int) → Nat
  | [] => 0
  | r :: rs => r.length + cntP rs
theorem cntP_append (a b : List (List Int)) : cntP (a ++ b) = cntP a + cntP b := by
  induction a with
  | nil => simp [cntP]
  | cons r rs ih => simp [cntP, ih]; omega
theorem cntP_take_succ (xss : List (List Int)) (k : Nat) (hk : k < xss.length) : cntP (xss.take (k + 1)) = cntP (xss.take k) + (xss.getD k []).length := by
  rw [List.take_succ_eq_append_getElem hk, cntP_append, List.getD_eq_getElem?_getD, List.getElem?_eq_getElem hk]
  simp [cntP]
theorem cntP_take_le (xss : List (List Int)) (k : Nat) : cntP (xss.take k) ≤ cntP xss := by
  have := cntP_append (xss.take k) (xss.drop k)
  rw [List.take_append_drop] at this
  omega
def mkP : Int → List (List Int) → List (List Int)
  | _, [] => []
  | q, r :: rs => marks q r.length :: mkP (q + r.length) rs
theorem length_mkP (q : Int) (xss : List (List Int)) : (mkP q xss).length = xss.length := by
  induction xss generalizing q with
  | nil => rfl
  | cons r rs ih => simp [mkP, ih]
theorem mkP_append (q : Int) (a b : List (List Int)) : mkP q (a ++ b) = mkP q a ++ mkP (q + cntP a) b := by
  induction a generalizing q with
  | nil => simp [mkP, cntP]
  | cons r rs ih =>
    simp only [List.cons_append, mkP, ih, cntP]
    congr 3
    omega
theorem mkP_step (q : Int) (xss : List (List Int)) (k : Nat) (hk : k < xss.length) :
    (mkP q (xss.take k) ++ xss.drop k).set k (marks (q + cntP (xss.take k)) (xss.getD k []).length) = mkP q (xss.take (k + 1)) ++ xss.drop (k + 1) := by
  have h1 : (xss.take k).length = k := by simp; omega
  rw [List.set_append_right _ _ (by rw [length_mkP]; omega), length_mkP, h1, Nat.sub_self, List.drop_eq_getElem_cons hk, List.set_cons_zero, List.take_succ_eq_append_getElem hk, mkP_append, List.append_assoc, List.getD_eq_getElem?_getD, List.getElem?_eq_getElem hk]
  rfl
theorem getD_mkP (q : Int) (xss : List (List Int)) (k : Nat) (hk : k < xss.length) : (mkP q xss).getD k [] = marks (q + cntP (xss.take k)) (xss.getD k []).length := by
  have h := mkP_append q (xss.take k) (xss.drop k)
  rw [List.take_append_drop] at h
  have h1 : (mkP q (xss.take k)).length = k := by rw [length_mkP]; simp; omega
  rw [h, List.getD_eq_getElem?_getD, List.getElem?_append_right (by omega), h1, Nat.sub_self, List.drop_eq_getElem_cons hk, List.getD_eq_getElem?_getD, List.getElem?_eq_getElem hk]
  rfl
theorem getD_mix (q : Int) (xss : List (List Int)) (k : Nat) (hk : k < xss.length) : (mkP q (xss.take k) ++ xss.drop k).getD k [] = xss.getD k [] := by
  have h1 : (mkP q (xss.take k)).length = k := by rw [length_mkP]; simp; omega
  rw [List.getD_eq_getElem?_getD, List.getElem?_append_right (by omega), h1, Nat.sub_self, List.drop_eq_getElem_cons hk, List.getD_eq_getElem?_getD, List.getElem?_eq_getElem hk]
  rfl
theorem length_mix (q : Int) (xss : List (List Int)) (k : Nat) (hk : k ≤ xss.length) : (mkP q (xss.take k) ++ xss.drop k).length = xss.length := by
  rw [List.length_append, length_mkP, List.length_take, List.length_drop]; omega
def MarkedQ (w : World) (lo hi : Nat) (v : Value) (q : Int) (xss : List (List Int)) (e : Ending) (w' : World) : Prop := e = .returned (.int .i64 (q + (cntP xss : Int))) ∧ OwnP w' lo hi v (mkP q xss) ∧ Within lo hi w w'

/-! ### append of a row -/
theorem T.infoRow : (Tryz.prog.info? 24).map (fun i => (i.zero, i.size, i.bytes)) = some (some (.slice none 0 0), 1, 24) := by kernel_rfl
theorem getD_append_lt {us : List Value} {u : Value} {k : Nat} (h : k < us.length) : (us ++ [u]).getD k (.slice none 0 0) = us.getD k (.slice none 0 0) := by
  rw [List.getD_eq_getElem?_getD, List.getElem?_append_left h, ← List.getD_eq_getElem?_getD]
theorem getD_append_eq {us : List Value} {u : Value} : (us ++ [u]).getD us.length (.slice none 0 0) = u := by
  rw [List.getD_eq_getElem?_getD, List.getElem?_append_right (Nat.le_refl _)]; simp
theorem getDR_append_lt {xss : List (List Int)} {y : List Int} {k : Nat} (h : k < xss.length) : (xss ++ [y]).getD k [] = xss.getD k [] := by
  rw [List.getD_eq_getElem?_getD, List.getElem?_append_left h, ← List.getD_eq_getElem?_getD]
theorem getDR_append_eq {xss : List (List Int)} {y : List Int} {n : Nat} (h : xss.length = n) : (xss ++ [y]).getD n [] = y := by
  rw [List.getD_eq_getElem?_getD, List.getElem?_append_right (by omega), h]; simp
/-- A row more. -/
theorem OwnP.push {W w' : World} {lo hi : Nat} {v v' u : Value} {us : List Value} {xss : List (List Int)} {ys : List Int}
    (hl : us.length = xss.length) (h2 : W.ownsRow lo 24 1 v us.length us) (h3 : ∀ g, v.ownBlock = some g → g < hi)
    (h4 : ∀ k, k < us.length → OwnI W lo (us.getD k (.slice none 0 0)) (xss.getD k []) ∧ ∀ g, (us.getD k (.slice none 0 0)).ownBlock = some g → g < hi ∧ v.ownBlock ≠ some g)
    (h5 : ∀ i j g, i < us.length → j < us.length → i ≠ j → (us.getD i (.slice none 0 0)).ownBlock = some g → (us.getD j (.slice none 0 0)).ownBlock ≠ some g)
    (hhi : hi ≤ W.heap.size) (hu : OwnI W lo u ys) (hu2 : ∀ g, u.ownBlock = some g → hi ≤ g)
    (n2 : w'.ownsRow lo 24 1 v' (us.length + 1) (us ++ [u])) (hg : W.grownBy w' v.ownBlock) (hb : v'.ownBlock = v.ownBlock ∨ v'.ownBlock = some W.heap.size) :
    OwnP w' lo w'.heap.size v' (xss ++ [ys]) := by
  have hz := hg.size
  refine ⟨us ++ [u], by simp [hl], by simpa using n2, fun g hg' => (ownsRow_block_ge n2 hg').2, fun k hk => ?_, fun i j g hi1 hj1 hij hgi => ?_⟩
  · rcases Nat.lt_or_ge k us.length with h | h
    · rw [getD_append_lt h, getDR_append_lt (by omega)]
      refine ⟨(h4 k h).1.of_block fun g hg' => hg.block g ((h4 k h).1.block_ge hg').2 fun e => ((h4 k h).2 g hg').2 e.symm, fun g hg' => ?_⟩
      have q := (h4 k h).2 g hg'
      refine ⟨by omega, fun e => ?_⟩
      rcases hb with hb | hb
      · exact q.2 (hb.symm.trans e)
      · rw [hb] at e
        have : W.heap.size = g := by simpa using e
        omega
    · have hk' : k = us.length := by simp at hk; omega
      subst hk'
      rw [getD_append_eq, getDR_append_eq hl.symm]
      refine ⟨hu.of_block fun g hg' => hg.block g (hu.block_ge hg').2 fun e => ?_, fun g hg' => ?_⟩
      · have := h3 g e.symm
        have := hu2 g hg'
        omega
      · have q := hu.block_ge hg'
        have q2 := hu2 g hg'
        refine ⟨by omega, fun e => ?_⟩
        rcases hb with hb | hb
        · have := h3 g (hb.symm.trans e)
          omega
        · rw [hb] at e
          have : W.heap.size = g := by simpa using e
          omega
  · simp only [List.length_append, List.length_singleton] at hi1 hj1
    rcases Nat.lt_or_ge i us.length with h | h <;> rcases Nat.lt_or_ge j us.length with h' | h'
    · rw [getD_append_lt h] at hgi
      rw [getD_append_lt h']
      exact h5 i j g h h' hij hgi
    · have : j = us.length := by omega
      subst this
      rw [getD_append_lt h] at hgi
      rw [getD_append_eq]
      intro e
      have := ((h4 i h).2 g hgi).1
      have := hu2 g e
      omega
    · have : i = us.length := by omega
      subst this
      rw [getD_append_eq] at hgi
      rw [getD_append_lt h']
      intro e
      have := ((h4 j h').2 g e).1
      have := hu2 g hgi
      omega
    · omega
theorem appendP {W : World} {ops : Array Oper} {rest : List Oper} {o : Oper} {a : Act} {Q : Exit → Act → World → Prop} (s x : Operand) (lo hi : Nat) (v u : Value) (xss : List (List Int)) (ys : List Int) (b : Nat)
    (hgd : o.guard = none) (ho : o.op = .call { callee := .builtin .append, args := #[s, x], argTypes := #[34, 34] })
    (hs : a.eval s = v) (hx : a.eval x = .slice (some ⟨b, 0, none⟩) 1 1) (hv : OwnP W lo hi v xss) (hhi : hi ≤ W.heap.size) (hu : OwnI W lo u ys) (hu2 : ∀ g, u.ownBlock = some g → hi ≤ g)
    (hb : W.heap[b]? = some (.cells #[u] 24 (0, 0))) (hl : xss.length ≤ 1000000000000) (hB : lo ≤ W.heap.size)
    (h : ∀ A c w', OwnP w' lo w'.heap.size (.slice A (xss.length + 1) c) (xss ++ [ys]) → W.grownBy w' v.ownBlock → wpList Tryz.prog ops Q rest (a.put o.dst (.slice A (xss.length + 1) c)) w') :
    wpList Tryz.prog ops Q (o :: rest) a W := by
  obtain ⟨i0, hi0, hz0, hz1, hz2⟩ := info_parts T.infoRow
  obtain ⟨us, h1, h2, h3, h4, h5⟩ := hv
  obtain ⟨Au, cu, eu⟩ := hu.form
  refine wpList_append_own_at W hgd s x 34 ho lo 24 i0 (.slice none 0 0) 1 24 Tryz.underlying34 hi0 hz0 hz1 hz2 rfl (by decide) v us.length us hs h2 ⟨b, 0, none⟩ 1 1 [u] hx rfl (World.news_of_block (cs := #[u]) hb) (fun q hq => by simp at hq; subst hq; subst eu; rfl) (by unfold maxLen; omega) (by omega) hB ?_
  intro v' w' n2 hg _ hbl
  have ho' := OwnP.push h1 h2 h3 h4 h5 hhi hu hu2 n2 hg hbl
  obtain ⟨A, c, e, _⟩ := ho'.form
  rw [show (xss ++ [ys]).length = xss.length + 1 by simp] at e
  subst e
  exact h A c w' ho' hg
def RetQI (w : World) (r : List (List Int) × Int) (e : Ending) (w' : World) : Prop := ∃ A c, e = .returned (.tuple #[.slice A r.1.length c, .int .i64 r.2]) ∧ OwnP w' w.heap.size w'.heap.size (.slice A r.1.length c) r.1 ∧ Below w.heap.size w w'
theorem RetQI.of {w : World} {r r' : List (List Int) × Int} {e : Ending} {w' : World} (h : RetQI w r e w') (he : Hid (r = r')) : RetQI w r' e w' := by rw [← he.out]; exact h
theorem OwnP.nil_ (w : World) (lo hi : Nat) : OwnP w lo hi (.slice none 0 0) [] := ⟨[], rfl, World.ownsRow_nil _ _ _ _, fun g hg => by simp [Value.ownBlock] at hg, fun k hk => by simp at hk, fun i j g hi1 => by simp at hi1⟩
theorem OwnP.lit0 (w : World) {lo : Nat} (h : lo ≤ w.heap.size) : OwnP (w.alloc (.cells #[] 24)) lo (w.heap.size + 1) (.slice (some ⟨w.heap.size, 0, none⟩) 0 0) [] :=
  ⟨[], rfl, World.ownsRow_lit w #[] 0 h (by unfold maxLen; omega) rfl, fun g hg => by simp [Value.ownBlock] at hg; omega, fun k hk => by simp at hk, fun i j g hi1 => by simp at hi1⟩
/-! ### Marks and held marks, blocks in intervals -/
/-- How much a list of lists takes. -/
def szP (xss : List (List Int)) : Nat := xss.length + cntP xss
theorem cntP_le_szP (xss : List (List Int)) : cntP xss ≤ szP xss := by unfold szP; omega
theorem length_le_szP (xss : List (List Int)) : xss.length ≤ szP xss := by unfold szP; omega

/-! ### Boxes of a function's own -/
/-- A box of two cells that may be written. -/
def Bf (w : World) (b : Nat) (x y : Value) : Prop := Bx w b x y ∧ w.frozen? ⟨b, 0, none⟩ = false ∧ w.frozen? ⟨b, 1, none⟩ = false
theorem Bf.keep {w w' : World} {b : Nat} {x y : Value} (h : Bf w b x y) (R : Below w.heap.size w w') : Bf w' b x y :=
  ⟨h.1.keep R, (R.frozen (p := ⟨b, 0, none⟩) h.1.1).trans h.2.1, (R.frozen (p := ⟨b, 1, none⟩) h.1.1).trans h.2.2⟩
theorem Bf.drewN {w : World} {b : Nat} {x y : Value} (h : Bf w b x y) (n : Nat) : Bf (w.drewN n) b x y := h
theorem Bf.alloc1 (w : World) (x y : Value) (t : TypeId) : Bf (w.alloc (.cells #[x, y] t)) w.heap.size x y := ⟨⟨by simp, by simp, by simp⟩, by simp, by simp⟩
theorem below_alloc1 (w : World) (o : Obj) : Below w.heap.size w (w.alloc o) := (Below.refl _ _).alloc (Nat.le_refl _) _
theorem Bf.first1 {w w1 : World} {x y : Value} {t : TypeId} (hb : Below (w.alloc (.cells #[x, y] t)).heap.size (w.alloc (.cells #[x, y] t)) w1) : Bf w1 w.heap.size x y ∧ Below w.heap.size w w1 :=
  ⟨(Bf.alloc1 w x y t).keep hb, (below_alloc1 w _).trans (hb.mono (by simp))⟩
theorem Bf.first2 {w w1 : World} {x y x' y' : Value} {t t' : TypeId} (hb : Below ((w.alloc (.cells #[x, y] t)).alloc (.cells #[x', y'] t')).heap.size ((w.alloc (.cells #[x, y] t)).alloc (.cells #[x', y'] t')) w1) :
    Bf w1 w.heap.size x y ∧ Bf w1 (w.heap.size + 1) x' y' ∧ Below w.heap.size w w1 :=
  ⟨((Bf.alloc1 w x y t).keep (below_alloc1 _ _)).keep hb, by have := (Bf.alloc1 (w.alloc (.cells #[x, y] t)) x' y' t').keep hb; simpa using this, ((below_alloc1 w _).trans ((below_alloc1 (w.alloc (.cells #[x, y] t)) _).mono (by simp))).trans (hb.mono (by simp; omega))⟩

end Go.Proofs.YtglbccikdglcgaaGreatDoor
