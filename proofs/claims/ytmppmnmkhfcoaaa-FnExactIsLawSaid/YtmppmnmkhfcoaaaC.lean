/- Contracts over this seat's translation. Condition: each contract's own. -/
import Derived.Test.YtmppmnmkhfcoaaaB
import Derived.ProofKit
import Derived.Laws.Bits64b
import Derived.Lib.Mul64
import Derived.OpenShut
import Derived.Below
import Derived.ChangeSame
import Derived.Deep.Modes
import Derived.Lib.SmallJoins
import Derived.ChangeSlices
import Derived.WalkKit
import Derived.WalkSpells
import Derived.WalkLawsBesides
import Derived.Deep.QuietTactic
import Derived.BigQuiet
import Derived.Deep.RegionHeld3
import Derived.Deep.RegionWith
import Derived.Deep.RegionLaw
import Derived.Deep.AppendLies
import Derived.Laws.CopyOwn
import Derived.Deep.DeepCutAuto
import Derived.Deep.OwnRows
import Derived.Deep.LoopGhost
import Derived.Deep.DeepFit
import Derived.Deep.DeepMust
import Derived.Deep.Draws
import Derived.Deep.CutRange
import Derived.Maps.AppendAt
import Derived.Lib.Hide
import Derived.StillTailTactics
import Derived.Laws.MakeOwn
import Derived.Deep.Matrix
set_option linter.unusedVariables false
open Go Go.RowKit
namespace Go.Proofs.Ytmppmnmkhfcoaaa
/-! ### Lists of lists in memory; what lies in an interval of blocks -/
/-- Between w and w' only blocks from lo to below hi, and new ones, may differ. -/
def Within (lo hi : Nat) (w w' : World) : Prop := w'.os = w.os ∧ w'.tape = w.tape ∧ w'.output = w.output ∧ w.heap.size ≤ w'.heap.size ∧ ∀ k, k < w.heap.size → (k < lo ∨ hi ≤ k) → w'.heap[k]? = w.heap[k]?
theorem Within.refl (lo hi : Nat) (w : World) : Within lo hi w w := ⟨rfl, rfl, rfl, Nat.le_refl _, fun _ _ _ => rfl⟩
theorem Within.trans {lo hi : Nat} {a b c : World} (h : Within lo hi a b) (h' : Within lo hi b c) : Within lo hi a c :=
  ⟨h'.1.trans h.1, h'.2.1.trans h.2.1, h'.2.2.1.trans h.2.2.1, Nat.le_trans h.2.2.2.1 h'.2.2.2.1, fun k hk hn => (h'.2.2.2.2 k (Nat.lt_of_lt_of_le hk h.2.2.2.1) hn).trans (h.2.2.2.2 k hk hn)⟩
theorem Within.of_grownBy {lo hi : Nat} {w w' : World} {r : Option Nat} (h : w.grownBy w' r) (hr : ∀ g, r = some g → lo ≤ g ∧ g < hi) : Within lo hi w w' :=
  ⟨h.os, h.tape, h.output, h.size, fun k hk hn => h.block k hk fun e => by have := hr k e.symm; omega⟩
theorem Within.behind {lo hi : Nat} {w W w' : World} (h : Below w.heap.size w W) (h' : Within lo hi W w') : Within lo hi w w' :=
  ⟨h'.1.trans h.os, h'.2.1.trans h.tape, h'.2.2.1.trans h.output, Nat.le_trans h.size h'.2.2.2.1, fun k hk hn => (h'.2.2.2.2 k (Nat.lt_of_lt_of_le hk h.size) hn).trans (h.block k hk)⟩
theorem Within.below {lo hi B : Nat} {w0 w w' : World} (h0 : Below B w0 w) (hB : B ≤ w.heap.size) (h : Within lo hi w w') (hl : B ≤ lo) : Below B w0 w' :=
  ⟨h.1.trans h0.os, h.2.1.trans h0.tape, h.2.2.1.trans h0.output, Nat.le_trans h0.size h.2.2.2.1, fun k hk => (h.2.2.2.2 k (by omega) (.inl (by omega))).trans (h0.block k hk)⟩
theorem Bx.within {lo hi : Nat} {w w' : World} {b : Nat} {x y : Value} (h : Bx w b x y) (R : Within lo hi w w') (hne : b < lo ∨ hi ≤ b) : Bx w' b x y := by
  have e : w'.heap[b]? = w.heap[b]? := R.2.2.2.2 b h.1 hne
  exact ⟨Nat.lt_of_lt_of_le h.1 R.2.2.2.1, (World.cell?_of_block (a := ⟨b, 0, none⟩) e).trans h.2.1, (World.cell?_of_block (a := ⟨b, 1, none⟩) e).trans h.2.2⟩
/-- A list of int64 in a block from lo to below hi. -/
def OwnB (w : World) (lo hi : Nat) (v : Value) (xs : List Int) : Prop := OwnI w lo v xs ∧ ∀ g, v.ownBlock = some g → g < hi
theorem OwnI.toB {w : World} {lo : Nat} {v : Value} {xs : List Int} (h : OwnI w lo v xs) : OwnB w lo w.heap.size v xs := ⟨h, fun _ hg => (h.block_ge hg).2⟩
theorem OwnB.keep {w w' : World} {lo hi : Nat} {v : Value} {xs : List Int} (h : OwnB w lo hi v xs) (R : Below w.heap.size w w') : OwnB w' lo hi v xs := ⟨h.1.keep R (Nat.le_refl _), h.2⟩
theorem OwnB.within {w w' : World} {lo hi lo' hi' : Nat} {v : Value} {xs : List Int} (h : OwnB w lo hi v xs) (R : Within lo' hi' w w') (hd : hi ≤ lo' ∨ hi' ≤ lo) : OwnB w' lo hi v xs :=
  ⟨h.1.of_block fun g hg => R.2.2.2.2 g (h.1.block_ge hg).2 (by have := h.1.block_ge hg; have := h.2 g hg; omega), h.2⟩
theorem OwnB.rd {w : World} {lo hi : Nat} {v : Value} {xs : List Int} (h : OwnB w lo hi v xs) : RdI w v xs := h.1.rd
theorem OwnB.mono {w : World} {lo lo' hi hi' : Nat} {v : Value} {xs : List Int} (h : OwnB w lo hi v xs) (h1 : lo' ≤ lo) (h2 : hi ≤ hi') : OwnB w lo' hi' v xs := ⟨h.1.mono h1, fun g hg => Nat.lt_of_lt_of_le (h.2 g hg) h2⟩

/-- A list of lists of int64: the outer block and the rows' blocks lie from lo to below hi, no two of them the same. -/
def OwnP (w : World) (lo hi : Nat) (v : Value) (xss : List (List Int)) : Prop :=
  ∃ us : List Value, us.length = xss.length ∧ w.ownsRow lo 45 1 v us.length us ∧ (∀ g, v.ownBlock = some g → g < hi) ∧
    (∀ k, k < us.length → OwnI w lo (us.getD k (.slice none 0 0)) (xss.getD k []) ∧ ∀ g, (us.getD k (.slice none 0 0)).ownBlock = some g → g < hi ∧ v.ownBlock ≠ some g) ∧
    ∀ i j g, i < us.length → j < us.length → i ≠ j → (us.getD i (.slice none 0 0)).ownBlock = some g → (us.getD j (.slice none 0 0)).ownBlock ≠ some g
theorem ownsRow_of_block {w w' : World} {B : Nat} {t : TypeId} {sz : Nat} {v : Value} {n : Nat} {us : List Value} (h : w.ownsRow B t sz v n us) (hb : ∀ g, v.ownBlock = some g → w'.heap[g]? = w.heap[g]?) : w'.ownsRow B t sz v n us := by
  rcases h.2 with h0 | ⟨g, cap, cur, h1, h2, h3, h4⟩
  · exact ⟨h.1, .inl h0⟩
  · exact ⟨h.1, .inr ⟨g, cap, cur, h1, h2, (hb g (by rw [h1]; rfl)).trans h3, h4⟩⟩
theorem ownsRow_block_ge {w : World} {B : Nat} {t : TypeId} {sz : Nat} {v : Value} {n g : Nat} {us : List Value} (h : w.ownsRow B t sz v n us) (hg : v.ownBlock = some g) : B ≤ g ∧ g < w.heap.size := by
  rcases h.2 with ⟨rfl, _⟩ | ⟨g', cap, cur, rfl, h2, h3, _⟩
  · simp [Value.ownBlock] at hg
  · have : g' = g := by simpa [Value.ownBlock] using hg
    subst this
    exact ⟨h2, lt_of_block h3⟩
theorem OwnP.of_block {w w' : World} {lo hi : Nat} {v : Value} {xss : List (List Int)} (h : OwnP w lo hi v xss) (hb : ∀ k, k < w.heap.size → lo ≤ k → k < hi → w'.heap[k]? = w.heap[k]?) : OwnP w' lo hi v xss := by
  obtain ⟨us, h1, h2, h3, h4, h5⟩ := h
  refine ⟨us, h1, ownsRow_of_block h2 fun g hg => ?_, h3, fun k hk => ⟨(h4 k hk).1.of_block fun g hg => ?_, (h4 k hk).2⟩, h5⟩
  · have := ownsRow_block_ge h2 hg
    exact hb g this.2 this.1 (h3 g hg)
  · have := (h4 k hk).1.block_ge hg
    exact hb g this.2 this.1 ((h4 k hk).2 g hg).1
theorem OwnP.keep {w w' : World} {lo hi : Nat} {v : Value} {xss : List (List Int)} (h : OwnP w lo hi v xss) (R : Below w.heap.size w w') : OwnP w' lo hi v xss := h.of_block fun k hk _ _ => R.block k hk
theorem OwnP.within {w w' : World} {lo hi lo' hi' : Nat} {v : Value} {xss : List (List Int)} (h : OwnP w lo hi v xss) (R : Within lo' hi' w w') (hd : hi ≤ lo' ∨ hi' ≤ lo) : OwnP w' lo hi v xss :=
  h.of_block fun k hk h1 h2 => R.2.2.2.2 k hk (by omega)
theorem OwnP.drewN {w : World} {lo hi : Nat} {v : Value} {xss : List (List Int)} (h : OwnP w lo hi v xss) (n : Nat) : OwnP (w.drewN n) lo hi v xss := h
theorem OwnP.mono {w : World} {lo lo' hi hi' : Nat} {v : Value} {xss : List (List Int)} (h : OwnP w lo hi v xss) (h1 : lo' ≤ lo) (h2 : hi ≤ hi') : OwnP w lo' hi' v xss := by
  obtain ⟨us, k1, k2, k3, k4, k5⟩ := h
  refine ⟨us, k1, ?_, fun g hg => Nat.lt_of_lt_of_le (k3 g hg) h2, fun k hk => ⟨(k4 k hk).1.mono h1, fun g hg => ⟨Nat.lt_of_lt_of_le ((k4 k hk).2 g hg).1 h2, ((k4 k hk).2 g hg).2⟩⟩, k5⟩
  rcases k2.2 with h0 | ⟨g, cap, cur, e1, e2, e3⟩
  · exact ⟨k2.1, .inl h0⟩
  · exact ⟨k2.1, .inr ⟨g, cap, cur, e1, by omega, e3⟩⟩
theorem OwnP.form {w : World} {lo hi : Nat} {v : Value} {xss : List (List Int)} (h : OwnP w lo hi v xss) : ∃ A c, v = .slice A xss.length c ∧ xss.length ≤ c ∧ c ≤ maxLen := by
  obtain ⟨us, h1, h2, _⟩ := h
  rcases h2.2 with ⟨rfl, h0⟩ | ⟨g, cap, cur, rfl, _, _, e1, e2, _⟩
  · exact ⟨none, 0, by rw [← h1, h0], by omega, by unfold maxLen; omega⟩
  · exact ⟨_, cap, by rw [← h1], by omega, e2⟩
/-- Row k. -/
theorem OwnP.row {w : World} {lo hi : Nat} {v : Value} {xss : List (List Int)} (h : OwnP w lo hi v xss) {k : Nat} (hk : k < xss.length) :
    ∃ g c A c', v = .slice (some ⟨g, 0, none⟩) xss.length c ∧ lo ≤ g ∧ g < hi ∧ g < w.heap.size ∧ w.cell? ⟨g, k, none⟩ = some (.slice A (xss.getD k []).length c') ∧ w.frozen? ⟨g, k, none⟩ = false ∧
      OwnI w lo (.slice A (xss.getD k []).length c') (xss.getD k []) ∧ (∀ b, (Value.slice A (xss.getD k []).length c').ownBlock = some b → b < hi ∧ b ≠ g) ∧
      ∀ w' ys, OwnI w' lo (.slice A (xss.getD k []).length c') ys → w.grownBy w' (Value.slice A (xss.getD k []).length c').ownBlock → OwnP w' lo hi v (xss.set k ys) := by
  obtain ⟨us, h1, h2, h3, h4, h5⟩ := h
  rcases h2.2 with ⟨rfl, h0⟩ | ⟨g, cap, cur, e0, e1, e2, e3, e4, e5, e6⟩
  · omega
  · have hku : k < us.length := by omega
    obtain ⟨A, c', hu⟩ := (h4 k hku).1.form
    have hcell : w.cell? ⟨g, k, none⟩ = some (us.getD k (.slice none 0 0)) := by
      rw [cell_of_row w g k cur _ (0, 0) e2]
      have e : cur.toList[k]? = us[k]? := by rw [← e6, List.getElem?_take, if_pos (by omega)]
      simp only [Array.getElem?_toList] at e
      rw [e, List.getD_eq_getElem?_getD, List.getElem?_eq_getElem hku]
      rfl
    refine ⟨g, cap, A, c', by rw [e0, h1], e1, h3 g (by rw [e0]; rfl), lt_of_block e2, by rw [hcell, hu], by simp [World.frozen?, e2], by rw [← hu]; exact (h4 k hku).1, fun b hb => ?_, fun w' ys hw hg => ?_⟩
    · rw [← hu] at hb
      have := (h4 k hku).2 b hb
      refine ⟨this.1, fun e => this.2 ?_⟩
      rw [e0, e]; rfl
    · rw [← hu] at hw hg
      refine ⟨us, by simp [h1], ownsRow_of_block h2 fun b hb => ?_, h3, fun j hj => ?_, h5⟩
      · refine hg.block b (ownsRow_block_ge h2 hb).2 fun e => ?_
        exact ((h4 k hku).2 b e.symm).2 hb
      · by_cases hjk : j = k
        · subst hjk
          rw [show (xss.set j ys).getD j [] = ys by simp [List.getD_eq_getElem?_getD, hk]]
          exact ⟨hw, (h4 j hj).2⟩
        · rw [show (xss.set k ys).getD j [] = xss.getD j [] by simp [List.getD_eq_getElem?_getD, Ne.symm hjk]]
          refine ⟨(h4 j hj).1.of_block fun b hb => ?_, (h4 j hj).2⟩
          refine hg.block b ((h4 j hj).1.block_ge hb).2 fun e => ?_
          exact h5 j k b hj hku hjk hb e.symm

/-! ### Lists of lists that are only read; the laws' comparisons and marks -/
def rowA (xss : List (List Int)) (k : Nat) : List Int := xss.getD k []
/-- The slice value v reads as the lists xss. -/
def RdP (w : World) (v : Value) (xss : List (List Int)) : Prop :=
  ∃ A c, v = .slice A xss.length c ∧ xss.length ≤ c ∧ c ≤ maxLen ∧ ∀ k, k < xss.length → ∃ b off u, A = some ⟨b, off, none⟩ ∧ b < w.heap.size ∧ w.cell? ⟨b, off + k, none⟩ = some u ∧ RdI w u (xss.getD k [])
theorem RdP.below {w w' : World} {v : Value} {xss : List (List Int)} (h : RdP w v xss) (hb : Below w.heap.size w w') : RdP w' v xss := by
  obtain ⟨A, c, h1, h2, h3, h4⟩ := h
  refine ⟨A, c, h1, h2, h3, fun k hk => ?_⟩
  obtain ⟨b, off, u, h5, h6, h7, h8⟩ := h4 k hk
  exact ⟨b, off, u, h5, by have := hb.size; omega, (hb.cell (p := ⟨b, off + k, none⟩) h6).trans h7, h8.below hb⟩
theorem RdP.form {w : World} {v : Value} {xss : List (List Int)} (h : RdP w v xss) : ∃ A c, v = .slice A xss.length c := by
  obtain ⟨A, c, h1, _⟩ := h
  exact ⟨A, c, h1⟩
theorem OwnP.rd {w : World} {lo hi : Nat} {v : Value} {xss : List (List Int)} (h : OwnP w lo hi v xss) : RdP w v xss := by
  obtain ⟨A, c, rfl, h1, h2⟩ := h.form
  refine ⟨A, c, rfl, h1, h2, fun k hk => ?_⟩
  obtain ⟨g, c2, A2, c', e, _, _, h5, h6, _, h7, _⟩ := h.row hk
  simp only [Value.slice.injEq] at e
  exact ⟨g, 0, _, e.1, h5, by rw [Nat.zero_add]; exact h6, h7.rd⟩
def cntP : List (List Int) → Nat
  | [] => 0
  | r :: rs => r.length + cntP rs
theorem cntP_append (a b : List (List Int)) : cntP (a ++ b) = cntP a + cntP b := by
  induction a with
  | nil => simp [cntP]
  | cons r rs ih => simp [cntP, ih]; omega
theorem cntP_take_succ (xss : List (List Int)) (k : Nat) (hk : k < xss.length) : cntP (xss.take (k + 1)) = cntP (xss.take k) + (xss.getD k []).length := by
  rw [List.take_succ_eq_append_getElem hk, cntP_append, List.getD_eq_getElem?_getD, List.getElem?_eq_getElem hk]
  simp [cntP]
theorem cntP_take_le (xss : List (List Int)) (k : Nat) : cntP (xss.take k) ≤ cntP xss := by
  have := cntP_append (xss.take k) (xss.drop k)
  rw [List.take_append_drop] at this
  omega
theorem eqQ_any (w : World) (v u : Value) (xss yss : List (List Int)) (hv : RdP w v xss) (hu : RdP w u yss) : Calls Try.prog 70 #[v, u] w fun e w' => e = .returned (.bool (xss == yss)) ∧ Below w.heap.size w w' := by
  obtain ⟨A, c, rfl, hc1, hc2, hA⟩ := hv
  obtain ⟨A', c', rfl, hc1', hc2', hA'⟩ := hu
  unfold maxLen at hc2 hc2'
  by_cases hl : xss.length = yss.length
  · have hnl : (xss.length != yss.length) = false := by simpa using hl
    have hnl' : ((xss.length : Int) != (yss.length : Int)) = false := by rw [hl]; simp
    have HL := Lib.hid hl
    clear hl
    go_enter Try.func70, Try.ntmps70
    go_wp2
    go_loopw [5] (fun i wr => ∃ k : Nat, k ≤ xss.length ∧ i = .int .i64 k ∧ Hid (∀ j, j < k → xss.getD j [] = yss.getD j []) ∧ Below w.heap.size w wr) (fun i _ => xss.length - (intOf i).toNat)
    case atStart => exact ⟨0, Nat.zero_le _, rfl, (fun j hj => by omega), Below.refl _ _⟩
    case round =>
      obtain ⟨k, hk, rfl, hp, hb⟩ := hrel
      by_cases hlt : k < xss.length
      · obtain ⟨b, off, u, rfl, hb1, hcell, hr⟩ := hA k hlt
        have hlt' : k < yss.length := by rw [← HL.out]; exact hlt
        obtain ⟨b', off', u', rfl, hb1', hcell', hr'⟩ := hA' k hlt'
        clear hA hA'
        have hc0 : wr.cell? ⟨b, off + k, none⟩ = some u := (hb.cell (p := ⟨b, off + k, none⟩) hb1).trans hcell
        have hc0' : wr.cell? ⟨b', off' + k, none⟩ = some u' := (hb.cell (p := ⟨b', off' + k, none⟩) hb1').trans hcell'
        have hr2 := hr.below hb
        have hr2' := hr'.below hb
        obtain ⟨A1, c1, e1⟩ := hr2.form
        obtain ⟨A2, c2, e2⟩ := hr2'.form
        subst e1 e2
        clear hcell hcell' hr hr'
        have hi0 : (0 : Int) ≤ (k : Int) := by omega
        have hi1 : (k : Int) < (xss.length : Int) := by omega
        have hbz : b < wr.heap.size := Nat.lt_of_lt_of_le hb1 hb.size
        have hbz' : b' < wr.heap.size := Nat.lt_of_lt_of_le hb1' hb.size
        have hi2 : (k : Int) < (yss.length : Int) := by omega
        obtain ⟨x, hx⟩ : ∃ x, x = xss.getD k [] := ⟨_, rfl⟩
        obtain ⟨y, hy⟩ : ∃ y, y = yss.getD k [] := ⟨_, rfl⟩
        rw [← hx] at hc0 hr2
        rw [← hy] at hc0' hr2'
        have HX := Lib.hid hx
        have HY := Lib.hid hy
        clear hx hy
        cases hxy : (x == y)
        · have HF : Hid ((xss == yss) = false) := by
            unfold Hid
            rw [beq_eq_false_iff_ne] at hxy ⊢
            intro h
            apply hxy
            rw [HX.out, HY.out, h]
          have HXY := Lib.hid hxy
          clear hxy
          go_wp2
          go_region_held3 (fun w' => w'.cell? ⟨b, off + k, none⟩ = some (.slice A1 x.length c1) ∧ w'.cell? ⟨b', off' + k, none⟩ = some (.slice A2 y.length c2))
            (first | exact ⟨hc0, hc0'⟩ | exact ⟨(hb2.cell (p := ⟨b, off + k, none⟩) hbz).trans hc0, (hb2.cell (p := ⟨b', off' + k, none⟩) hbz').trans hc0'⟩)
            (first | (go_at_call 135; refine (eqL_any _ _ _ x y (hr2.below (below_drew (Below.refl _ _))) (hr2'.below (below_drew (Below.refl _ _)))).mono ?_; rintro e w2 ⟨rfl, hb2⟩; rw [HXY.out]; have K2 : Below w.heap.size w w2 := (below_drew hb).trans (hb2.mono hb.size)))
          go_wp2
          go_ret
          exact ⟨by rw [HF.out]; rfl, K2⟩
        · have HXY := Lib.hid hxy
          clear hxy
          go_wp2
          go_region_held3 (fun w' => w'.cell? ⟨b, off + k, none⟩ = some (.slice A1 x.length c1) ∧ w'.cell? ⟨b', off' + k, none⟩ = some (.slice A2 y.length c2))
            (first | exact ⟨hc0, hc0'⟩ | exact ⟨(hb2.cell (p := ⟨b, off + k, none⟩) hbz).trans hc0, (hb2.cell (p := ⟨b', off' + k, none⟩) hbz').trans hc0'⟩)
            (first | (go_at_call 135; refine (eqL_any _ _ _ x y (hr2.below (below_drew (Below.refl _ _))) (hr2'.below (below_drew (Below.refl _ _)))).mono ?_; rintro e w2 ⟨rfl, hb2⟩; rw [HXY.out]; have K2 : Below w.heap.size w w2 := (below_drew hb).trans (hb2.mono hb.size)))
          go_wp2
          go_roundw
          case rel =>
            refine ⟨k + 1, by omega, by go_num, fun j hj => ?_, K2⟩
            rcases Nat.lt_or_ge j k with h | h
            · exact hp.out j h
            · obtain rfl : j = k := by omega
              rw [← HX.out, ← HY.out]; exact beq_iff_eq.1 HXY.out
          case measure => simp [intOf]; omega
      · have HF : Hid ((xss == yss) = true) := by
          unfold Hid
          rw [beq_iff_eq]
          apply List.ext_getElem HL.out
          intro i h1 h2
          have := hp.out i (by omega)
          rwa [List.getD_eq_getElem?_getD, List.getD_eq_getElem?_getD, List.getElem?_eq_getElem h1, List.getElem?_eq_getElem h2] at this
        go_wp2
        go_ret
        exact ⟨by rw [HF.out]; rfl, hb⟩
  · have hnl : (xss.length != yss.length) = true := by simpa using hl
    have hnl' : ((xss.length : Int) != (yss.length : Int)) = true := by simp; omega
    have HF : Hid ((xss == yss) = false) := by
      unfold Hid
      rw [beq_eq_false_iff_ne]
      intro h
      exact hl (by rw [h])
    clear hl
    go_enter Try.func70, Try.ntmps70
    go_wp2
    go_ret
    exact ⟨by rw [HF.out]; rfl, Below.refl _ _⟩
def mkP : Int → List (List Int) → List (List Int)
  | _, [] => []
  | q, r :: rs => marks q r.length :: mkP (q + r.length) rs
theorem length_mkP (q : Int) (xss : List (List Int)) : (mkP q xss).length = xss.length := by
  induction xss generalizing q with
  | nil => rfl
  | cons r rs ih => simp [mkP, ih]
theorem mkP_append (q : Int) (a b : List (List Int)) : mkP q (a ++ b) = mkP q a ++ mkP (q + cntP a) b := by
  induction a generalizing q with
  | nil => simp [mkP, cntP]
  | cons r rs ih =>
    simp only [List.cons_append, mkP, ih, cntP]
    congr 3
    omega
theorem mkP_step (q : Int) (xss : List (List Int)) (k : Nat) (hk : k < xss.length) :
    (mkP q (xss.take k) ++ xss.drop k).set k (marks (q + cntP (xss.take k)) (xss.getD k []).length) = mkP q (xss.take (k + 1)) ++ xss.drop (k + 1) := by
  have h1 : (xss.take k).length = k := by simp; omega
  rw [List.set_append_right _ _ (by rw [length_mkP]; omega), length_mkP, h1, Nat.sub_self, List.drop_eq_getElem_cons hk, List.set_cons_zero, List.take_succ_eq_append_getElem hk, mkP_append, List.append_assoc, List.getD_eq_getElem?_getD, List.getElem?_eq_getElem hk]
  rfl
theorem getD_mkP (q : Int) (xss : List (List Int)) (k : Nat) (hk : k < xss.length) : (mkP q xss).getD k [] = marks (q + cntP (xss.take k)) (xss.getD k []).length := by
  have h := mkP_append q (xss.take k) (xss.drop k)
  rw [List.take_append_drop] at h
  have h1 : (mkP q (xss.take k)).length = k := by rw [length_mkP]; simp; omega
  rw [h, List.getD_eq_getElem?_getD, List.getElem?_append_right (by omega), h1, Nat.sub_self, List.drop_eq_getElem_cons hk, List.getD_eq_getElem?_getD, List.getElem?_eq_getElem hk]
  rfl
theorem getD_mix (q : Int) (xss : List (List Int)) (k : Nat) (hk : k < xss.length) : (mkP q (xss.take k) ++ xss.drop k).getD k [] = xss.getD k [] := by
  have h1 : (mkP q (xss.take k)).length = k := by rw [length_mkP]; simp; omega
  rw [List.getD_eq_getElem?_getD, List.getElem?_append_right (by omega), h1, Nat.sub_self, List.drop_eq_getElem_cons hk, List.getD_eq_getElem?_getD, List.getElem?_eq_getElem hk]
  rfl
theorem length_mix (q : Int) (xss : List (List Int)) (k : Nat) (hk : k ≤ xss.length) : (mkP q (xss.take k) ++ xss.drop k).length = xss.length := by
  rw [List.length_append, length_mkP, List.length_take, List.length_drop]; omega
def MarkedQ (w : World) (lo hi : Nat) (v : Value) (q : Int) (xss : List (List Int)) (e : Ending) (w' : World) : Prop := e = .returned (.int .i64 (q + (cntP xss : Int))) ∧ OwnP w' lo hi v (mkP q xss) ∧ Within lo hi w w'
theorem markQ_any (w : World) (lo hi : Nat) (v : Value) (xss : List (List Int)) (q : Int) (hv : OwnP w lo hi v xss) (hl : cntP xss ≤ 100000000) (hq : 0 ≤ q) (hq' : q ≤ 500000000) :
    Calls Try.prog 71 #[v, .int .i64 q] w (MarkedQ w lo hi v q xss) := by
  obtain ⟨A, c, rfl, hc1, hc2⟩ := hv.form
  unfold maxLen at hc2
  go_enter Try.func71, Try.ntmps71
  go_wp2
  go_loopw [1, 5] (fun t i wr => ∃ k : Nat, k ≤ xss.length ∧ i = .int .i64 k ∧ t = .int .i64 (q + (cntP (xss.take k) : Int)) ∧ Hid (OwnP wr lo hi (.slice A xss.length c) (mkP q (xss.take k) ++ xss.drop k)) ∧ Hid (Within lo hi w wr)) (fun _ i _ => xss.length - (intOf i).toNat)
  case atStart => exact ⟨0, Nat.zero_le _, rfl, by simp [cntP], (by unfold Hid; simpa [mkP] using hv), Within.refl _ _ _⟩
  case round =>
    obtain ⟨k, hk, rfl, rfl, ho, hw⟩ := hrel
    have ht := cntP_take_le xss k
    by_cases hlt : k < xss.length
    · have hs := cntP_take_succ xss k hlt
      have ht' := cntP_take_le xss (k + 1)
      have HS := Lib.hid hs
      obtain ⟨g, c2, A1, c1, e, _, hghi, hglt, hcell, hfr, hown, hblk, hset⟩ := ho.out.row (k := k) (by rw [length_mix q xss k hk]; exact hlt)
      rw [length_mix q xss k hk] at e
      simp only [Value.slice.injEq] at e
      obtain ⟨rfl, _, rfl⟩ := e
      rw [getD_mix q xss k hlt] at hcell hown hblk hset
      have HM := Lib.hid (mkP_step q xss k hlt)
      obtain ⟨x, hx⟩ : ∃ x, x = xss.getD k [] := ⟨_, rfl⟩
      rw [← hx] at hcell hown hblk hset HM hs HS
      have hxl : x.length ≤ 100000000 := by omega
      have HO := Lib.hid hown
      have HB := Lib.hid hblk
      have HT := Lib.hid hset
      generalize cntP (xss.take k) = cn at *
      clear hx hs hown hblk hset
      go_wp2_with (go_at_call 136; refine (markInt64S_any _ lo _ x x.length (q + cn) HO.out rfl hxl (by omega) (by omega)).mono ?_; rintro e w2 ⟨rfl, ho2, hg2⟩)
      go_roundw
      case rel =>
        refine ⟨k + 1, by omega, by go_num, ?_, ?_, ?_⟩
        · rw [HS.out]; go_num
        · unfold Hid
          rw [← HM.out]
          exact HT.out w2 _ ho2 hg2
        · exact hw.out.trans (Within.of_grownBy hg2 fun b hb => ⟨(HO.out.block_ge hb).1, (HB.out b hb).1⟩)
      case measure => simp [intOf]; omega
    · obtain rfl : k = xss.length := by omega
      have ho' : OwnP wr lo hi (.slice A xss.length c) (mkP q xss) := by simpa using ho.out
      have HN : Hid (cntP (xss.take xss.length) = cntP xss) := by unfold Hid; rw [List.take_length]
      go_wp2
      go_ret
      exact ⟨by rw [← HN.out]; rfl, ho', hw.out⟩
theorem heldQ_any (w : World) (lo hi : Nat) (v : Value) (xss : List (List Int)) (q : Int) (hv : OwnP w lo hi v (mkP q xss)) (hl : cntP xss ≤ 100000000) (hq : 0 ≤ q) (hq' : q ≤ 500000000) :
    Calls Try.prog 72 #[v, .int .i64 q] w fun e w' => e = .returned (.int .i64 (q + (cntP xss : Int))) ∧ Below w.heap.size w w' := by
  obtain ⟨A, c, e0, hc1, hc2⟩ := hv.form
  rw [length_mkP] at e0 hc1
  subst e0
  unfold maxLen at hc2
  have HV := Lib.hid hv
  clear hv
  go_enter Try.func72, Try.ntmps72
  go_wp2
  go_loopw [1, 5] (fun t i wr => ∃ k : Nat, k ≤ xss.length ∧ i = .int .i64 k ∧ t = .int .i64 (q + (cntP (xss.take k) : Int)) ∧ Below w.heap.size w wr) (fun _ i _ => xss.length - (intOf i).toNat)
  case atStart => exact ⟨0, Nat.zero_le _, rfl, by simp [cntP], Below.refl _ _⟩
  case round =>
    obtain ⟨k, hk, rfl, rfl, hb⟩ := hrel
    have ht := cntP_take_le xss k
    by_cases hlt : k < xss.length
    · have hs := cntP_take_succ xss k hlt
      have ht' := cntP_take_le xss (k + 1)
      have HS := Lib.hid hs
      obtain ⟨g, c2, A1, c1, e, _, hghi, hglt, hcell, hfr, hown, hblk, hset⟩ := HV.out.row (k := k) (by rw [length_mkP]; exact hlt)
      rw [length_mkP] at e
      simp only [Value.slice.injEq] at e
      obtain ⟨rfl, _, rfl⟩ := e
      rw [getD_mkP q xss k hlt, length_marks] at hcell hown
      have hcell' : wr.cell? ⟨g, k, none⟩ = some (.slice A1 (xss.getD k []).length c1) := (hb.cell (p := ⟨g, k, none⟩) hglt).trans hcell
      obtain ⟨x, hx⟩ : ∃ x, x = xss.getD k [] := ⟨_, rfl⟩
      rw [← hx] at hcell' hown hs HS
      have hxl : x.length ≤ 100000000 := by omega
      have HO : Hid (OwnI wr lo (.slice A1 x.length c1) (marks (q + cntP (xss.take k)) x.length)) := hown.keep hb (Nat.le_refl _)
      generalize cntP (xss.take k) = cn at *
      clear hx hs hown hblk hset hcell hfr
      go_wp2_with (go_at_call 137; refine (heldInt64S_any _ lo _ x.length (q + cn) HO.out hxl (by omega) (by omega)).mono ?_; rintro e w2 ⟨rfl, rfl⟩)
      go_roundw
      case rel => exact ⟨k + 1, by omega, by go_num, by rw [HS.out]; go_num, hb⟩
      case measure => simp [intOf]; omega
    · obtain rfl : k = xss.length := by omega
      have HN : Hid (cntP (xss.take xss.length) = cntP xss) := by unfold Hid; rw [List.take_length]
      go_wp2
      go_ret
      exact ⟨by rw [← HN.out]; rfl, hb⟩

/-! ### append of a row -/
theorem T.infoRow : (Try.prog.info? 45).map (fun i => (i.zero, i.size, i.bytes)) = some (some (.slice none 0 0), 1, 24) := by kernel_rfl
theorem getD_append_lt {us : List Value} {u : Value} {k : Nat} (h : k < us.length) : (us ++ [u]).getD k (.slice none 0 0) = us.getD k (.slice none 0 0) := by
  rw [List.getD_eq_getElem?_getD, List.getElem?_append_left h, ← List.getD_eq_getElem?_getD]
theorem getD_append_eq {us : List Value} {u : Value} : (us ++ [u]).getD us.length (.slice none 0 0) = u := by
  rw [List.getD_eq_getElem?_getD, List.getElem?_append_right (Nat.le_refl _)]; simp
theorem getDR_append_lt {xss : List (List Int)} {y : List Int} {k : Nat} (h : k < xss.length) : (xss ++ [y]).getD k [] = xss.getD k [] := by
  rw [List.getD_eq_getElem?_getD, List.getElem?_append_left h, ← List.getD_eq_getElem?_getD]
theorem getDR_append_eq {xss : List (List Int)} {y : List Int} {n : Nat} (h : xss.length = n) : (xss ++ [y]).getD n [] = y := by
  rw [List.getD_eq_getElem?_getD, List.getElem?_append_right (by omega), h]; simp
/-- A row more. -/
theorem OwnP.push {W w' : World} {lo hi : Nat} {v v' u : Value} {us : List Value} {xss : List (List Int)} {ys : List Int}
    (hl : us.length = xss.length) (h2 : W.ownsRow lo 45 1 v us.length us) (h3 : ∀ g, v.ownBlock = some g → g < hi)
    (h4 : ∀ k, k < us.length → OwnI W lo (us.getD k (.slice none 0 0)) (xss.getD k []) ∧ ∀ g, (us.getD k (.slice none 0 0)).ownBlock = some g → g < hi ∧ v.ownBlock ≠ some g)
    (h5 : ∀ i j g, i < us.length → j < us.length → i ≠ j → (us.getD i (.slice none 0 0)).ownBlock = some g → (us.getD j (.slice none 0 0)).ownBlock ≠ some g)
    (hhi : hi ≤ W.heap.size) (hu : OwnI W lo u ys) (hu2 : ∀ g, u.ownBlock = some g → hi ≤ g)
    (n2 : w'.ownsRow lo 45 1 v' (us.length + 1) (us ++ [u])) (hg : W.grownBy w' v.ownBlock) (hb : v'.ownBlock = v.ownBlock ∨ v'.ownBlock = some W.heap.size) :
    OwnP w' lo w'.heap.size v' (xss ++ [ys]) := by
  have hz := hg.size
  refine ⟨us ++ [u], by simp [hl], by simpa using n2, fun g hg' => (ownsRow_block_ge n2 hg').2, fun k hk => ?_, fun i j g hi1 hj1 hij hgi => ?_⟩
  · rcases Nat.lt_or_ge k us.length with h | h
    · rw [getD_append_lt h, getDR_append_lt (by omega)]
      refine ⟨(h4 k h).1.of_block fun g hg' => hg.block g ((h4 k h).1.block_ge hg').2 fun e => ((h4 k h).2 g hg').2 e.symm, fun g hg' => ?_⟩
      have q := (h4 k h).2 g hg'
      refine ⟨by omega, fun e => ?_⟩
      rcases hb with hb | hb
      · exact q.2 (hb.symm.trans e)
      · rw [hb] at e
        have : W.heap.size = g := by simpa using e
        omega
    · have hk' : k = us.length := by simp at hk; omega
      subst hk'
      rw [getD_append_eq, getDR_append_eq hl.symm]
      refine ⟨hu.of_block fun g hg' => hg.block g (hu.block_ge hg').2 fun e => ?_, fun g hg' => ?_⟩
      · have := h3 g e.symm
        have := hu2 g hg'
        omega
      · have q := hu.block_ge hg'
        have q2 := hu2 g hg'
        refine ⟨by omega, fun e => ?_⟩
        rcases hb with hb | hb
        · have := h3 g (hb.symm.trans e)
          omega
        · rw [hb] at e
          have : W.heap.size = g := by simpa using e
          omega
  · simp only [List.length_append, List.length_singleton] at hi1 hj1
    rcases Nat.lt_or_ge i us.length with h | h <;> rcases Nat.lt_or_ge j us.length with h' | h'
    · rw [getD_append_lt h] at hgi
      rw [getD_append_lt h']
      exact h5 i j g h h' hij hgi
    · have : j = us.length := by omega
      subst this
      rw [getD_append_lt h] at hgi
      rw [getD_append_eq]
      intro e
      have := ((h4 i h).2 g hgi).1
      have := hu2 g e
      omega
    · have : i = us.length := by omega
      subst this
      rw [getD_append_eq] at hgi
      rw [getD_append_lt h']
      intro e
      have := ((h4 j h').2 g e).1
      have := hu2 g hgi
      omega
    · omega
theorem appendP {W : World} {ops : Array Oper} {rest : List Oper} {o : Oper} {a : Act} {Q : Exit → Act → World → Prop} (s x : Operand) (lo hi : Nat) (v u : Value) (xss : List (List Int)) (ys : List Int) (b : Nat)
    (hgd : o.guard = none) (ho : o.op = .call { callee := .builtin .append, args := #[s, x], argTypes := #[22, 22] })
    (hs : a.eval s = v) (hx : a.eval x = .slice (some ⟨b, 0, none⟩) 1 1) (hv : OwnP W lo hi v xss) (hhi : hi ≤ W.heap.size) (hu : OwnI W lo u ys) (hu2 : ∀ g, u.ownBlock = some g → hi ≤ g)
    (hb : W.heap[b]? = some (.cells #[u] 45 (0, 0))) (hl : xss.length ≤ 1000000000000) (hB : lo ≤ W.heap.size)
    (h : ∀ A c w', OwnP w' lo w'.heap.size (.slice A (xss.length + 1) c) (xss ++ [ys]) → W.grownBy w' v.ownBlock → wpList Try.prog ops Q rest (a.put o.dst (.slice A (xss.length + 1) c)) w') :
    wpList Try.prog ops Q (o :: rest) a W := by
  obtain ⟨i0, hi0, hz0, hz1, hz2⟩ := info_parts T.infoRow
  obtain ⟨us, h1, h2, h3, h4, h5⟩ := hv
  obtain ⟨Au, cu, eu⟩ := hu.form
  refine wpList_append_own_at W hgd s x 22 ho lo 45 i0 (.slice none 0 0) 1 24 Try.underlying22 hi0 hz0 hz1 hz2 rfl (by decide) v us.length us hs h2 ⟨b, 0, none⟩ 1 1 [u] hx rfl (World.news_of_block (cs := #[u]) hb) (fun q hq => by simp at hq; subst hq; subst eu; rfl) (by unfold maxLen; omega) (by omega) hB ?_
  intro v' w' n2 hg _ hbl
  have ho' := OwnP.push h1 h2 h3 h4 h5 hhi hu hu2 n2 hg hbl
  obtain ⟨A, c, e, _⟩ := ho'.form
  rw [show (xss ++ [ys]).length = xss.length + 1 by simp] at e
  subst e
  exact h A c w' ho' hg
def RetQI (w : World) (r : List (List Int) × Int) (e : Ending) (w' : World) : Prop := ∃ A c, e = .returned (.tuple #[.slice A r.1.length c, .int .i64 r.2]) ∧ OwnP w' w.heap.size w'.heap.size (.slice A r.1.length c) r.1 ∧ Below w.heap.size w w'
theorem RetQI.of {w : World} {r r' : List (List Int) × Int} {e : Ending} {w' : World} (h : RetQI w r e w') (he : Hid (r = r')) : RetQI w r' e w' := by rw [← he.out]; exact h
theorem OwnP.nil_ (w : World) (lo hi : Nat) : OwnP w lo hi (.slice none 0 0) [] := ⟨[], rfl, World.ownsRow_nil _ _ _ _, fun g hg => by simp [Value.ownBlock] at hg, fun k hk => by simp at hk, fun i j g hi1 => by simp at hi1⟩
theorem OwnP.lit0 (w : World) {lo : Nat} (h : lo ≤ w.heap.size) : OwnP (w.alloc (.cells #[] 45)) lo (w.heap.size + 1) (.slice (some ⟨w.heap.size, 0, none⟩) 0 0) [] :=
  ⟨[], rfl, World.ownsRow_lit w #[] 0 h (by unfold maxLen; omega) rfl, fun g hg => by simp [Value.ownBlock] at hg; omega, fun k hk => by simp at hk, fun i j g hi1 => by simp at hi1⟩
/-! ### Marks and held marks, blocks in intervals -/
theorem markLB_any (w : World) (lo hi : Nat) (v : Value) (xs : List Int) (q : Int) (hv : OwnB w lo hi v xs) (hl : xs.length ≤ 100000000) (hq : 0 ≤ q) (hq' : q ≤ 500000000) :
    Calls Try.prog 136 #[v, .int .i64 q] w fun e w' => e = .returned (.int .i64 (q + (xs.length : Int))) ∧ OwnB w' lo hi v (marks q xs.length) ∧ Within lo hi w w' :=
  (markInt64S_any w lo v xs xs.length q hv.1 rfl hl hq (by omega)).mono fun _ _ ⟨h1, h2, h3⟩ => ⟨h1, ⟨h2, hv.2⟩, Within.of_grownBy h3 fun g hg => ⟨(hv.1.block_ge hg).1, hv.2 g hg⟩⟩
theorem heldLB_any (w : World) (lo hi : Nat) (v : Value) (xs : List Int) (q : Int) (hv : OwnB w lo hi v (marks q xs.length)) (hl : xs.length ≤ 100000000) (hq : 0 ≤ q) (hq' : q ≤ 500000000) :
    Calls Try.prog 137 #[v, .int .i64 q] w fun e w' => e = .returned (.int .i64 (q + (xs.length : Int))) ∧ Below w.heap.size w w' := heldL_any w lo v xs.length q hv.1 hl hq (by omega)
/-- How much a list of lists takes. -/
def szP (xss : List (List Int)) : Nat := xss.length + cntP xss
theorem cntP_le_szP (xss : List (List Int)) : cntP xss ≤ szP xss := by unfold szP; omega
theorem length_le_szP (xss : List (List Int)) : xss.length ≤ szP xss := by unfold szP; omega
theorem markQB_any (w : World) (lo hi : Nat) (v : Value) (xss : List (List Int)) (q : Int) (hv : OwnP w lo hi v xss) (hl : cntP xss ≤ 100000000) (hq : 0 ≤ q) (hq' : q ≤ 500000000) :
    Calls Try.prog 71 #[v, .int .i64 q] w (MarkedQ w lo hi v q xss) := markQ_any w lo hi v xss q hv hl hq hq'
theorem heldQB_any (w : World) (lo hi : Nat) (v : Value) (xss : List (List Int)) (q : Int) (hv : OwnP w lo hi v (mkP q xss)) (hl : cntP xss ≤ 100000000) (hq : 0 ≤ q) (hq' : q ≤ 500000000) :
    Calls Try.prog 72 #[v, .int .i64 q] w fun e w' => e = .returned (.int .i64 (q + (cntP xss : Int))) ∧ Below w.heap.size w w' := heldQ_any w lo hi v xss q hv hl hq hq'

/-! ### Lists of coefficients as functions; sums; products -/
def co (xs : List Int) (k : Nat) : Int := xs.getD k 0
def lst (d : Nat) (g : Nat → Int) : List Int := (List.range d).map g
theorem length_lst (d : Nat) (g : Nat → Int) : (lst d g).length = d := by simp [lst]
theorem getD_lst (d : Nat) (g : Nat → Int) (k : Nat) (h : k < d) : (lst d g).getD k 0 = g k := by simp [lst, List.getD_eq_getElem?_getD, h]
theorem getD_lst_ge (d : Nat) (g : Nat → Int) (k : Nat) (h : d ≤ k) : (lst d g).getD k 0 = 0 := by
  rw [List.getD_eq_getElem?_getD, List.getElem?_eq_none (by rw [length_lst]; exact h)]; rfl
def upd (g : Nat → Int) (k : Nat) (y : Int) : Nat → Int := fun j => if j = k then y else g j
theorem lst_congr {d : Nat} {g h : Nat → Int} (e : ∀ k, k < d → g k = h k) : lst d g = lst d h := by
  unfold lst
  apply List.map_congr_left
  intro k hk
  exact e k (List.mem_range.1 hk)
theorem set_lst (d : Nat) (g : Nat → Int) (k : Nat) (y : Int) : (lst d g).set k y = lst d (upd g k y) := by
  apply List.ext_getElem
  · simp [length_lst]
  · intro i h1 h2
    simp only [lst, upd, List.getElem_set, List.getElem_map, List.getElem_range]
    by_cases h : k = i
    · simp [h]
    · simp [h, Ne.symm h]
theorem lst_self (xs : List Int) : lst xs.length (co xs) = xs := by
  apply List.ext_getElem
  · simp [length_lst]
  · intro i h1 h2
    simp [lst, co, List.getD_eq_getElem?_getD, h2]
theorem replicate_lst (d : Nat) : List.replicate d (0 : Int) = lst d fun _ => 0 := by
  apply List.ext_getElem
  · simp [length_lst]
  · intro i h1 h2
    simp [lst]
theorem lst_inj_take (d : Nat) (g : Nat → Int) (n : Nat) (h : n ≤ d) : (lst d g).take n = lst n g := by
  unfold lst
  rw [← List.map_take, List.take_range, Nat.min_eq_left h]
theorem lst_succ (d : Nat) (g : Nat → Int) : lst (d + 1) g = lst d g ++ [g d] := by simp [lst, List.range_succ]
def sumN (f : Nat → Int) : Nat → Int
  | 0 => 0
  | n + 1 => sumN f n + f n
theorem sumN_congr {f g : Nat → Int} : ∀ {n : Nat}, (∀ k, k < n → f k = g k) → sumN f n = sumN g n
  | 0, _ => rfl
  | n + 1, h => by simp only [sumN]; rw [sumN_congr (n := n) fun k hk => h k (by omega), h n (by omega)]
theorem sumN_zero : ∀ (n : Nat), sumN (fun _ => 0) n = 0
  | 0 => rfl
  | n + 1 => by simp [sumN, sumN_zero n]
/-- The first n terms of coefficient k of a product. -/
def cvTo (m : Int) (a b : Nat → Int) (n k : Nat) : Int := sumN (fun i => a i * b (k - i)) n % m
def cv (m : Int) (a b : Nat → Int) (k : Nat) : Int := cvTo m a b (k + 1) k
theorem cvTo_succ (m : Int) (a b : Nat → Int) (n k : Nat) : (cvTo m a b n k + a n * b (k - n) % m) % m = cvTo m a b (n + 1) k := by
  unfold cvTo
  simp only [sumN]
  rw [Int.emod_add_emod, Int.add_emod_emod]
theorem cvTo_succ' (m : Int) (a b : Nat → Int) (n k : Nat) : (cvTo m a b n k + a n * b (k - n)) % m = cvTo m a b (n + 1) k := by
  unfold cvTo
  simp only [sumN]
  rw [Int.emod_add_emod]
theorem cvTo_zero (m : Int) (a b : Nat → Int) (k : Nat) : cvTo m a b 0 k = 0 := by simp [cvTo, sumN]
theorem cvTo_bd {m : Int} (hm : 0 < m) (a b : Nat → Int) (n k : Nat) : 0 ≤ cvTo m a b n k ∧ cvTo m a b n k < m := ⟨Int.emod_nonneg _ (by omega), Int.emod_lt_of_pos _ hm⟩
theorem cv_congr {m : Int} {a b a' b' : Nat → Int} {k : Nat} (ha : ∀ i, i ≤ k → a i = a' i) (hb : ∀ i, i ≤ k → b i = b' i) : cv m a b k = cv m a' b' k := by
  unfold cv cvTo
  rw [sumN_congr]
  intro i hi
  rw [ha i (by omega), hb (k - i) (by omega)]
/-- The coefficients of a product, while row i is added: the first j numbers of that row have been added. -/
def stepF (m : Int) (a b : Nat → Int) (i j : Nat) : Nat → Int := fun k => if k < i then cv m a b k else if k < i + j then cvTo m a b (i + 1) k else cvTo m a b i k
theorem stepF_zero (m : Int) (a b : Nat → Int) (k : Nat) : stepF m a b 0 0 k = 0 := by simp [stepF, cvTo_zero]
theorem stepF_next (m : Int) (a b : Nat → Int) (i j k : Nat) : upd (stepF m a b i j) (i + j) (cvTo m a b (i + 1) (i + j)) k = stepF m a b i (j + 1) k := by
  unfold upd stepF
  by_cases h : k = i + j
  · subst h
    simp
    intro h
    omega
  · by_cases h1 : k < i
    · simp [h, h1]
    · by_cases h2 : k < i + j
      · simp [h, h1, h2, show k < i + (j + 1) by omega]
      · simp [h, h1, h2, show ¬ k < i + (j + 1) by omega]
theorem stepF_row (m : Int) (a b : Nat → Int) (d i k : Nat) (hk : k < d) : stepF m a b i (d - i) k = stepF m a b (i + 1) 0 k := by
  unfold stepF
  by_cases h1 : k < i
  · simp [h1, show k < i + 1 by omega]
  · by_cases h2 : k = i
    · subst h2; simp [cv, show k < k + (d - k) by omega]
    · simp [h1, show k < i + (d - i) by omega, show ¬ k < i + 1 by omega]
theorem stepF_zeroRow (m : Int) (a b : Nat → Int) (i k : Nat) (h : a i = 0) : stepF m a b i 0 k = stepF m a b (i + 1) 0 k := by
  have e : cvTo m a b (i + 1) k = cvTo m a b i k := by unfold cvTo; simp [sumN, h]
  unfold stepF
  by_cases h1 : k < i
  · simp [h1, show k < i + 1 by omega]
  · by_cases h2 : k = i
    · subst h2; simp [cv, e]
    · simp [h1, show ¬ k < i + 1 by omega, e]
theorem stepF_all (m : Int) (a b : Nat → Int) (d k : Nat) (hk : k < d) : stepF m a b d 0 k = cv m a b k := by simp [stepF, hk]
def timesL (m : Int) (d : Nat) (xs ys : List Int) : List Int := lst d (cv m (co xs) (co ys))
theorem length_timesL (m : Int) (d : Nat) (xs ys : List Int) : (timesL m d xs ys).length = d := length_lst _ _
/-- All coefficients are numbers modulo m. -/
def NumL (m : Int) (xs : List Int) : Prop := ∀ k, 0 ≤ xs.getD k 0 ∧ xs.getD k 0 < m
theorem NumL.lst {m : Int} {d : Nat} {g : Nat → Int} (hm : 0 < m) (h : ∀ k, k < d → 0 ≤ g k ∧ g k < m) : NumL m (lst d g) := by
  intro k
  rcases Nat.lt_or_ge k d with hk | hk
  · rw [getD_lst d g k hk]; exact h k hk
  · rw [getD_lst_ge d g k hk]; omega
theorem NumL.timesL {m : Int} (hm : 0 < m) (d : Nat) (xs ys : List Int) : NumL m (timesL m d xs ys) := NumL.lst hm fun k _ => cvTo_bd hm _ _ _ _
theorem NumL.replicate {m : Int} (hm : 0 < m) (d : Nat) : NumL m (List.replicate d 0) := by
  rw [replicate_lst]; exact NumL.lst hm fun _ _ => ⟨Int.le_refl _, hm⟩

/-! ### Boxes of a function's own -/
/-- A box of two cells that may be written. -/
def Bf (w : World) (b : Nat) (x y : Value) : Prop := Bx w b x y ∧ w.frozen? ⟨b, 0, none⟩ = false ∧ w.frozen? ⟨b, 1, none⟩ = false
theorem Bf.keep {w w' : World} {b : Nat} {x y : Value} (h : Bf w b x y) (R : Below w.heap.size w w') : Bf w' b x y :=
  ⟨h.1.keep R, (R.frozen (p := ⟨b, 0, none⟩) h.1.1).trans h.2.1, (R.frozen (p := ⟨b, 1, none⟩) h.1.1).trans h.2.2⟩
theorem Bf.drewN {w : World} {b : Nat} {x y : Value} (h : Bf w b x y) (n : Nat) : Bf (w.drewN n) b x y := h
theorem Bf.alloc1 (w : World) (x y : Value) (t : TypeId) : Bf (w.alloc (.cells #[x, y] t)) w.heap.size x y := ⟨⟨by simp, by simp, by simp⟩, by simp, by simp⟩
theorem below_alloc1 (w : World) (o : Obj) : Below w.heap.size w (w.alloc o) := (Below.refl _ _).alloc (Nat.le_refl _) _
theorem Bf.first1 {w w1 : World} {x y : Value} {t : TypeId} (hb : Below (w.alloc (.cells #[x, y] t)).heap.size (w.alloc (.cells #[x, y] t)) w1) : Bf w1 w.heap.size x y ∧ Below w.heap.size w w1 :=
  ⟨(Bf.alloc1 w x y t).keep hb, (below_alloc1 w _).trans (hb.mono (by simp))⟩
theorem Bf.first2 {w w1 : World} {x y x' y' : Value} {t t' : TypeId} (hb : Below ((w.alloc (.cells #[x, y] t)).alloc (.cells #[x', y'] t')).heap.size ((w.alloc (.cells #[x, y] t)).alloc (.cells #[x', y'] t')) w1) :
    Bf w1 w.heap.size x y ∧ Bf w1 (w.heap.size + 1) x' y' ∧ Below w.heap.size w w1 :=
  ⟨((Bf.alloc1 w x y t).keep (below_alloc1 _ _)).keep hb, by have := (Bf.alloc1 (w.alloc (.cells #[x, y] t)) x' y' t').keep hb; simpa using this, ((below_alloc1 w _).trans ((below_alloc1 (w.alloc (.cells #[x, y] t)) _).mono (by simp))).trans (hb.mono (by simp; omega))⟩

end Go.Proofs.Ytmppmnmkhfcoaaa
