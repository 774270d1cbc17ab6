/- Contracts over this seat's translation. Condition: each contract's own. -/
import Derived.Test.YtmppmnmkhfcoaaaC
import Derived.ProofKit
import Derived.Laws.Bits64b
import Derived.Lib.Mul64
import Derived.OpenShut
import Derived.Below
import Derived.ChangeSame
import Derived.Deep.Modes
import Derived.Lib.SmallJoins
import Derived.ChangeSlices
import Derived.WalkKit
import Derived.WalkSpells
import Derived.WalkLawsBesides
import Derived.Deep.QuietTactic
import Derived.BigQuiet
import Derived.Deep.RegionHeld3
import Derived.Deep.RegionWith
import Derived.Deep.RegionLaw
import Derived.Deep.AppendLies
import Derived.Laws.CopyOwn
import Derived.Deep.DeepCutAuto
import Derived.Deep.OwnRows
import Derived.Deep.LoopGhost
import Derived.Deep.DeepFit
import Derived.Deep.DeepMust
import Derived.Deep.Draws
import Derived.Deep.CutRange
import Derived.Maps.AppendAt
import Derived.Lib.Hide
import Derived.StillTailTactics
import Derived.Laws.MakeOwn
import Derived.Deep.Matrix
set_option linter.unusedVariables false
open Go Go.RowKit
namespace Go.Proofs.Ytmppmnmkhfcoaaa
/-! ### Planes: what lies in memory -/
theorem spot_none {w : World} {a : Addr} {u : Value} (h : w.cell? a = some u) : a.spot = none := by
  unfold World.cell? at h
  cases hs : a.spot with
  | none => rfl
  | some _ =>
    split at h
    · simp [hs] at h
    · cases h
section
open Go.ChangeShapes Go.WideShapes
variable {H : Type} {enc : TypeId × Value → H} {w : World}
theorem rdP_of_trod {fuel : Nat} {v : Value} {x : DataW H × List MemPlace} (h : DataW.trod enc Try.prog w 0 (fun _ => true) true fuel 22 [v] = some x) : ∃ xss, RdP w v xss := by
  have hlt := DataW.trod_lt _ _ _ _ h
  rcases Go.Deep.open_int_rows Try.underlying22 Try.underlying45 Try.underlying2 (by kernel_rfl) (by kernel_rfl) h with ⟨h1, _⟩ | ⟨a, len, cap, A, L, C, Z, h1, _, h2, h3, rfl, h5⟩
  · obtain rfl : v = .slice none 0 0 := by simpa using h1
    exact ⟨[], none, 0, rfl, Nat.le_refl _, by unfold maxLen; omega, fun k hk => by simp at hk⟩
  · obtain rfl : v = .slice (some a) len cap := by simpa using h1
    refine ⟨(List.range len).map fun r => (Z r).take (L r), some a, cap, by simp, by simpa using h2, h3, fun k hk => ?_⟩
    have hk' : k < len := by simpa using hk
    have hsp : a.spot = none := by
      have h0 := (h5 0 (by omega)).1
      have e0 : a.add 0 = a := by simp [Addr.add]
      rw [e0] at h0
      exact spot_none h0
    obtain ⟨c1, c2, c3, c4, _, c6, c7⟩ := h5 k (by omega)
    obtain ⟨b, off, sp⟩ := a
    simp only at hsp
    subst hsp
    refine ⟨b, off, _, rfl, hlt (.cell b (off + k)) (List.mem_append_left _ (MemPlace.mem_row.2 ⟨k, by omega, rfl⟩)), by rw [add_plain] at c1; exact c1, ?_⟩
    have hg : ((List.range len).map fun r => (Z r).take (L r)).getD k [] = (Z k).take (L k) := by simp [List.getD_eq_getElem?_getD, hk']
    rw [hg]
    have hl : ((Z k).take (L k)).length = L k := by rw [List.length_take]; omega
    refine ⟨A k, C k, by rw [hl], by omega, c3, fun j hj => ?_⟩
    rw [hl] at hj
    cases hA : A k with
    | none => have := c6 hA; omega
    | some a' =>
      obtain ⟨_, c8⟩ := c7 a' hA
      have hs' : a'.spot = none := by
        have h0 := c8 0 (by omega)
        have e0 : a'.add 0 = a' := by simp [Addr.add]
        rw [e0] at h0
        exact spot_none h0
      have hcj := c8 j (by omega)
      obtain ⟨b', off', sp'⟩ := a'
      simp only at hs'
      subst hs'
      refine ⟨b', off', rfl, hlt (.cell b' (off' + j)) (List.mem_append_right _ (List.mem_flatMap.2 ⟨k, List.mem_range.2 (by omega), ?_⟩)), ?_⟩
      · rw [hA]
        exact MemPlace.mem_row.2 ⟨j, by omega, rfl⟩
      · rw [add_plain] at hcj
        rw [hcj, List.getD_eq_getElem?_getD, List.getD_eq_getElem?_getD, List.getElem?_take, if_pos hj]
end
theorem madeCells_nil (n : Nat) : (madeCells #[Value.slice none 0 0] n).toList = List.replicate n (Value.slice none 0 0) := by
  apply List.ext_getElem
  · simp [madeCells]
  · intro i h1 h2
    simp [madeCells, Nat.mod_one]
theorem OwnP.made (w : World) (n : Nat) (hn : n ≤ 1000000000000) : OwnP (w.alloc (.cells (madeCells #[Value.slice none 0 0] n) 45)) w.heap.size (w.heap.size + 1) (.slice (some ⟨w.heap.size, 0, none⟩) n n) (List.replicate n []) := by
  have hg : ∀ k, k < n → (List.replicate n (Value.slice none 0 0)).getD k (.slice none 0 0) = .slice none 0 0 := fun k hk => by simp [List.getD_eq_getElem?_getD, hk]
  refine ⟨List.replicate n (.slice none 0 0), by simp, ?_, fun g hg => by simp [Value.ownBlock] at hg; omega, fun k hk => ?_, fun i j g hi hj hne he => ?_⟩
  · refine ⟨by simp, .inr ⟨w.heap.size, n, _, by simp, Nat.le_refl _, heap_alloc_new w _, by simp, by unfold maxLen; omega, by rw [size_madeCells]; simp, ?_⟩⟩
    rw [madeCells_nil, List.take_of_length_le (by simp)]
  · simp at hk
    rw [hg k hk]
    refine ⟨?_, fun g hg => by simp [Value.ownBlock] at hg⟩
    rw [show (List.replicate n ([] : List Int)).getD k [] = [] by simp [List.getD_eq_getElem?_getD, hk]]
    exact OwnI.nil_ _ _
  · simp at hi
    rw [hg i hi] at he
    simp [Value.ownBlock] at he
theorem makeP {w : World} {ops : Array Oper} {rest : List Oper} {o : Oper} {a : Act} {Q : Exit → Act → World → Prop} (l : Operand) (n : Nat)
    (hg : o.guard = none) (hop : o.op = Op.makeSlice 22 l l) (hl : a.eval l = .int .i64 (n : Int)) (hn : n ≤ 1000000000)
    (h : ∀ w', OwnP w' w.heap.size (w.heap.size + 1) (.slice (some ⟨w.heap.size, 0, none⟩) n n) (List.replicate n []) → Below w.heap.size w w' → w'.heap.size = w.heap.size + 1 → wpList Try.prog ops Q rest (a.put o.dst (.slice (some ⟨w.heap.size, 0, none⟩) n n)) w') :
    wpList Try.prog ops Q (o :: rest) a w := by
  obtain ⟨i0, hi, hz0, hz1, hz2⟩ := info_parts T.infoRow
  refine wpList_make_row w hg l l 22 hop 45 i0 (.slice none 0 0) Try.underlying22 hi hz0 hz1 rfl .i64 .i64 n hl hl (by rw [hz2]; omega) (by omega) ?_
  exact h _ (OwnP.made w n (by omega)) ((Below.refl _ _).alloc (Nat.le_refl _) _) (by simp)
/-- A new row is put in the place of row k. -/
theorem OwnP.store {w : World} {lo hi : Nat} {u : Value} {xss : List (List Int)} {ys : List Int} {g n c k : Nat} (h : OwnP w lo hi (.slice (some ⟨g, 0, none⟩) n c) xss) (hk : k < xss.length)
    (hu : OwnI w lo u ys) (hu2 : ∀ b, u.ownBlock = some b → hi ≤ b) : OwnP (w.setCell ⟨g, k, none⟩ u) lo w.heap.size (.slice (some ⟨g, 0, none⟩) n c) (xss.set k ys) := by
  obtain ⟨us, h1, h2, h3, h4, h5⟩ := h
  have hku : k < us.length := by omega
  have hgb : lo ≤ g ∧ g < w.heap.size := ownsRow_block_ge h2 rfl
  have hghi : g < hi := h3 g rfl
  have hsz : (w.setCell ⟨g, k, none⟩ u).heap.size = w.heap.size := by simp [World.setCell]
  have hoth : ∀ b, b ≠ g → (w.setCell ⟨g, k, none⟩ u).heap[b]? = w.heap[b]? := fun b hb => Below.heap_setCell w ⟨g, k, none⟩ u b (by simpa using hb)
  refine ⟨us.set k u, by simp [h1], ?_, fun b hb => ?_, fun j hj => ?_, fun i j b hi1 hj1 hne hb => ?_⟩
  · rcases h2.2 with ⟨h0, _⟩ | ⟨g', cap, cur, e0, e1, e2, e3, e4, e5, e6⟩
    · simp at h0
    · simp only [Value.slice.injEq, Option.some.injEq, Addr.mk.injEq] at e0
      obtain ⟨⟨rfl, _⟩, rfl, rfl⟩ := e0
      refine ⟨by simp, .inr ⟨g, c, cur.setIfInBounds k u, by simp, e1, ?_, by simpa using e3, e4, by simpa using e5, ?_⟩⟩
      · simp [World.setCell, Array.getElem?_modify, e2]
      · rw [Array.toList_setIfInBounds, List.length_set, List.take_set, e6]
  · simp [Value.ownBlock] at hb
    omega
  · have hj' : j < us.length := by simpa using hj
    by_cases hjk : j = k
    · subst hjk
      rw [show (us.set j u).getD j (.slice none 0 0) = u by simp [List.getD_eq_getElem?_getD, hj'], show (xss.set j ys).getD j [] = ys by simp [List.getD_eq_getElem?_getD, hk]]
      refine ⟨hu.of_block fun b hb => hoth b ?_, fun b hb => ⟨(hu.block_ge hb).2, ?_⟩⟩
      · have := hu2 b hb; omega
      · have := hu2 b hb
        simp [Value.ownBlock]; omega
    · rw [show (us.set k u).getD j (.slice none 0 0) = us.getD j (.slice none 0 0) by simp [List.getD_eq_getElem?_getD, Ne.symm hjk], show (xss.set k ys).getD j [] = xss.getD j [] by simp [List.getD_eq_getElem?_getD, Ne.symm hjk]]
      have h6 := h4 j hj'
      refine ⟨h6.1.of_block fun b hb => hoth b ?_, fun b hb => ⟨(h6.1.block_ge hb).2, (h6.2 b hb).2⟩⟩
      have := (h6.2 b hb).2
      simp [Value.ownBlock] at this
      omega
  · have hi2 : i < us.length := by simpa using hi1
    have hj2 : j < us.length := by simpa using hj1
    by_cases hik : i = k
    · subst hik
      rw [show (us.set i u).getD i (.slice none 0 0) = u by simp [List.getD_eq_getElem?_getD, hi2]] at hb
      rw [show (us.set i u).getD j (.slice none 0 0) = us.getD j (.slice none 0 0) by simp [List.getD_eq_getElem?_getD, hne]]
      intro hb2
      have := hu2 b hb
      have := ((h4 j hj2).2 b hb2).1
      omega
    · rw [show (us.set k u).getD i (.slice none 0 0) = us.getD i (.slice none 0 0) by simp [List.getD_eq_getElem?_getD, Ne.symm hik]] at hb
      by_cases hjk : j = k
      · subst hjk
        rw [show (us.set j u).getD j (.slice none 0 0) = u by simp [List.getD_eq_getElem?_getD, hj2]]
        intro hb2
        have := hu2 b hb2
        have := ((h4 i hi2).2 b hb).1
        omega
      · rw [show (us.set k u).getD j (.slice none 0 0) = us.getD j (.slice none 0 0) by simp [List.getD_eq_getElem?_getD, Ne.symm hjk]]
        exact h5 i j b hi2 hj2 hne hb
/-- The outer block's cell may be written. -/
theorem OwnP.outer {w : World} {lo hi : Nat} {xss : List (List Int)} {g n c : Nat} (h : OwnP w lo hi (.slice (some ⟨g, 0, none⟩) n c) xss) : lo ≤ g ∧ g < hi ∧ g < w.heap.size ∧ ∀ k, w.frozen? ⟨g, k, none⟩ = false := by
  obtain ⟨us, h1, h2, h3, h4, h5⟩ := h
  have hgb := ownsRow_block_ge h2 rfl
  refine ⟨hgb.1, h3 g rfl, hgb.2, fun k => ?_⟩
  rcases h2.2 with ⟨h0, _⟩ | ⟨g', cap, cur, e0, e1, e2, _⟩
  · simp at h0
  · simp only [Value.slice.injEq, Option.some.injEq, Addr.mk.injEq] at e0
    obtain ⟨⟨rfl, _⟩, _⟩ := e0
    simp [World.frozen?, e2]
theorem OwnP.cell {w : World} {lo hi : Nat} {xss : List (List Int)} {g n c : Nat} (h : OwnP w lo hi (.slice (some ⟨g, 0, none⟩) n c) xss) {k : Nat} (hk : k < xss.length) :
    ∃ A c', w.cell? ⟨g, k, none⟩ = some (.slice A (xss.getD k []).length c') := by
  obtain ⟨g', c1, A, c', e, _, _, _, h5, _⟩ := h.row hk
  simp only [Value.slice.injEq, Option.some.injEq, Addr.mk.injEq] at e
  obtain ⟨⟨rfl, _⟩, _⟩ := e
  exact ⟨A, c', h5⟩
/-- A new list of lists is returned. -/
def NewP (w : World) (xss : List (List Int)) (e : Ending) (w' : World) : Prop := ∃ A c, e = .returned (.slice A xss.length c) ∧ OwnP w' w.heap.size w'.heap.size (.slice A xss.length c) xss ∧ Below w.heap.size w w'
/-- A new plane is returned. -/
def NewPl (w : World) (m : Int) (xss : List (List Int)) (e : Ending) (w' : World) : Prop := ∃ A c, e = .returned (.agg #[.int .i64 m, .slice A xss.length c]) ∧ OwnP w' w.heap.size w'.heap.size (.slice A xss.length c) xss ∧ Below w.heap.size w w'

/-! ### Tables of planes -/
def tab (n : Nat) (f : Nat → Nat → Int) : List (List Int) := (List.range n).map fun i => lst (n - i) (f i)
def co2 (xss : List (List Int)) (i j : Nat) : Int := co (xss.getD i []) j
theorem length_tab (n : Nat) (f : Nat → Nat → Int) : (tab n f).length = n := by simp [tab]
theorem getD_tab {n : Nat} (f : Nat → Nat → Int) {i : Nat} (h : i < n) : (tab n f).getD i [] = lst (n - i) (f i) := by simp [tab, List.getD_eq_getElem?_getD, h]
theorem co2_tab {n : Nat} (f : Nat → Nat → Int) {i j : Nat} (h : i + j < n) : co2 (tab n f) i j = f i j := by
  unfold co2 co
  rw [getD_tab f (by omega), getD_lst _ _ _ (by omega)]
theorem tab_congr {n : Nat} {f g : Nat → Nat → Int} (e : ∀ i j, i + j < n → f i j = g i j) : tab n f = tab n g := by
  unfold tab
  apply List.map_congr_left
  intro i hi
  have := List.mem_range.1 hi
  exact lst_congr fun j hj => e i j (by omega)
def upd2 (f : Nat → Nat → Int) (i j : Nat) (y : Int) : Nat → Nat → Int := fun a b => if a = i ∧ b = j then y else f a b
theorem set_tab (n : Nat) (f : Nat → Nat → Int) (i j : Nat) (y : Int) : (tab n f).set i ((lst (n - i) (f i)).set j y) = tab n (upd2 f i j y) := by
  apply List.ext_getElem
  · simp [tab]
  · intro k h1 h2
    have hk : k < n := by simpa [tab] using h2
    rw [List.getElem_set]
    have e2 : (tab n (upd2 f i j y))[k] = lst (n - k) (upd2 f i j y k) := by simp [tab]
    rw [e2]
    by_cases h : i = k
    · subst h
      rw [if_pos rfl, set_lst]
      apply lst_congr
      intro b _
      by_cases hb : b = j
      · simp [upd, upd2, hb]
      · simp [upd, upd2, hb]
    · rw [if_neg h]
      have e3 : (tab n f)[k]'(by simpa [tab] using hk) = lst (n - k) (f k) := by simp [tab]
      rw [e3]
      apply lst_congr
      intro b _
      simp [upd2, Ne.symm h]
theorem set_tab' (n : Nat) (f : Nat → Nat → Int) (i j : Nat) (y : Int) (h : i < n) : (tab n f).set i (((tab n f).getD i []).set j y) = tab n (upd2 f i j y) := by rw [getD_tab f h, set_tab]
theorem tab_self {xss : List (List Int)} (h : ∀ i, i < xss.length → (xss.getD i []).length = xss.length - i) : tab xss.length (co2 xss) = xss := by
  apply List.ext_getElem
  · simp [tab]
  · intro k h1 h2
    have e2 : (tab xss.length (co2 xss))[k] = lst (xss.length - k) (co2 xss k) := by simp [tab]
    have e3 : xss.getD k [] = xss[k] := by simp [List.getD_eq_getElem?_getD, h2]
    rw [e2, ← h k h2, ← e3]
    exact lst_self _
/-- The table filled row by row, up to place j of row i. -/
def fil2 (F : Nat → Nat → Int) (i j : Nat) : Nat → Nat → Int := fun a b => if a < i ∨ (a = i ∧ b < j) then F a b else 0
theorem fil2_zero (F : Nat → Nat → Int) (n : Nat) : tab n (fun _ _ => 0) = tab n (fil2 F 0 0) := tab_congr fun a b _ => by simp [fil2]
theorem fil2_step (F : Nat → Nat → Int) (n i j : Nat) : tab n (upd2 (fil2 F i j) i j (F i j)) = tab n (fil2 F i (j + 1)) := tab_congr fun a b _ => by
  unfold upd2 fil2
  by_cases h : a = i ∧ b = j
  · obtain ⟨rfl, rfl⟩ := h
    simp
  · rw [if_neg h]
    by_cases h2 : a < i ∨ (a = i ∧ b < j)
    · rw [if_pos h2, if_pos (by omega)]
    · rw [if_neg h2, if_neg (by omega)]
theorem fil2_row (F : Nat → Nat → Int) (n i : Nat) : tab n (fil2 F i (n - i)) = tab n (fil2 F (i + 1) 0) := tab_congr fun a b hab => by
  unfold fil2
  by_cases h2 : a < i + 1 ∨ (a = i + 1 ∧ b < 0)
  · rw [if_pos h2, if_pos (by omega)]
  · rw [if_neg h2, if_neg (by omega)]
theorem fil2_all (F : Nat → Nat → Int) (n : Nat) : tab n (fil2 F n 0) = tab n F := tab_congr fun a b hab => by
  unfold fil2
  rw [if_pos (by omega)]
/-! ### Planes -/
def isPl (m : Int) (xss : List (List Int)) : Bool := isModB m && inB xss.length 2 11 && (List.range xss.length).all fun i => decide ((xss.getD i []).length = xss.length - i) && numsB m (xss.getD i [])
theorem isPl_true {m : Int} {xss : List (List Int)} (h : isPl m xss = true) : isModB m = true ∧ (2 ≤ xss.length ∧ xss.length ≤ 11) ∧ ∀ i, i < xss.length → (xss.getD i []).length = xss.length - i ∧ numsB m (xss.getD i []) = true := by
  simp only [isPl, Bool.and_eq_true, List.all_eq_true, List.mem_range, decide_eq_true_eq] at h
  have := inB_true.1 h.1.2
  exact ⟨h.1.1, by omega, h.2⟩
theorem numsB_num {m : Int} {xs : List Int} (hm : 0 < m) (h : numsB m xs = true) (k : Nat) : 0 ≤ co xs k ∧ co xs k < m := by
  unfold co
  rcases Nat.lt_or_ge k xs.length with hk | hk
  · rw [List.getD_eq_getElem?_getD, List.getElem?_eq_getElem hk]
    unfold numsB at h
    rw [List.all_eq_true] at h
    exact isNumB_true (h _ (List.getElem_mem hk))
  · rw [List.getD_eq_getElem?_getD, List.getElem?_eq_none hk]
    simp
    omega
theorem isPl_num {m : Int} {xss : List (List Int)} (h : isPl m xss = true) (i j : Nat) : 0 ≤ co2 xss i j ∧ co2 xss i j < m := by
  obtain ⟨h1, _, h3⟩ := isPl_true h
  have h4 := isModB_true h1
  unfold co2
  rcases Nat.lt_or_ge i xss.length with hi | hi
  · exact numsB_num (by omega) (h3 i hi).2 j
  · have : xss.getD i [] = [] := by rw [List.getD_eq_getElem?_getD, List.getElem?_eq_none hi]; rfl
    rw [this]
    simp [co]
    omega
theorem isPl_tab {m : Int} {xss : List (List Int)} (h : isPl m xss = true) : tab xss.length (co2 xss) = xss := tab_self fun i hi => ((isPl_true h).2.2 i hi).1
theorem isPl_len {m : Int} {xss : List (List Int)} (h : isPl m xss = true) {i : Nat} (hi : i < xss.length) : (xss.getD i []).length = xss.length - i := ((isPl_true h).2.2 i hi).1
/-- Up to row k all is well. -/
theorem isPl_take_succ (m : Int) (xss : List (List Int)) (k : Nat) (hk : k < xss.length) (h : ∀ i, i < k → (xss.getD i []).length = xss.length - i ∧ numsB m (xss.getD i []) = true) (h1 : (xss.getD k []).length = xss.length - k) (h2 : numsB m (xss.getD k []) = true) :
    ∀ i, i < k + 1 → (xss.getD i []).length = xss.length - i ∧ numsB m (xss.getD i []) = true := fun i hi => by
  rcases Nat.lt_or_ge i k with h' | h'
  · exact h i h'
  · obtain rfl : i = k := by omega
    exact ⟨h1, h2⟩
theorem isPl_of (m : Int) (xss : List (List Int)) (h1 : isModB m = true) (h2 : inB xss.length 2 11 = true) (h : ∀ i, i < xss.length → (xss.getD i []).length = xss.length - i ∧ numsB m (xss.getD i []) = true) : isPl m xss = true := by
  simp only [isPl, Bool.and_eq_true, List.all_eq_true, List.mem_range, decide_eq_true_eq]
  exact ⟨⟨h1, h2⟩, h⟩
theorem isPl_not {m : Int} {xss : List (List Int)} {k : Nat} (hk : k < xss.length) (h : (xss.getD k []).length ≠ xss.length - k ∨ numsB m (xss.getD k []) = false) : isPl m xss = false := by
  cases e : isPl m xss with
  | false => rfl
  | true =>
    obtain ⟨_, _, h3⟩ := isPl_true e
    have := h3 k hk
    rcases h with h | h
    · exact absurd this.1 h
    · rw [h] at this; simp at this

/-! ### The laws' helpers on planes -/
def RetPI (w : World) (r : (Int × List (List Int)) × Int) (e : Ending) (w' : World) : Prop := ∃ A c, e = .returned (.tuple #[.agg #[.int .i64 r.1.1, .slice A r.1.2.length c], .int .i64 r.2]) ∧ OwnP w' w.heap.size w'.heap.size (.slice A r.1.2.length c) r.1.2 ∧ Below w.heap.size w w'
theorem RetPI.of {w : World} {r r' : (Int × List (List Int)) × Int} {e : Ending} {w' : World} (h : RetPI w r e w') (he : Hid (r = r')) : RetPI w r' e w' := by rw [← he.out]; exact h
theorem OwnP.far {w : World} {lo hi : Nat} {v : Value} {xss : List (List Int)} (h : OwnP w lo hi v xss) {p : Addr} (hp : p.block < lo ∨ hi ≤ p.block) (u : Value) : OwnP (w.setCell p u) lo hi v xss :=
  h.of_block fun k _ h1 h2 => Below.heap_setCell w p u k (by omega)
theorem OwnP.alloc {w : World} {lo hi : Nat} {v : Value} {xss : List (List Int)} (h : OwnP w lo hi v xss) (o : Obj) : OwnP (w.alloc o) lo hi v xss :=
  h.of_block fun k hk _ _ => Below.heap_alloc w o k hk
theorem OwnP.hi_le {w : World} {lo hi : Nat} {v : Value} {xss : List (List Int)} (h : OwnP w lo hi v xss) : OwnP w lo w.heap.size v xss := by
  obtain ⟨us, k1, k2, k3, k4, k5⟩ := h
  exact ⟨us, k1, k2, fun g hg => (ownsRow_block_ge k2 hg).2, fun k hk => ⟨(k4 k hk).1, fun g hg => ⟨((k4 k hk).1.block_ge hg).2, ((k4 k hk).2 g hg).2⟩⟩, k5⟩
theorem copyP_step (xss : List (List Int)) (k : Nat) (hk : k < xss.length) : (xss.take k ++ List.replicate (xss.length - k) []).set k (xss.getD k []) = xss.take (k + 1) ++ List.replicate (xss.length - (k + 1)) [] := by
  have h1 : (xss.take k).length = k := by simp; omega
  rw [List.set_append_right _ _ (by omega), h1, Nat.sub_self, List.take_succ_eq_append_getElem hk, List.getD_eq_getElem?_getD, List.getElem?_eq_getElem hk, List.append_assoc]
  congr 1
  obtain ⟨m, hm⟩ : ∃ m, xss.length - k = m + 1 := ⟨xss.length - k - 1, by omega⟩
  rw [hm, show xss.length - (k + 1) = m by omega, List.replicate_succ]
  rfl
theorem len_le_cnt (xss : List (List Int)) (k : Nat) (hk : k < xss.length) : (xss.getD k []).length ≤ cntP xss := by
  have := cntP_take_succ xss k hk
  have := cntP_take_le xss (k + 1)
  omega
set_option maxHeartbeats 1000000 in
theorem toQ_any (w : World) (v : Value) (xss : List (List Int)) (hv : RdP w v xss) (hl : xss.length ≤ 2000000) (hl2 : cntP xss ≤ 2000000) : Calls Try.prog 77 #[v] w (NewP w xss) := by
  obtain ⟨A, c, rfl, hc1, hc2, hA⟩ := hv
  unfold maxLen at hc2
  go_enter Try.func77, Try.ntmps77
  go_wp2_with (at_make; refine makeP _ xss.length rfl rfl rfl (by omega) ?_; intro w0 hr0 hb0 hs0; have HS := Lib.hid hs0; have HR := Lib.hid hr0; clear hs0 hr0)
  go_loopw [4] (fun i wr => ∃ k : Nat, k ≤ xss.length ∧ i = .int .i64 k ∧ Hid (OwnP wr w.heap.size wr.heap.size (.slice (some ⟨w.heap.size, 0, none⟩) xss.length xss.length) (xss.take k ++ List.replicate (xss.length - k) [])) ∧ Below w.heap.size w wr) (fun i _ => xss.length - (intOf i).toNat)
  case atStart => exact ⟨0, Nat.zero_le _, rfl, by (unfold Hid; simpa using HR.out.hi_le), hb0⟩
  case round =>
    obtain ⟨k, hk, rfl, ho, hb⟩ := hrel
    clear hb0 HR HS
    by_cases hlt : k < xss.length
    · obtain ⟨b, off, u, rfl, hb1, hcell, hr⟩ := hA k hlt
      clear hA
      have hc0 : wr.cell? ⟨b, off + k, none⟩ = some u := (hb.cell (p := ⟨b, off + k, none⟩) hb1).trans hcell
      have hr2 := hr.below hb
      obtain ⟨A1, c1, e1⟩ := hr2.form
      subst e1
      clear hcell hr
      have HP := Lib.hid (copyP_step xss k hlt)
      have hxl : (xss.getD k []).length ≤ 2000000 := Nat.le_trans (len_le_cnt xss k hlt) hl2
      have HLEN : Hid ((xss.take k ++ List.replicate (xss.length - k) []).length = xss.length) := by unfold Hid; simp; omega
      obtain ⟨o1, o2, o3, hfr⟩ := ho.out.outer
      have hf0 := hfr k
      clear hfr
      obtain ⟨A2, c2, hd0⟩ := ho.out.cell (k := k) (by rw [HLEN.out]; exact hlt)
      obtain ⟨x, hx⟩ : ∃ x, x = xss.getD k [] := ⟨_, rfl⟩
      rw [← hx] at hc0 HP hr2 hxl
      clear hx
      generalize hyy : Value.slice A2 ((xss.take k ++ List.replicate (xss.length - k) []).getD k []).length c2 = y at hd0
      clear hyy
      have hzz := hb.size
      go_wp2_with (go_at_call 141; refine (toInt64S_any _ _ x hr2 hxl).mono ?_; rintro e w1 ⟨A3, c3, rfl, hu, hb3⟩; have hd1 := (hb3.cell (p := ⟨w.heap.size, k, none⟩) o3).trans hd0; have hf1 := (hb3.frozen (p := ⟨w.heap.size, k, none⟩) o3).trans hf0; have z3 := hb3.size; have z3p : w.heap.size < w1.heap.size := (by omega))
      go_roundw
      case rel =>
        refine ⟨k + 1, by omega, by go_num, ?_, (hb.trans (hb3.mono hzz)).setCell (by simp) _⟩
        unfold Hid
        rw [← HP.out]
        have := (ho.out.keep hb3).store (k := k) (by rw [HLEN.out]; exact hlt) (hu.mono hzz) (fun g hg => (hu.block_ge hg).1)
        exact this.hi_le
      case measure => simp [intOf]; omega
    · obtain rfl : k = xss.length := by omega
      have hr' : OwnP wr w.heap.size wr.heap.size (.slice (some ⟨w.heap.size, 0, none⟩) xss.length xss.length) xss := by simpa using ho.out
      go_wp2
      go_ret
      exact ⟨_, _, rfl, hr', hb⟩
theorem toP_any (w : World) (m : Int) (v : Value) (xss : List (List Int)) (hv : RdP w v xss) (hl : szP xss ≤ 2000000) : Calls Try.prog 16 #[.agg #[.int .i64 m, v]] w (NewPl w m xss) := by
  obtain ⟨A0, c0, rfl, hv1⟩ := id hv
  clear hv1
  go_enter Try.func16, Try.ntmps16
  go_wp2_with fail
  refine (toQ_any _ _ xss (hv.below ?_) (Nat.le_trans (length_le_szP xss) hl) (Nat.le_trans (cntP_le_szP xss) hl)).mono ?_
  · (repeat (first | assumption | exact Below.refl _ _ | refine Below.alloc ?_ (by first | omega | (simp; done) | (simp; omega)) _ | refine Below.setCell ?_ (by first | omega | (simp; done) | (simp; omega)) _ | refine below_drewN ?_ _))
  rintro e w1 ⟨A, c, rfl, hu, hb⟩
  obtain ⟨hc, hf⟩ := bcell hb
  have hz := hb.size
  simp at hz
  go_wp2
  refine bodyPost_ret (v := .agg #[.int .i64 m, .slice A xss.length c]) (by simp [results, Try.results16, go_sem, hc]) rfl ⟨A, c, rfl, ?_, ?_⟩
  · refine ((((hu.far ?_ _).far ?_ _).far ?_ _).mono ?_ ?_)
    all_goals first | (left; simp; done) | (left; simp; omega) | (simp; done) | (simp; omega) | (simp [World.setCell])
  · refine (((Below.trans ?_ (hb.mono ?_)).setCell ?_ _).setCell ?_ _).setCell ?_ _
    · (repeat (first | assumption | exact Below.refl _ _ | refine Below.alloc ?_ (by first | omega | (simp; done) | (simp; omega)) _ | refine Below.setCell ?_ (by first | omega | (simp; done) | (simp; omega)) _ | refine below_drewN ?_ _))
    all_goals (simp; try omega)
set_option maxHeartbeats 1000000 in
theorem szQ_any (w : World) (v : Value) (xss : List (List Int)) (q : Int) (hv : RdP w v xss) (hq : 0 ≤ q) (hq' : q ≤ 1048576) :
    Calls Try.prog 73 #[v, .int .i64 q] w fun e w' => e = .returned (.int .i64 (szN q (szP xss))) ∧ w = w' := by
  obtain ⟨A, c, rfl, hc1, hc2, hA⟩ := hv
  unfold maxLen at hc2
  by_cases h : q < xss.length
  · have HF : Hid (szN q (szP xss) = -1) := szN_lt (by have := length_le_szP xss; omega)
    clear hA
    go_enter Try.func73, Try.ntmps73
    go_wp2
    go_ret
    exact ⟨by rw [HF.out]; rfl, rfl⟩
  · go_enter Try.func73, Try.ntmps73
    go_wp2
    go_loop [1, 5] (fun t i => ∃ k : Nat, k ≤ xss.length ∧ i = .int .i64 k ∧ t = .int .i64 (q - xss.length - (cntP (xss.take k) : Int)) ∧ 0 ≤ q - xss.length - (cntP (xss.take k) : Int)) (fun _ i => xss.length - (intOf i).toNat)
    case atStart => exact ⟨0, Nat.zero_le _, rfl, by simp [cntP], by simp [cntP]; omega⟩
    case round =>
      obtain ⟨k, hk, rfl, rfl, hge⟩ := hrel
      by_cases hlt : k < xss.length
      · obtain ⟨b, off, u, rfl, hb1, hcell, hr⟩ := hA k hlt
        clear hA
        obtain ⟨A1, c1, e1⟩ := hr.form
        subst e1
        have hs := cntP_take_succ xss k hlt
        have ht := cntP_take_le xss (k + 1)
        have HS := Lib.hid hs
        have hsz : szP xss = xss.length + cntP xss := rfl
        obtain ⟨x, hx⟩ : ∃ x, x = xss.getD k [] := ⟨_, rfl⟩
        rw [← hx] at hcell hr hs HS
        have HR := Lib.hid hr
        by_cases h2 : q - xss.length - (cntP (xss.take k) : Int) < x.length
        · have HN := Lib.hid (szN_lt h2)
          have HF : Hid (szN q (szP xss) = -1) := szN_lt (by omega)
          generalize cntP (xss.take k) = cn at *
          clear hx hs hr hsz ht
          go_wp2_with (go_at_call 138; refine (szInt64S_any _ _ x _ HR.out hge (by omega)).mono ?_; rintro e w1 ⟨rfl, rfl⟩; rw [HN.out])
          go_ret
          exact ⟨by rw [HF.out]; rfl, rfl⟩
        · have HN := Lib.hid (szN_ge h2)
          have hge' : 0 ≤ q - xss.length - (cntP (xss.take k) : Int) - x.length := by omega
          generalize cntP (xss.take k) = cn at *
          clear hx hs hr hsz ht
          go_wp2_with (go_at_call 138; refine (szInt64S_any _ _ x _ HR.out hge (by omega)).mono ?_; rintro e w1 ⟨rfl, rfl⟩; rw [HN.out])
          go_round
          case rel => exact ⟨k + 1, by omega, by go_num, by rw [HS.out]; go_num, by rw [HS.out]; omega⟩
          case measure => simp [intOf]; omega
      · obtain rfl : k = xss.length := by omega
        have HF : Hid (szN q (szP xss) = q - xss.length - (cntP xss : Int)) := by
          unfold Hid
          rw [List.take_length] at hge
          have hsz : szP xss = xss.length + cntP xss := rfl
          rw [szN_ge (by omega)]
          omega
        go_wp2
        go_ret
        exact ⟨by rw [HF.out]; rfl, rfl⟩
theorem szP_any (w : World) (m : Int) (v : Value) (xss : List (List Int)) (q : Int) (hv : RdP w v xss) (hq : 0 ≤ q) (hq' : q ≤ 1048576) :
    Calls Try.prog 14 #[.agg #[.int .i64 m, v], .int .i64 q] w fun e w' => e = .returned (.int .i64 (szN q (szP xss))) ∧ Below w.heap.size w w' := by
  obtain ⟨A0, c0, rfl, hv1⟩ := id hv
  clear hv1
  by_cases h : q < szP xss
  · have HF := Lib.hid (szN_lt h)
    go_enter Try.func14, Try.ntmps14
    go_wp2_with fail
    refine (szQ_any _ _ xss q (hv.below ?_) hq hq').mono ?_
    · (repeat (first | assumption | exact Below.refl _ _ | refine Below.alloc ?_ (by first | omega | (simp; done) | (simp; omega)) _ | refine Below.setCell ?_ (by first | omega | (simp; done) | (simp; omega)) _ | refine below_drewN ?_ _))
    rintro e w1 ⟨rfl, rfl⟩
    rw [HF.out]
    go_wp2
    go_ret
    exact ⟨by rw [HF.out]; rfl, by (repeat (first | assumption | exact Below.refl _ _ | refine Below.alloc ?_ (by first | omega | (simp; done) | (simp; omega)) _ | refine Below.setCell ?_ (by first | omega | (simp; done) | (simp; omega)) _ | refine below_drewN ?_ _))⟩
  · have HF := Lib.hid (szN_ge h)
    go_enter Try.func14, Try.ntmps14
    go_wp2_with fail
    refine (szQ_any _ _ xss q (hv.below ?_) hq hq').mono ?_
    · (repeat (first | assumption | exact Below.refl _ _ | refine Below.alloc ?_ (by first | omega | (simp; done) | (simp; omega)) _ | refine Below.setCell ?_ (by first | omega | (simp; done) | (simp; omega)) _ | refine below_drewN ?_ _))
    rintro e w1 ⟨rfl, rfl⟩
    rw [HF.out]
    go_wp2
    go_ret
    exact ⟨by rw [HF.out]; rfl, by (repeat (first | assumption | exact Below.refl _ _ | refine Below.alloc ?_ (by first | omega | (simp; done) | (simp; omega)) _ | refine Below.setCell ?_ (by first | omega | (simp; done) | (simp; omega)) _ | refine below_drewN ?_ _))⟩
theorem eqP_any (w : World) (m n : Int) (v u : Value) (xss yss : List (List Int)) (hv : RdP w v xss) (hu : RdP w u yss) :
    Calls Try.prog 11 #[.agg #[.int .i64 m, v], .agg #[.int .i64 n, u]] w fun e w' => e = .returned (.bool (m == n && xss == yss)) ∧ Below w.heap.size w w' := by
  obtain ⟨A0, c0, rfl, hv1⟩ := id hv
  obtain ⟨A1, c1, rfl, hu1⟩ := id hu
  clear hv1 hu1
  by_cases h : m = n
  · have h1 : (m != n) = false := by simpa using h
    have HF : Hid ((m == n && xss == yss) = (xss == yss)) := by simp [Hid, h]
    clear h
    cases hs : (xss == yss)
    all_goals
      rw [hs] at HF
      have HS := Lib.hid hs
      clear hs
      go_enter Try.func11, Try.ntmps11
      go_wp2_with fail
      refine (eqQ_any _ _ _ xss yss (hv.below ?_) (hu.below ?_)).mono ?_
      · (repeat (first | assumption | exact Below.refl _ _ | refine Below.alloc ?_ (by first | omega | (simp; done) | (simp; omega)) _ | refine Below.setCell ?_ (by first | omega | (simp; done) | (simp; omega)) _ | refine below_drewN ?_ _))
      · (repeat (first | assumption | exact Below.refl _ _ | refine Below.alloc ?_ (by first | omega | (simp; done) | (simp; omega)) _ | refine Below.setCell ?_ (by first | omega | (simp; done) | (simp; omega)) _ | refine below_drewN ?_ _))
      rintro e w1 ⟨rfl, hb⟩
      rw [HS.out]
      have K : Below w.heap.size w w1 := Below.trans (by (repeat (first | assumption | exact Below.refl _ _ | refine Below.alloc ?_ (by first | omega | (simp; done) | (simp; omega)) _ | refine Below.setCell ?_ (by first | omega | (simp; done) | (simp; omega)) _ | refine below_drewN ?_ _))) (hb.mono (by simp; omega))
      go_wp2
      go_ret
      exact ⟨by rw [HF.out]; rfl, K⟩
  · have h1 : (m != n) = true := by simpa using h
    have HF : Hid ((m == n && xss == yss) = false) := by simp [Hid, h]
    clear h
    go_enter Try.func11, Try.ntmps11
    go_wp2
    go_ret
    exact ⟨by rw [HF.out]; rfl, by (repeat (first | assumption | exact Below.refl _ _ | refine Below.alloc ?_ (by first | omega | (simp; done) | (simp; omega)) _ | refine Below.setCell ?_ (by first | omega | (simp; done) | (simp; omega)) _ | refine below_drewN ?_ _))⟩
theorem markPB_any (w : World) (lo hi : Nat) (m : Int) (v : Value) (xss : List (List Int)) (q : Int) (hv : OwnP w lo hi v xss) (hl : cntP xss ≤ 100000000) (hq : 0 ≤ q) (hq' : q ≤ 500000000) :
    Calls Try.prog 12 #[.agg #[.int .i64 m, v], .int .i64 q] w (MarkedQ w lo hi v q xss) := by
  obtain ⟨A0, c0, e0, _, _⟩ := hv.form
  subst e0
  go_enter Try.func12, Try.ntmps12
  go_wp2_with fail
  refine (markQ_any _ lo hi _ xss q (hv.alloc _) hl hq hq').mono ?_
  rintro e w1 ⟨rfl, ho, hg⟩
  go_wp2
  go_ret
  exact ⟨rfl, ho, Within.behind (by (repeat (first | assumption | exact Below.refl _ _ | refine Below.alloc ?_ (by first | omega | (simp; done) | (simp; omega)) _ | refine Below.setCell ?_ (by first | omega | (simp; done) | (simp; omega)) _ | refine below_drewN ?_ _))) hg⟩
theorem heldPB_any (w : World) (lo hi : Nat) (m : Int) (v : Value) (xss : List (List Int)) (q : Int) (hv : OwnP w lo hi v (mkP q xss)) (hl : cntP xss ≤ 100000000) (hq : 0 ≤ q) (hq' : q ≤ 500000000) :
    Calls Try.prog 13 #[.agg #[.int .i64 m, v], .int .i64 q] w fun e w' => e = .returned (.int .i64 (q + (cntP xss : Int))) ∧ Below w.heap.size w w' := by
  obtain ⟨A0, c0, e0, _, _⟩ := hv.form
  rw [length_mkP] at e0
  subst e0
  go_enter Try.func13, Try.ntmps13
  go_wp2_with fail
  refine (heldQ_any _ lo hi _ xss q (hv.alloc _) hl hq hq').mono ?_
  rintro e w1 ⟨rfl, hb⟩
  have K : Below w.heap.size w w1 := Below.trans (by (repeat (first | assumption | exact Below.refl _ _ | refine Below.alloc ?_ (by first | omega | (simp; done) | (simp; omega)) _ | refine Below.setCell ?_ (by first | omega | (simp; done) | (simp; omega)) _ | refine below_drewN ?_ _))) (hb.mono (by simp))
  go_wp2
  go_ret
  exact ⟨rfl, K⟩

/-! ### Planes of the program and of the reference: what is one -/
theorem OwnP.at_ {w : World} {lo hi : Nat} {v : Value} {xss : List (List Int)} (h : OwnP w lo hi v xss) : ∃ A c, v = .slice A xss.length c ∧ xss.length ≤ c ∧ c ≤ 2 ^ 63 - 1 ∧ ∀ k, k < xss.length → ∃ g Ar cr, A = some ⟨g, 0, none⟩ ∧ g < w.heap.size ∧ w.cell? ⟨g, k, none⟩ = some (.slice Ar (xss.getD k []).length cr) ∧ OwnI w lo (.slice Ar (xss.getD k []).length cr) (xss.getD k []) := by
  obtain ⟨A, c, rfl, h1, h2⟩ := h.form
  refine ⟨A, c, rfl, h1, h2, fun k hk => ?_⟩
  obtain ⟨g, c2, A2, c', e, _, _, h5, h6, _, h7, _⟩ := h.row hk
  simp only [Value.slice.injEq] at e
  exact ⟨g, A2, c', e.1, h5, h6, h7⟩
theorem l01Numbers_q (m : Int) (w : World) (v : Value) (xs : List Int) (B : Nat) (hm : isModB m = true) (hv : OwnI w B v xs) (b : Bool) (hb : Hid (numsB m xs = b)) :
    Calls Try.prog 139 #[.int .i64 m, v] w fun e w' => e = .returned (.bool b) ∧ ∃ k, w' = w.drewN k := by
  have h := l01Numbers_any m w v xs B hm hv
  rwa [hb.out] at h
set_option maxHeartbeats 2000000 in
theorem l03Is_len (w : World) (m : Int) (v : Value) (xss : List (List Int)) (lo hi : Nat) (hv : OwnP w lo hi v xss) (hl : xss.length ≤ 1000000000) (hcn : cntP xss ≤ 4000000000) :
    Calls Try.prog 74 #[.agg #[.int .i64 m, v]] w fun e w' => e = .returned (.bool (isPl m xss)) ∧ Below w.heap.size w w' := by
  obtain ⟨A, c, rfl, hc1, hc2, hA⟩ := hv.at_
  have hxl := hl
  cases hm : isModB m
  · have HF : Hid (isPl m xss = false) := by simp [Hid, isPl, hm]
    have HM := Lib.hid hm
    clear hm hA
    go_enter Try.func74, Try.ntmps74
    go_wp2_with (go_at_call 116; refine (sModulus_any _ _).mono ?_; rintro e w' ⟨rfl, k', rfl⟩; rw [HM.out])
    go_ret
    exact ⟨by rw [HF.out]; rfl, by (repeat (first | assumption | exact Below.refl _ _ | refine Below.alloc ?_ (by first | omega | (simp; done) | (simp; omega)) _ | refine Below.setCell ?_ (by first | omega | (simp; done) | (simp; omega)) _ | refine below_drewN ?_ _))⟩
  · cases hn : inB xss.length 2 11
    · have HF : Hid (isPl m xss = false) := by simp [Hid, isPl, hn]
      have HM := Lib.hid hm
      have hn2 := inB_false.1 hn
      clear hm hn hA
      by_cases h2 : (xss.length : Int) < 2
      · go_enter Try.func74, Try.ntmps74
        go_wp2_with (go_at_call 116; refine (sModulus_any _ _).mono ?_; rintro e w' ⟨rfl, k', rfl⟩; rw [HM.out])
        go_ret
        exact ⟨by rw [HF.out]; rfl, by (repeat (first | assumption | exact Below.refl _ _ | refine Below.alloc ?_ (by first | omega | (simp; done) | (simp; omega)) _ | refine Below.setCell ?_ (by first | omega | (simp; done) | (simp; omega)) _ | refine below_drewN ?_ _))⟩
      · have h3 : (11 : Int) < (xss.length : Int) := by omega
        go_enter Try.func74, Try.ntmps74
        go_wp2_with (go_at_call 116; refine (sModulus_any _ _).mono ?_; rintro e w' ⟨rfl, k', rfl⟩; rw [HM.out])
        go_ret
        exact ⟨by rw [HF.out]; rfl, by (repeat (first | assumption | exact Below.refl _ _ | refine Below.alloc ?_ (by first | omega | (simp; done) | (simp; omega)) _ | refine Below.setCell ?_ (by first | omega | (simp; done) | (simp; omega)) _ | refine below_drewN ?_ _))⟩
    · have HM := Lib.hid hm
      have HN := Lib.hid hn
      have hn2 := inB_true.1 hn
      have h2 : ¬ (xss.length : Int) < 2 := by omega
      have h3 : ¬ (11 : Int) < (xss.length : Int) := by omega
      have HA := Lib.hid hA
      clear hm hn hA
      go_enter Try.func74, Try.ntmps74
      go_wp2_with (go_at_call 116; refine (sModulus_any _ _).mono ?_; rintro e w' ⟨rfl, k', rfl⟩; rw [HM.out])
      go_loopw [4] (fun i wr => ∃ k : Nat, k ≤ xss.length ∧ i = .int .i64 k ∧ Hid (∀ i, i < k → (xss.getD i []).length = xss.length - i ∧ numsB m (xss.getD i []) = true) ∧ Hid (Bf wr w.heap.size (.int .i64 m) (.slice A xss.length c)) ∧ Hid (Below w.heap.size w wr)) (fun i _ => xss.length - (intOf i).toNat)
      case atStart => exact ⟨0, Nat.zero_le _, rfl, (fun j hj => by omega), (Bf.alloc1 w _ _ _).drewN _, by unfold Hid; (repeat (first | assumption | exact Below.refl _ _ | refine Below.alloc ?_ (by first | omega | (simp; done) | (simp; omega)) _ | refine Below.setCell ?_ (by first | omega | (simp; done) | (simp; omega)) _ | refine below_drewN ?_ _))⟩
      case round =>
        obtain ⟨k, hk, rfl, hp, HP, HB⟩ := hrel
        have p1 := HP.out.1.2.1
        have p2 := HP.out.1.2.2
        by_cases hlt : k < xss.length
        · obtain ⟨g, Ar, cr, rfl, hg, hcell, hown⟩ := HA.out k hlt
          have hc0 := (HB.out.cell (p := ⟨g, k, none⟩) hg).trans hcell
          have HO := Lib.hid (hown.keep HB.out (Nat.le_refl _))
          obtain ⟨x, hx⟩ : ∃ x, x = xss.getD k [] := ⟨_, rfl⟩
          rw [← hx] at hc0 HO
          have hxlen : x.length ≤ 4000000000 := by have := len_le_cnt xss k hlt; rw [hx]; omega
          have hi0 : (0 : Int) ≤ (k : Int) := by omega
          have hi1 : (k : Int) < (xss.length : Int) := by omega
          have v1 : IntKind.i64.wrap ((xss.length : Int) - (k : Int)) = (xss.length : Int) - (k : Int) := IntWalk.i64_in _ (by omega)
          have HX := Lib.hid hx
          clear hcell hown hx
          by_cases hxe : x.length = xss.length - k
          · have hb1 : ((x.length : Int) != (xss.length : Int) - (k : Int)) = false := by simp; omega
            have HXE := Lib.hid hxe
            clear hxe
            cases hnn : numsB m x
            · have HF : Hid (isPl m xss = false) := isPl_not hlt (.inr (by rw [← HX.out]; exact hnn))
              have HNN := Lib.hid hnn
              clear hnn
              go_wp2
              go_quiet ((go_at_call 139; exact Calls.quiet_of (l01Numbers_q m _ _ x lo HM.out (OwnI.drewN HO.out _) false HNN)))
              go_wp2
              go_ret
              exact ⟨by rw [HF.out]; rfl, below_drewN HB.out _⟩
            · have HNN := Lib.hid hnn
              clear hnn
              go_wp2
              go_quiet ((go_at_call 139; exact Calls.quiet_of (l01Numbers_q m _ _ x lo HM.out (OwnI.drewN HO.out _) true HNN)))
              go_wp2
              go_roundw
              case rel => exact ⟨k + 1, by omega, by go_num, isPl_take_succ m xss k hlt hp.out (by rw [← HX.out]; exact HXE.out) (by rw [← HX.out]; exact HNN.out), HP.out.drewN _, below_drewN HB.out _⟩
              case measure => simp [intOf]; omega
          · have hb1 : ((x.length : Int) != (xss.length : Int) - (k : Int)) = true := by simp; omega
            have HF : Hid (isPl m xss = false) := isPl_not hlt (.inl (by rw [← HX.out]; exact hxe))
            clear hxe
            go_wp2
            go_quiet (fail)
            go_wp2
            go_ret
            exact ⟨by rw [HF.out]; rfl, below_drewN HB.out _⟩
        · obtain rfl : k = xss.length := by omega
          have HF : Hid (isPl m xss = true) := isPl_of m xss HM.out HN.out hp.out
          go_wp2
          go_ret
          exact ⟨by rw [HF.out]; rfl, HB.out⟩
theorem l03Is_any (w : World) (m : Int) (v : Value) (xss : List (List Int)) (lo hi : Nat) (hv : OwnP w lo hi v xss) (hl : szP xss ≤ 2000000) :
    Calls Try.prog 74 #[.agg #[.int .i64 m, v]] w fun e w' => e = .returned (.bool (isPl m xss)) ∧ Below w.heap.size w w' :=
  l03Is_len w m v xss lo hi hv (by have := length_le_szP xss; omega) (by have := cntP_le_szP xss; omega)
theorem IsPlane1_pred (w : World) (b : Nat) (m : Int) (hm : isModB m = true) (hb : w.cell? ⟨b, 0, none⟩ = some (.int .i64 m)) (hb' : b < w.heap.size) : Pred w 142 #[.pointer (some ⟨b, 0, none⟩)] (fun a => isNumB a m) := by
  refine ⟨Try.call142, fun W x hW => ?_⟩
  have hc := (hW.cell (p := ⟨b, 0, none⟩) hb').trans hb
  have HM := Lib.hid hm
  clear hW hb hm
  go_enter Try.func142, Try.ntmps142
  go_wp2_with (go_at_call 79; refine (isNumber_any _ _ _ HM.out).mono ?_; rintro e w' ⟨rfl, k', rfl⟩)
  go_ret
  exact ⟨rfl, _, rfl⟩
theorem pDegree_any (m : Int) (A : Option Addr) (n c : Nat) (w : World) (hn : n ≤ 1000000000) : Calls Try.prog 132 #[.agg #[.int .i64 m, .slice A n c]] w fun e w' => e = .returned (.int .i64 ((n : Int) - 1)) ∧ Below w.heap.size w w' := by
  go_enter Try.func132, Try.ntmps132
  go_wp2
  go_ret
  exact ⟨rfl, by (repeat (first | assumption | exact Below.refl _ _ | refine Below.alloc ?_ (by first | omega | (simp; done) | (simp; omega)) _ | refine Below.setCell ?_ (by first | omega | (simp; done) | (simp; omega)) _ | refine below_drewN ?_ _))⟩
set_option maxHeartbeats 2000000 in
theorem iIsPlane_len (w : World) (m : Int) (v : Value) (xss : List (List Int)) (lo hi : Nat) (hv : OwnP w lo hi v xss) (hl : xss.length ≤ 1000000000) (hcn : cntP xss ≤ 4000000000) :
    Calls Try.prog 78 #[.agg #[.int .i64 m, v]] w fun e w' => e = .returned (.bool (isPl m xss)) ∧ Below w.heap.size w w' := by
  obtain ⟨A, c, rfl, hc1, hc2, hA⟩ := hv.at_
  have hxl := hl
  cases hm : isModB m
  · have HF : Hid (isPl m xss = false) := by simp [Hid, isPl, hm]
    have HM := Lib.hid hm
    clear hm hA
    go_enter Try.func78, Try.ntmps78
    go_wp2_with (go_at_call 44; refine (iIsModulus_any _ _).mono ?_; rintro e w' ⟨rfl, k', rfl⟩; rw [HM.out])
    go_ret
    exact ⟨by rw [HF.out]; rfl, by (repeat (first | assumption | exact Below.refl _ _ | refine Below.alloc ?_ (by first | omega | (simp; done) | (simp; omega)) _ | refine Below.setCell ?_ (by first | omega | (simp; done) | (simp; omega)) _ | refine below_drewN ?_ _))⟩
  · cases hn : inB xss.length 2 11
    · have HF : Hid (isPl m xss = false) := by simp [Hid, isPl, hn]
      have HN : Hid (inB ((xss.length : Int) - 1) 1 10 = false) := by
        unfold Hid; rw [inB_false] at hn ⊢; omega
      have HM := Lib.hid hm
      clear hm hn hA
      go_enter Try.func78, Try.ntmps78
      go_wp2_with (go_at_call 44; refine (iIsModulus_any _ _).mono ?_; rintro e w' ⟨rfl, k', rfl⟩; rw [HM.out])
      refine (pDegree_any m A xss.length c _ (by omega)).mono ?_
      rintro e w1 ⟨rfl, hb1⟩
      go_wp2_with (go_at_call 93; refine (in_any _ _ _ _).mono ?_; rintro e w' ⟨rfl, k'', rfl⟩; rw [HN.out])
      go_ret
      exact ⟨by rw [HF.out]; rfl, below_drewN (Below.trans (by (repeat (first | assumption | exact Below.refl _ _ | refine Below.alloc ?_ (by first | omega | (simp; done) | (simp; omega)) _ | refine Below.setCell ?_ (by first | omega | (simp; done) | (simp; omega)) _ | refine below_drewN ?_ _))) (hb1.mono (by simp))) _⟩
    · have HN2 := Lib.hid hn
      have HN : Hid (inB ((xss.length : Int) - 1) 1 10 = true) := by
        unfold Hid; rw [inB_true] at hn ⊢; omega
      have HM := Lib.hid hm
      have HA := Lib.hid hA
      clear hm hn hA
      go_enter Try.func78, Try.ntmps78
      go_wp2_with (go_at_call 44; refine (iIsModulus_any _ _).mono ?_; rintro e w' ⟨rfl, k', rfl⟩; rw [HM.out])
      refine (pDegree_any m A xss.length c _ (by omega)).mono ?_
      rintro e w1 ⟨rfl, hb1⟩
      have P1 : Bf w1 w.heap.size (.int .i64 m) (.slice A xss.length c) := ((Bf.alloc1 w _ _ 24).drewN _).keep hb1
      have K1 : Below w.heap.size w w1 := Below.trans (by (repeat (first | assumption | exact Below.refl _ _ | refine Below.alloc ?_ (by first | omega | (simp; done) | (simp; omega)) _ | refine Below.setCell ?_ (by first | omega | (simp; done) | (simp; omega)) _ | refine below_drewN ?_ _))) (hb1.mono (by simp))
      have p1a := P1.1.2.1
      have p1b := P1.1.2.2
      go_wp2_with (go_at_call 93; refine (in_any _ _ _ _).mono ?_; rintro e w' ⟨rfl, k'', rfl⟩; rw [HN.out])
      clear p1a p1b
      go_loopw [18] (fun i wr => ∃ k : Nat, k ≤ xss.length ∧ i = .int .i64 k ∧ Hid (∀ i, i < k → (xss.getD i []).length = xss.length - i ∧ numsB m (xss.getD i []) = true) ∧ Hid (Bf wr w.heap.size (.int .i64 m) (.slice A xss.length c)) ∧ Hid (Below w.heap.size w wr)) (fun i _ => xss.length - (intOf i).toNat)
      case atStart => exact ⟨0, Nat.zero_le _, rfl, (fun j hj => by omega), P1.drewN _, by unfold Hid; exact below_drewN K1 _⟩
      case round =>
        clear P1 K1
        obtain ⟨k, hk, rfl, hp, HP, HB⟩ := hrel
        have p1 := HP.out.1.2.1
        have p2 := HP.out.1.2.2
        by_cases hlt : k < xss.length
        · obtain ⟨g, Ar, cr, rfl, hg, hcell, hown⟩ := HA.out k hlt
          have hc0 := (HB.out.cell (p := ⟨g, k, none⟩) hg).trans hcell
          have HO := Lib.hid (hown.keep HB.out (Nat.le_refl _))
          obtain ⟨x, hx⟩ : ∃ x, x = xss.getD k [] := ⟨_, rfl⟩
          rw [← hx] at hc0 HO
          have hxlen : x.length ≤ 4000000000 := by have := len_le_cnt xss k hlt; rw [hx]; omega
          have hi0 : (0 : Int) ≤ (k : Int) := by omega
          have hi1 : (k : Int) < (xss.length : Int) := by omega
          have HX := Lib.hid hx
          clear hcell hown hx
          by_cases hxe : x.length = xss.length - k
          · have hb1 : ((x.length : Int) != (xss.length : Int) - (k : Int)) = false := by simp; omega
            have HXE := Lib.hid hxe
            have HAL : Hid ((x.all fun a => isNumB a m) = numsB m x) := rfl
            clear hxe
            cases hnn : numsB m x
            · have HF : Hid (isPl m xss = false) := isPl_not hlt (.inr (by rw [← HX.out]; exact hnn))
              have HNN := Lib.hid hnn
              clear hnn
              go_wp2_with fail
              refine (all_any _ _ x lo HO.out _ _ _ (IsPlane1_pred _ w.heap.size m HM.out p1 HP.out.1.1)).mono ?_
              rintro e w2 ⟨rfl, hb2⟩
              rw [HAL.out, HNN.out]
              go_wp2
              go_ret
              exact ⟨by rw [HF.out]; rfl, HB.out.trans (hb2.mono HB.out.size)⟩
            · have HNN := Lib.hid hnn
              clear hnn
              go_wp2_with fail
              refine (all_any _ _ x lo HO.out _ _ _ (IsPlane1_pred _ w.heap.size m HM.out p1 HP.out.1.1)).mono ?_
              rintro e w2 ⟨rfl, hb2⟩
              rw [HAL.out, HNN.out]
              go_wp2
              go_roundw
              case rel => exact ⟨k + 1, by omega, by go_num, isPl_take_succ m xss k hlt hp.out (by rw [← HX.out]; exact HXE.out) (by rw [← HX.out]; exact HNN.out), HP.out.keep hb2, HB.out.trans (hb2.mono HB.out.size)⟩
              case measure => simp [intOf]; omega
          · have hb1 : ((x.length : Int) != (xss.length : Int) - (k : Int)) = true := by simp; omega
            have HF : Hid (isPl m xss = false) := isPl_not hlt (.inl (by rw [← HX.out]; exact hxe))
            clear hxe
            go_wp2
            go_ret
            exact ⟨by rw [HF.out]; rfl, HB.out⟩
        · obtain rfl : k = xss.length := by omega
          have HF : Hid (isPl m xss = true) := isPl_of m xss HM.out HN2.out hp.out
          go_wp2
          go_ret
          exact ⟨by rw [HF.out]; rfl, HB.out⟩
theorem iIsPlane_any (w : World) (m : Int) (v : Value) (xss : List (List Int)) (lo hi : Nat) (hv : OwnP w lo hi v xss) (hl : szP xss ≤ 2000000) :
    Calls Try.prog 78 #[.agg #[.int .i64 m, v]] w fun e w' => e = .returned (.bool (isPl m xss)) ∧ Below w.heap.size w w' :=
  iIsPlane_len w m v xss lo hi hv (by have := length_le_szP xss; omega) (by have := cntP_le_szP xss; omega)

end Go.Proofs.Ytmppmnmkhfcoaaa
