/- Contracts over this seat's translation. Condition: each contract's own. -/
import Derived.Test.YtmppmnmkhfcoaaaD
import Derived.ProofKit
import Derived.Laws.Bits64b
import Derived.Lib.Mul64
import Derived.OpenShut
import Derived.Below
import Derived.ChangeSame
import Derived.Deep.Modes
import Derived.Lib.SmallJoins
import Derived.ChangeSlices
import Derived.WalkKit
import Derived.WalkSpells
import Derived.WalkLawsBesides
import Derived.Deep.QuietTactic
import Derived.BigQuiet
import Derived.Deep.RegionHeld3
import Derived.Deep.RegionWith
import Derived.Deep.RegionLaw
import Derived.Deep.AppendLies
import Derived.Laws.CopyOwn
import Derived.Deep.DeepCutAuto
import Derived.Deep.OwnRows
import Derived.Deep.LoopGhost
import Derived.Deep.DeepFit
import Derived.Deep.DeepMust
import Derived.Deep.Draws
import Derived.Deep.CutRange
import Derived.Maps.AppendAt
import Derived.Lib.Hide
import Derived.StillTailTactics
import Derived.Laws.MakeOwn
import Derived.Deep.Matrix
set_option linter.unusedVariables false
open Go Go.RowKit
namespace Go.Proofs.Ytmppmnmkhfcoaaa
/-! ### Values, orders, cut series, changed moduli -/
theorem NewI.of {w : World} {xs ys : List Int} {e : Ending} {w' : World} (h : NewI w xs e w') (he : Hid (xs = ys)) : NewI w ys e w' := by rw [← he.out]; exact h
theorem isModB_bd {m : Int} (h : isModB m = true) : 2 ≤ m ∧ m ≤ 10000 := isModB_true h
def horn (m x : Int) : List Int → Int
  | [] => 0
  | c :: r => (horn m x r * x + c) % m
theorem horn_step (m x : Int) (xs : List Int) (k : Nat) (hk : k < xs.length) : horn m x (xs.drop k) = (horn m x (xs.drop (k + 1)) * x + xs.getD k 0) % m := by
  rw [List.drop_eq_getElem_cons hk, List.getD_eq_getElem?_getD, List.getElem?_eq_getElem hk]
  rfl
theorem horn_bd {m x : Int} (hm : 0 < m) (xs : List Int) : 0 ≤ horn m x xs ∧ horn m x xs < m := by
  cases xs with
  | nil => exact ⟨Int.le_refl _, hm⟩
  | cons c r => exact ⟨Int.emod_nonneg _ (by omega), Int.emod_lt_of_pos _ hm⟩
theorem mul_bd {a b m n : Int} (ha : 0 ≤ a) (ha' : a ≤ m) (hb : 0 ≤ b) (hb' : b ≤ n) : 0 ≤ a * b ∧ a * b ≤ m * n := ⟨Int.mul_nonneg ha hb, Int.mul_le_mul ha' hb' hb (by omega)⟩
theorem valueOf_any (m : Int) (w : World) (v : Value) (xs : List Int) (B : Nat) (x : Int) (hv : OwnI w B v xs) (hm : 2 ≤ m) (hm' : m ≤ 10000) (hn : ∀ k, 0 ≤ xs.getD k 0 ∧ xs.getD k 0 < m) (hx : 0 ≤ x) (hx' : x < m) (hl : xs.length ≤ 1000000) :
    Calls Try.prog 123 #[.int .i64 m, v, .int .i64 x] w fun e w' => e = .returned (.int .i64 (horn m x xs)) ∧ w = w' := by
  obtain ⟨A, c, rfl, hc1, hc2, hA⟩ := hv.open_
  clear hv
  unfold maxLen at hc2
  have HN := Lib.hid hn
  clear hn
  go_enter Try.func123, Try.ntmps123
  go_wp2
  go_loop [7, 8] (fun t i => ∃ k : Nat, k ≤ xs.length ∧ i = .int .i64 ((k : Int) - 1) ∧ t = .int .i64 (horn m x (xs.drop k))) (fun _ i => (intOf i + 1).toNat)
  case atStart => exact ⟨xs.length, Nat.le_refl _, rfl, by simp [horn]⟩
  case round =>
    obtain ⟨k, hk, rfl, rfl⟩ := hrel
    have hb := horn_bd (x := x) (show 0 < m by omega) (xs.drop k)
    rcases Nat.eq_zero_or_pos k with h0 | h0
    · subst h0
      have hd : decide ((0 : Int) ≤ ((0 : Nat) : Int) - 1) = false := by decide
      go_wp2
      go_ret
      exact ⟨by simp, rfl⟩
    · obtain ⟨j, rfl⟩ : ∃ j, k = j + 1 := ⟨k - 1, by omega⟩
      obtain ⟨g, rfl, hg1, hg2, hcell, hfr⟩ := hA j (by omega)
      clear hA
      have hnj := HN.out j
      have HS := Lib.hid (horn_step m x xs j (by omega))
      generalize xs.getD j 0 = y at *
      generalize horn m x (xs.drop (j + 1)) = t at *
      have hp := mul_bd hb.1 (show t ≤ 10000 by omega) hx (show x ≤ 10000 by omega)
      have hj : ((j + 1 : Nat) : Int) - 1 = (j : Int) := by omega
      rw [hj]
      clear hj
      have hjl : (j : Int) < (xs.length : Int) := by omega
      go_wp2
      go_round
      case rel => exact ⟨j, by omega, rfl, by rw [HS.out]⟩
      case measure => simp [intOf] <;> omega
def OrderOfSeriesR (m : Int) (xs : List Int) : Int × Int := if isSer m xs = false then (0, 1) else if xs.any (fun x => x != 0) = false then (0, 5) else (firstI (fun x => x != 0) xs, 0)
theorem firstI_bd (p : Int → Bool) (xs : List Int) : firstI p xs ≤ xs.length := by
  unfold firstI
  split
  · have := List.findIdx_le_length (xs := xs) (p := p); omega
  · omega

/-! ### ValueOfSeries -/
def ValueOfSeriesR (m : Int) (xs : List Int) (x : Int) : Int × Int := if isSer m xs = false then (0, 1) else if isNumB x m = false then (0, 2) else (horn m x xs, 0)

/-! ### Copies of lists; lists of remainders -/
theorem appendAll {w : World} {ops : Array Oper} {rest : List Oper} {o : Oper} {a : Act} {Q : Exit → Act → World → Prop} (s x : Operand) (B : Nat) (v u : Value) (xs ys : List Int)
    (hgd : o.guard = none) (ho : o.op = .call { callee := .builtin .append, args := #[s, x], argTypes := #[45, 45] })
    (hs : a.eval s = v) (hx : a.eval x = u) (hv : OwnI w B v xs) (hu : RdI w u ys) (hy : 0 < ys.length) (hl : xs.length + ys.length ≤ 1000000000000) (hB : B ≤ w.heap.size)
    (h : ∀ v' w', OwnI w' B v' (xs ++ ys) → w.grownBy w' v.ownBlock → wpList Try.prog ops Q rest (a.put o.dst v') w') :
    wpList Try.prog ops Q (o :: rest) a w := by
  obtain ⟨i0, hi, hz0, hz1, hz2⟩ := info_parts T.info64
  obtain ⟨A, c, rfl, hc1, hc2, hA⟩ := hu
  obtain ⟨b, off, rfl, _, _⟩ := hA 0 hy
  refine wpList_append_own _ hgd s x 45 ho B 2 i0 (.int .i64 0) 1 8 Try.underlying45 hi hz0 hz1 hz2 rfl (by decide) v xs.length (xs.map (Value.int .i64)) hs hv ⟨b, off, none⟩ ys.length c (ys.map (Value.int .i64)) hx (by simp) (fun j u hj => ?_) (fun u hu => ?_) (by unfold maxLen; omega) (by omega) hB ?_
  · rw [List.getElem?_map] at hj
    obtain ⟨y, hy1, rfl⟩ := Option.map_eq_some_iff.1 hj
    have hlt : j < ys.length := (List.getElem?_eq_some_iff.1 hy1).1
    obtain ⟨b', off', e, _, hcell⟩ := hA j hlt
    simp only [Option.some.injEq, Addr.mk.injEq] at e
    obtain ⟨rfl, rfl, _⟩ := e
    rw [WideShapes.add_plain, hcell, List.getD_eq_getElem?_getD, hy1]
    rfl
  · obtain ⟨y, _, rfl⟩ := List.mem_map.1 hu
    rfl
  · intro v' w' h1 h2 _
    refine h v' w' ?_ h2
    unfold OwnI
    simpa using h1
/-- The remainders of the first k numbers. -/
def rests (m : Int) (xs : List Int) : List Int := xs.map fun x => x % m
theorem rests_step (m : Int) (xs : List Int) (k : Nat) (hk : k < xs.length) : rests m (xs.take (k + 1)) = rests m (xs.take k) ++ [xs.getD k 0 % m] := by
  unfold rests
  rw [List.take_succ_eq_append_getElem hk, List.map_append, List.getD_eq_getElem?_getD, List.getElem?_eq_getElem hk]
  rfl
theorem length_rests (m : Int) (xs : List Int) : (rests m xs).length = xs.length := by simp [rests]

/-! ### CutSeries, ChangeSeries -/
theorem below_grown_new {B : Nat} {w0 w w' : World} {v : Value} (h : Below B w0 w) (hB : B ≤ w.heap.size) (hg : w.grownBy w' v.ownBlock) (hv : ∀ g, v.ownBlock = some g → B ≤ g) : Below B w0 w' := h.grown hg hB fun b hb => hv b hb
def CutSeriesR (m : Int) (xs : List Int) (d : Int) : (Int × List Int) × Int := if isSer m xs = false then ((0, []), 1) else if inB d 1 ((xs.length : Int) - 1) = false then ((0, []), 2) else ((m, xs.take (d + 1).toNat), 0)
theorem CutSeriesR_len (m : Int) (xs : List Int) (d : Int) : (CutSeriesR m xs d).1.2.length ≤ 100 := by
  unfold CutSeriesR
  cases h : isSer m xs
  · simp
  · have := (isSer_true h).2.1
    split
    · simp
    · split
      · simp
      · simp only [List.length_take]; omega
def ChangeSeriesR (m : Int) (xs : List Int) (n : Int) : (Int × List Int) × Int := if isSer m xs = false then ((0, []), 1) else if isModB n = false ∨ m % n ≠ 0 then ((0, []), 2) else ((n, rests n xs), 0)
theorem ChangeSeriesR_len (m : Int) (xs : List Int) (n : Int) : (ChangeSeriesR m xs n).1.2.length ≤ 100 := by
  unfold ChangeSeriesR
  cases h : isSer m xs
  · simp
  · have := (isSer_true h).2.1
    split
    · simp
    · split
      · simp
      · simp only [length_rests]; omega
theorem getD_take (xs : List Int) (n k : Nat) (h : k < n) : (xs.take n).getD k 0 = xs.getD k 0 := by
  rw [List.getD_eq_getElem?_getD, List.getElem?_take, if_pos h, ← List.getD_eq_getElem?_getD]
theorem OwnI.rdTake {w : World} {B n : Nat} {A : Option Addr} {c : Nat} {xs : List Int} (h : OwnI w B (.slice A xs.length c) xs) (hn : n ≤ xs.length) : RdI w (.slice A n c) (xs.take n) := by
  obtain ⟨A', c', e, h1, h2, h3⟩ := h.open_
  simp only [Value.slice.injEq] at e
  obtain ⟨rfl, _, rfl⟩ := e
  have hl : (xs.take n).length = n := by rw [List.length_take]; omega
  refine ⟨A, c, by rw [hl], by omega, h2, fun k hk => ?_⟩
  rw [hl] at hk
  obtain ⟨g, h4, _, h5, h6, _⟩ := h3 k (by omega)
  exact ⟨g, 0, h4, h5, by rw [Nat.zero_add, getD_take xs n k hk]; exact h6⟩
theorem isSer_bd {m : Int} {xs : List Int} (h : isSer m xs = true) (k : Nat) : 0 ≤ xs.getD k 0 ∧ xs.getD k 0 < 1000000 := by
  have h1 := isSer_num h k
  have h2 := isModB_true (isSer_true h).1
  omega

/-! ### Series of the program: new, scaled -/
theorem Bf.setCell {w : World} {b : Nat} {x y : Value} (h : Bf w b x y) {p : Addr} (hne : p.block ≠ b) (u : Value) : Bf (w.setCell p u) b x y := by
  have e : (w.setCell p u).heap[b]? = w.heap[b]? := Below.heap_setCell w p u b (Ne.symm hne)
  refine ⟨⟨?_, (World.cell?_of_block (a := ⟨b, 0, none⟩) e).trans h.1.2.1, (World.cell?_of_block (a := ⟨b, 1, none⟩) e).trans h.1.2.2⟩, (World.frozen?_of_block (a := ⟨b, 0, none⟩) e).trans h.2.1, (World.frozen?_of_block (a := ⟨b, 1, none⟩) e).trans h.2.2⟩
  have := h.1.1
  simpa [World.setCell] using this
theorem Bf.first2d {w w1 : World} {x y x' y' : Value} {t t' : TypeId} (hb : Below ((w.alloc (.cells #[x, y] t)).alloc (.cells #[x', y'] t')).drew.heap.size ((w.alloc (.cells #[x, y] t)).alloc (.cells #[x', y'] t')).drew w1) :
    Bf w1 w.heap.size x y ∧ Bf w1 (w.heap.size + 1) x' y' ∧ Below w.heap.size w w1 := Bf.first2 (t := t) (t' := t') ⟨hb.os, hb.tape, hb.output, hb.size, hb.block⟩
theorem below_undrew {B : Nat} {a w' : World} (h : Below B a.drew w') : Below B a w' := ⟨h.os, h.tape, h.output, h.size, h.block⟩
theorem Bf.q1 {w : World} {x y : Value} {t : TypeId} : Bf (w.alloc (.cells #[x, y] t)) w.heap.size x y := Bf.alloc1 w x y t
theorem Bf.q2 {w : World} {x y x' y' : Value} {t t' : TypeId} : Bf ((w.alloc (.cells #[x, y] t)).alloc (.cells #[x', y'] t')) (w.heap.size + 1) x' y' := by
  have := Bf.alloc1 (w.alloc (.cells #[x, y] t)) x' y' t'
  simpa using this
theorem Bf.q3 {w : World} {x y x' y' x2 y2 : Value} {t t' t2 : TypeId} : Bf (((w.alloc (.cells #[x, y] t)).alloc (.cells #[x', y'] t')).alloc (.cells #[x2, y2] t2)) (w.heap.size + 2) x2 y2 := by
  have := Bf.alloc1 ((w.alloc (.cells #[x, y] t)).alloc (.cells #[x', y'] t')) x2 y2 t2
  simpa using this
theorem Bf.q4 {w : World} {x y x' y' x2 y2 x3 y3 : Value} {t t' t2 t3 : TypeId} : Bf ((((w.alloc (.cells #[x, y] t)).alloc (.cells #[x', y'] t')).alloc (.cells #[x2, y2] t2)).alloc (.cells #[x3, y3] t3)) (w.heap.size + 3) x3 y3 := by
  have := Bf.alloc1 (((w.alloc (.cells #[x, y] t)).alloc (.cells #[x', y'] t')).alloc (.cells #[x2, y2] t2)) x3 y3 t3
  simpa using this
theorem Bf.store2 {w : World} {b : Nat} {x y x' y' : Value} (h : Bf w b x y) : Bf ((w.setCell ⟨b, 0, none⟩ x').setCell ⟨b, 1, none⟩ y') b x' y' := by
  obtain ⟨⟨h1, h2, h3⟩, h4, h5⟩ := h
  have h3' : (w.setCell ⟨b, 0, none⟩ x').cell? ⟨b, 1, none⟩ = some y := (World.cell?_setCell_other _ _ _ _ (by simp)).trans h3
  refine ⟨⟨by simpa [World.setCell] using h1, (World.cell?_setCell_other _ _ _ _ (by simp)).trans (World.cell?_setCell_same _ _ _ h2), World.cell?_setCell_same _ _ _ h3'⟩, by simp [h4], by simp [h5]⟩
theorem Bf.alloc {w : World} {b : Nat} {x y : Value} (h : Bf w b x y) (o : Obj) : Bf (w.alloc o) b x y := h.keep (below_alloc1 w o)
/-- A new series of zeros: the value, and its block. -/
def NewZ (w : World) (m : Int) (n : Nat) (e : Ending) (w' : World) : Prop := ∃ g, e = .returned (.agg #[.int .i64 m, .slice (some ⟨g, 0, none⟩) n n]) ∧ w.heap.size ≤ g ∧ RowI w' g n (List.replicate n 0) ∧ Below w.heap.size w w'
theorem zero_any (w : World) (m d : Int) (n : Nat) (hd : d + 1 = (n : Int)) (hn : n ≤ 1000000) : Calls Try.prog 83 #[.int .i64 m, .int .i64 d] w (NewZ w m n) := by
  have hd2 : d = (n : Int) - 1 := by omega
  subst hd2
  clear hd
  go_enter Try.func83, Try.ntmps83
  go_wp2_with (at_make; refine makeI _ n (by rfl) (by rfl) (by first | rfl | simp) (by omega) ?_; intro w1 hr1 hb1 hs1; obtain ⟨hc, hf⟩ := bcell hb1; have HS := Lib.hid hs1; clear hs1; have hz := hb1.size; simp at hz)
  have hr2 : RowI w1 (w.heap.size + 1) n (List.replicate n 0) := by simpa using hr1
  have K1 : Below w.heap.size w w1 := (below_alloc1 w _).trans (hb1.mono (by simp))
  exact bodyPost_ret (v := .agg #[.int .i64 m, .slice (some ⟨w.heap.size + 1, 0, none⟩) n n]) (by simp [results, Try.results83, go_sem, hc]) rfl ⟨w.heap.size + 1, rfl, by omega, (hr2.far (by simp) _).far (by simp) _, by (repeat (first | assumption | exact Below.refl _ _ | refine Below.alloc ?_ (by first | omega | (simp; done) | (simp; omega)) _ | refine Below.setCell ?_ (by first | omega | (simp; done) | (simp; omega)) _ | refine below_drewN ?_ _))⟩
theorem NewZ.of_eq {w : World} {m : Int} {n : Nat} {e : Ending} {w' : World} (h : NewZ w m n e w') : ∃ g, e = .returned (.agg #[.int .i64 m, .slice (some ⟨g, 0, none⟩) n n]) ∧ w.heap.size ≤ g ∧ RowI w' g n (List.replicate n 0) ∧ Below w.heap.size w w' := h
/-- The list while it is filled: the first k numbers are laid. -/
def fillF (g : Nat → Int) (k : Nat) : Nat → Int := fun j => if j < k then g j else 0
theorem fill_zero (g : Nat → Int) (n : Nat) : lst n (fillF g 0) = List.replicate n 0 := by rw [replicate_lst]; rfl
theorem fill_step (g : Nat → Int) (n k : Nat) : (lst n (fillF g k)).set k (g k) = lst n (fillF g (k + 1)) := by
  rw [set_lst]
  apply lst_congr
  intro j _
  unfold upd fillF
  by_cases h : j = k
  · subst h; simp
  · by_cases h2 : j < k
    · simp [h, h2, show j < k + 1 by omega]
    · simp [h, h2, show ¬ j < k + 1 by omega]
theorem fill_all (g : Nat → Int) (n : Nat) : lst n (fillF g n) = lst n g := lst_congr fun j hj => by simp [fillF, hj]
theorem fill_getD (g : Nat → Int) (n k j : Nat) (hj : j < n) : (lst n (fillF g k)).getD j 0 = fillF g k j := getD_lst _ _ _ hj
def scaleL (m c : Int) (xs : List Int) : List Int := lst xs.length fun k => c * co xs k % m
theorem length_scaleL (m c : Int) (xs : List Int) : (scaleL m c xs).length = xs.length := length_lst _ _

end Go.Proofs.Ytmppmnmkhfcoaaa
