/- Contracts over this seat's translation. Condition: each contract's own. -/
import Derived.Test.YtglbccikdglcgaaGreatDoorD
import Derived.ProofKit
import Derived.Laws.Bits64b
import Derived.Lib.Mul64
import Derived.OpenShut
import Derived.Below
import Derived.ChangeSame
import Derived.Deep.Modes
import Derived.Lib.SmallJoins
import Derived.ChangeSlices
import Derived.WalkKit
import Derived.WalkSpells
import Derived.WalkLawsBesides
import Derived.Deep.QuietTactic
import Derived.BigQuiet
import Derived.Deep.RegionHeld3
import Derived.Deep.RegionWith
import Derived.Deep.RegionLaw
import Derived.Deep.AppendLies
import Derived.Laws.CopyOwn
import Derived.Deep.DeepCutAuto
import Derived.Deep.OwnRows
import Derived.Deep.LoopGhost
import Derived.Deep.DeepFit
import Derived.Deep.DeepMust
import Derived.Deep.Draws
import Derived.Deep.CutRange
import Derived.Maps.AppendAt
import Derived.Lib.Hide
import Derived.StillTailTactics
import Derived.Laws.MakeOwn
import Derived.Deep.Matrix
import Derived.ChangeAgain
import Derived.SizedLaws
import Derived.Handed
import Derived.Lib.SplitLaws
import Derived.Lib.ParseIntB
import Derived.Lib.ItoaMem
import Derived.Lib.Join
import Derived.Lib.IndexBytes
set_option linter.unusedVariables false
open Go Go.RowKit
namespace Go.Proofs.YtglbccikdglcgaaGreatDoor
/-! ### The wrap of a row that lists variables, the world's shape kept -/
section
open Go.ChangeShapes Go.WideShapes
variable {H : Type} {enc : TypeId × Value → H}
theorem returnsInHanded_of_and_shaped {a : Assume} {C : Checked} {os : Os} {f : FuncId} {fn : Func} {s : ChangeSpec} {conds : List PathCond} {apart fresh handsOn again : Bool} {X : World → Array Value → Prop}
    (hX : ∀ (w w' : World) (args : Array Value), w.heap = w'.heap → X w args → X w' args)
    (own : ownKnob C.prog.godebug = none) (started : os.Started) (noInit : C.prog.inits.idxOf? f = none) (hfn : C.prog.funcs[f]? = some fn)
    (witness : ∃ (w : World) (tape : Tape) (i : Input), w.os = os ∧ (w.forCall tape i).Shaped C.prog ∧ i.vars = [] ∧ Input.okWide C.prog (w.forCall tape i) .any w.heap.size f i ∧
      ((s.pre enc C.prog fn conds apart (w.forCall tape i).memory i.args ∧ X (w.forCall tape i).memory i.args) ∧ sizedMet enc C.prog fn (OpenSpec.ofChange s) apart (w.forCall tape i).memory i.args) ∧ a.holds C.prog (lone (Frame.enter C.prog f i.args .normal) [] (w.forCall tape i)))
    (contract : ∀ (W : World) (base : Nat) (args : Array Value) (ds gs : List (DataW H)) (before : List MemPlace),
      (∀ (j : Nat) t v, fn.params[j]? = some t → args[j]? = some v → Value.okWide C.prog W .any base t v) →
      DataW.Whole enc C.prog fn.params.toList s.vars apart W args.toList ds gs before →
      conds.all (PathCond.test C.prog ⟨fn.params.toList, ds, s.plain.varTypes C.prog, gs⟩) = true →
      (DataW.weightsEach C.prog (fn.params.toList ++ s.plain.varTypes C.prog) (ds ++ gs)).all (· ≤ reachBytes) = true → X W args → W.ShapedOpen C.prog →
      a.holds C.prog (lone (Frame.enter C.prog f args .normal) [] W) →
      Calls C.prog f args W fun e W' => ∃ v, e = .returned v ∧ s.post enc C.prog fn apart fresh handsOn again W args v W') :
    ReturnsInHanded a C os f .any (fun w args => (s.pre enc C.prog fn conds apart w args ∧ X w args) ∧ sizedMet enc C.prog fn (OpenSpec.ofChange s) apart w args) (s.post enc C.prog fn apart fresh handsOn again) := by
  refine returnsInHanded_of_calls own started noInit witness ?_
  intro w tape i _ hsh _ hok hpre hholds
  obtain ⟨_, _, _, fn', hfn', _, _, _, _, hval⟩ := hok
  have e : fn' = fn := Option.some.inj (hfn'.symm.trans hfn)
  subst e
  obtain ⟨⟨⟨ds, gs, before, hw, hc⟩, hx⟩, hz⟩ := hpre
  have hw' := DataW.Whole.of_heap (w' := w.forCall tape i) (by rfl) hw
  refine (contract (w.forCall tape i) w.heap.size i.args ds gs before hval hw' hc (hz.weights hw) (hX _ _ _ (by rfl) hx) hsh hholds).mono fun e W' ⟨v, he, hp⟩ => ?_
  subst he
  exact ChangeSpec.post_blind hp
end

/-! ### Lists of coefficients as functions; sums; products -/
def co (xs : List Int) (k : Nat) : Int := xs.getD k 0
def lst (d : Nat) (g : Nat → Int) : List Int := (List.range d).map g
theorem length_lst (d : Nat) (g : Nat → Int) : (lst d g).length = d := by simp [lst]
theorem getD_lst (d : Nat) (g : Nat → Int) (k : Nat) (h : k < d) : (lst d g).getD k 0 = g k := by simp [lst, List.getD_eq_getElem?_getD, h]
theorem getD_lst_ge (d : Nat) (g : Nat → Int) (k : Nat) (h : d ≤ k) : (lst d g).getD k 0 = 0 := by
  rw [List.getD_eq_getElem?_getD, List.getElem?_eq_none (by rw [length_lst]; exact h)]; rfl
def upd (g : Nat → Int) (k : Nat) (y : Int) : Nat → Int := fun j => if j = k then y else g j
theorem lst_congr {d : Nat} {g h : Nat → Int} (e : ∀ k, k < d → g k = h k) : lst d g = lst d h := by
  unfold lst
  apply List.map_congr_left
  intro k hk
  exact e k (List.mem_range.1 hk)
theorem set_lst (d : Nat) (g : Nat → Int) (k : Nat) (y : Int) : (lst d g).set k y = lst d (upd g k y) := by
  apply List.ext_getElem
  · simp [length_lst]
  · intro i h1 h2
    simp only [lst, upd, List.getElem_set, List.getElem_map, List.getElem_range]
    by_cases h : k = i
    · simp [h]
    · simp [h, Ne.symm h]
theorem lst_self (xs : List Int) : lst xs.length (co xs) = xs := by
  apply List.ext_getElem
  · simp [length_lst]
  · intro i h1 h2
    simp [lst, co, List.getD_eq_getElem?_getD, h2]
theorem replicate_lst (d : Nat) : List.replicate d (0 : Int) = lst d fun _ => 0 := by
  apply List.ext_getElem
  · simp [length_lst]
  · intro i h1 h2
    simp [lst]
theorem lst_inj_take (d : Nat) (g : Nat → Int) (n : Nat) (h : n ≤ d) : (lst d g).take n = lst n g := by
  unfold lst
  rw [← List.map_take, List.take_range, Nat.min_eq_left h]
theorem lst_succ (d : Nat) (g : Nat → Int) : lst (d + 1) g = lst d g ++ [g d] := by simp [lst, List.range_succ]
def sumN (f : Nat → Int) : Nat → Int
  | 0 => 0
  | n + 1 => sumN f n + f n
theorem sumN_congr {f g : Nat → Int} : ∀ {n : Nat}, (∀ k, k < n → f k = g k) → sumN f n = sumN g n
  | 0, _ => rfl
  | n + 1, h => by simp only [sumN]; rw [sumN_congr (n := n) fun k hk => h k (by omega), h n (by omega)]
theorem sumN_zero : ∀ (n : Nat), sumN (fun _ => 0) n = 0
  | 0 => rfl
  | n + 1 => by simp [sumN, sumN_zero n]
/-- The first n terms of coefficient k of a product. -/
def cvTo (m : Int) (a b : Nat → Int) (n k : Nat) : Int := sumN (fun i => a i * b (k - i)) n % m
def cv (m : Int) (a b : Nat → Int) (k : Nat) : Int := cvTo m a b (k + 1) k
theorem cvTo_succ (m : Int) (a b : Nat → Int) (n k : Nat) : (cvTo m a b n k + a n * b (k - n) % m) % m = cvTo m a b (n + 1) k := by
  unfold cvTo
  simp only [sumN]
  rw [Int.emod_add_emod, Int.add_emod_emod]
theorem cvTo_succ' (m : Int) (a b : Nat → Int) (n k : Nat) : (cvTo m a b n k + a n * b (k - n)) % m = cvTo m a b (n + 1) k := by
  unfold cvTo
  simp only [sumN]
  rw [Int.emod_add_emod]
theorem cvTo_zero (m : Int) (a b : Nat → Int) (k : Nat) : cvTo m a b 0 k = 0 := by simp [cvTo, sumN]
theorem cvTo_bd {m : Int} (hm : 0 < m) (a b : Nat → Int) (n k : Nat) : 0 ≤ cvTo m a b n k ∧ cvTo m a b n k < m := ⟨Int.emod_nonneg _ (by omega), Int.emod_lt_of_pos _ hm⟩
theorem cv_congr {m : Int} {a b a' b' : Nat → Int} {k : Nat} (ha : ∀ i, i ≤ k → a i = a' i) (hb : ∀ i, i ≤ k → b i = b' i) : cv m a b k = cv m a' b' k := by
  unfold cv cvTo
  rw [sumN_congr]
  intro i hi
  rw [ha i (by omega), hb (k - i) (by omega)]
/-- The coefficients of a product, while row i is added: the first j numbers of that row have been added. -/
def stepF (m : Int) (a b : Nat → Int) (i j : Nat) : Nat → Int := fun k => if k < i then cv m a b k else if k < i + j then cvTo m a b (i + 1) k else cvTo m a b i k
theorem stepF_zero (m : Int) (a b : Nat → Int) (k : Nat) : stepF m a b 0 0 k = 0 := by simp [stepF, cvTo_zero]
theorem stepF_next (m : Int) (a b : Nat → Int) (i j k : Nat) : upd (stepF m a b i j) (i + j) (cvTo m a b (i + 1) (i + j)) k = stepF m a b i (j + 1) k := by
  unfold upd stepF
  by_cases h : k = i + j
  · subst h
    simp
    intro h
    omega
  · by_cases h1 : k < i
    · simp [h, h1]
    · by_cases h2 : k < i + j
      · simp [h, h1, h2, show k < i + (j + 1) by omega]
      · simp [h, h1, h2, show ¬ k < i + (j + 1) by omega]
theorem stepF_row (m : Int) (a b : Nat → Int) (d i k : Nat) (hk : k < d) : stepF m a b i (d - i) k = stepF m a b (i + 1) 0 k := by
  unfold stepF
  by_cases h1 : k < i
  · simp [h1, show k < i + 1 by omega]
  · by_cases h2 : k = i
    · subst h2; simp [cv, show k < k + (d - k) by omega]
    · simp [h1, show k < i + (d - i) by omega, show ¬ k < i + 1 by omega]
theorem stepF_zeroRow (m : Int) (a b : Nat → Int) (i k : Nat) (h : a i = 0) : stepF m a b i 0 k = stepF m a b (i + 1) 0 k := by
  have e : cvTo m a b (i + 1) k = cvTo m a b i k := by unfold cvTo; simp [sumN, h]
  unfold stepF
  by_cases h1 : k < i
  · simp [h1, show k < i + 1 by omega]
  · by_cases h2 : k = i
    · subst h2; simp [cv, e]
    · simp [h1, show ¬ k < i + 1 by omega, e]
theorem stepF_all (m : Int) (a b : Nat → Int) (d k : Nat) (hk : k < d) : stepF m a b d 0 k = cv m a b k := by simp [stepF, hk]
def timesL (m : Int) (d : Nat) (xs ys : List Int) : List Int := lst d (cv m (co xs) (co ys))
theorem length_timesL (m : Int) (d : Nat) (xs ys : List Int) : (timesL m d xs ys).length = d := length_lst _ _
/-- All coefficients are numbers modulo m. -/
def NumL (m : Int) (xs : List Int) : Prop := ∀ k, 0 ≤ xs.getD k 0 ∧ xs.getD k 0 < m
theorem NumL.lst {m : Int} {d : Nat} {g : Nat → Int} (hm : 0 < m) (h : ∀ k, k < d → 0 ≤ g k ∧ g k < m) : NumL m (lst d g) := by
  intro k
  rcases Nat.lt_or_ge k d with hk | hk
  · rw [getD_lst d g k hk]; exact h k hk
  · rw [getD_lst_ge d g k hk]; omega
theorem NumL.timesL {m : Int} (hm : 0 < m) (d : Nat) (xs ys : List Int) : NumL m (timesL m d xs ys) := NumL.lst hm fun k _ => cvTo_bd hm _ _ _ _
theorem NumL.replicate {m : Int} (hm : 0 < m) (d : Nat) : NumL m (List.replicate d 0) := by
  rw [replicate_lst]; exact NumL.lst hm fun _ _ => ⟨Int.le_refl _, hm⟩

/-! ### Planes: what lies in memory -/
theorem spot_none {w : World} {a : Addr} {u : Value} (h : w.cell? a = some u) : a.spot = none := by
  unfold World.cell? at h
  cases hs : a.spot with
  | none => rfl
  | some _ =>
    split at h
    · simp [hs] at h
    · cases h
section
open Go.ChangeShapes Go.WideShapes
variable {H : Type} {enc : TypeId × Value → H} {w : World}
theorem rdP_of_trod {fuel : Nat} {v : Value} {x : DataW H × List MemPlace} (h : DataW.trod enc Tryz.prog w 0 (fun _ => true) true fuel 34 [v] = some x) : ∃ xss, RdP w v xss := by
  have hlt := DataW.trod_lt _ _ _ _ h
  rcases Go.Deep.open_int_rows Tryz.underlying34 Tryz.underlying24 Tryz.underlying2 (by kernel_rfl) (by kernel_rfl) h with ⟨h1, _⟩ | ⟨a, len, cap, A, L, C, Z, h1, _, h2, h3, rfl, h5⟩
  · obtain rfl : v = .slice none 0 0 := by simpa using h1
    exact ⟨[], none, 0, rfl, Nat.le_refl _, by unfold maxLen; omega, fun k hk => by simp at hk⟩
  · obtain rfl : v = .slice (some a) len cap := by simpa using h1
    refine ⟨(List.range len).map fun r => (Z r).take (L r), some a, cap, by simp, by simpa using h2, h3, fun k hk => ?_⟩
    have hk' : k < len := by simpa using hk
    have hsp : a.spot = none := by
      have h0 := (h5 0 (by omega)).1
      have e0 : a.add 0 = a := by simp [Addr.add]
      rw [e0] at h0
      exact spot_none h0
    obtain ⟨c1, c2, c3, c4, _, c6, c7⟩ := h5 k (by omega)
    obtain ⟨b, off, sp⟩ := a
    simp only at hsp
    subst hsp
    refine ⟨b, off, _, rfl, hlt (.cell b (off + k)) (List.mem_append_left _ (MemPlace.mem_row.2 ⟨k, by omega, rfl⟩)), by rw [add_plain] at c1; exact c1, ?_⟩
    have hg : ((List.range len).map fun r => (Z r).take (L r)).getD k [] = (Z k).take (L k) := by simp [List.getD_eq_getElem?_getD, hk']
    rw [hg]
    have hl : ((Z k).take (L k)).length = L k := by rw [List.length_take]; omega
    refine ⟨A k, C k, by rw [hl], by omega, c3, fun j hj => ?_⟩
    rw [hl] at hj
    cases hA : A k with
    | none => have := c6 hA; omega
    | some a' =>
      obtain ⟨_, c8⟩ := c7 a' hA
      have hs' : a'.spot = none := by
        have h0 := c8 0 (by omega)
        have e0 : a'.add 0 = a' := by simp [Addr.add]
        rw [e0] at h0
        exact spot_none h0
      have hcj := c8 j (by omega)
      obtain ⟨b', off', sp'⟩ := a'
      simp only at hs'
      subst hs'
      refine ⟨b', off', rfl, hlt (.cell b' (off' + j)) (List.mem_append_right _ (List.mem_flatMap.2 ⟨k, List.mem_range.2 (by omega), ?_⟩)), ?_⟩
      · rw [hA]
        exact MemPlace.mem_row.2 ⟨j, by omega, rfl⟩
      · rw [add_plain] at hcj
        rw [hcj, List.getD_eq_getElem?_getD, List.getD_eq_getElem?_getD, List.getElem?_take, if_pos hj]
end
theorem madeCells_nil (n : Nat) : (madeCells #[Value.slice none 0 0] n).toList = List.replicate n (Value.slice none 0 0) := by
  apply List.ext_getElem
  · simp [madeCells]
  · intro i h1 h2
    simp [madeCells, Nat.mod_one]
theorem OwnP.made (w : World) (n : Nat) (hn : n ≤ 1000000000000) : OwnP (w.alloc (.cells (madeCells #[Value.slice none 0 0] n) 24)) w.heap.size (w.heap.size + 1) (.slice (some ⟨w.heap.size, 0, none⟩) n n) (List.replicate n []) := by
  have hg : ∀ k, k < n → (List.replicate n (Value.slice none 0 0)).getD k (.slice none 0 0) = .slice none 0 0 := fun k hk => by simp [List.getD_eq_getElem?_getD, hk]
  refine ⟨List.replicate n (.slice none 0 0), by simp, ?_, fun g hg => by simp [Value.ownBlock] at hg; omega, fun k hk => ?_, fun i j g hi hj hne he => ?_⟩
  · refine ⟨by simp, .inr ⟨w.heap.size, n, _, by simp, Nat.le_refl _, heap_alloc_new w _, by simp, by unfold maxLen; omega, by rw [size_madeCells]; simp, ?_⟩⟩
    rw [madeCells_nil, List.take_of_length_le (by simp)]
  · simp at hk
    rw [hg k hk]
    refine ⟨?_, fun g hg => by simp [Value.ownBlock] at hg⟩
    rw [show (List.replicate n ([] : List Int)).getD k [] = [] by simp [List.getD_eq_getElem?_getD, hk]]
    exact OwnI.nil_ _ _
  · simp at hi
    rw [hg i hi] at he
    simp [Value.ownBlock] at he
theorem makeP {w : World} {ops : Array Oper} {rest : List Oper} {o : Oper} {a : Act} {Q : Exit → Act → World → Prop} (l : Operand) (n : Nat)
    (hg : o.guard = none) (hop : o.op = Op.makeSlice 34 l l) (hl : a.eval l = .int .i64 (n : Int)) (hn : n ≤ 1000000000)
    (h : ∀ w', OwnP w' w.heap.size (w.heap.size + 1) (.slice (some ⟨w.heap.size, 0, none⟩) n n) (List.replicate n []) → Below w.heap.size w w' → w'.heap.size = w.heap.size + 1 → wpList Tryz.prog ops Q rest (a.put o.dst (.slice (some ⟨w.heap.size, 0, none⟩) n n)) w') :
    wpList Tryz.prog ops Q (o :: rest) a w := by
  obtain ⟨i0, hi, hz0, hz1, hz2⟩ := info_parts T.infoRow
  refine wpList_make_row w hg l l 34 hop 24 i0 (.slice none 0 0) Tryz.underlying34 hi hz0 hz1 rfl .i64 .i64 n hl hl (by rw [hz2]; omega) (by omega) ?_
  exact h _ (OwnP.made w n (by omega)) ((Below.refl _ _).alloc (Nat.le_refl _) _) (by simp)
/-- A new row is put in the place of row k. -/
theorem OwnP.store {w : World} {lo hi : Nat} {u : Value} {xss : List (List Int)} {ys : List Int} {g n c k : Nat} (h : OwnP w lo hi (.slice (some ⟨g, 0, none⟩) n c) xss) (hk : k < xss.length)
    (hu : OwnI w lo u ys) (hu2 : ∀ b, u.ownBlock = some b → hi ≤ b) : OwnP (w.setCell ⟨g, k, none⟩ u) lo w.heap.size (.slice (some ⟨g, 0, none⟩) n c) (xss.set k ys) := by
  obtain ⟨us, h1, h2, h3, h4, h5⟩ := h
  have hku : k < us.length := by omega
  have hgb : lo ≤ g ∧ g < w.heap.size := ownsRow_block_ge h2 rfl
  have hghi : g < hi := h3 g rfl
  have hsz : (w.setCell ⟨g, k, none⟩ u).heap.size = w.heap.size := by simp [World.setCell]
  have hoth : ∀ b, b ≠ g → (w.setCell ⟨g, k, none⟩ u).heap[b]? = w.heap[b]? := fun b hb => Below.heap_setCell w ⟨g, k, none⟩ u b (by simpa using hb)
  refine ⟨us.set k u, by simp [h1], ?_, fun b hb => ?_, fun j hj => ?_, fun i j b hi1 hj1 hne hb => ?_⟩
  · rcases h2.2 with ⟨h0, _⟩ | ⟨g', cap, cur, e0, e1, e2, e3, e4, e5, e6⟩
    · simp at h0
    · simp only [Value.slice.injEq, Option.some.injEq, Addr.mk.injEq] at e0
      obtain ⟨⟨rfl, _⟩, rfl, rfl⟩ := e0
      refine ⟨by simp, .inr ⟨g, c, cur.setIfInBounds k u, by simp, e1, ?_, by simpa using e3, e4, by simpa using e5, ?_⟩⟩
      · simp [World.setCell, Array.getElem?_modify, e2]
      · rw [Array.toList_setIfInBounds, List.length_set, List.take_set, e6]
  · simp [Value.ownBlock] at hb
    omega
  · have hj' : j < us.length := by simpa using hj
    by_cases hjk : j = k
    · subst hjk
      rw [show (us.set j u).getD j (.slice none 0 0) = u by simp [List.getD_eq_getElem?_getD, hj'], show (xss.set j ys).getD j [] = ys by simp [List.getD_eq_getElem?_getD, hk]]
      refine ⟨hu.of_block fun b hb => hoth b ?_, fun b hb => ⟨(hu.block_ge hb).2, ?_⟩⟩
      · have := hu2 b hb; omega
      · have := hu2 b hb
        simp [Value.ownBlock]; omega
    · rw [show (us.set k u).getD j (.slice none 0 0) = us.getD j (.slice none 0 0) by simp [List.getD_eq_getElem?_getD, Ne.symm hjk], show (xss.set k ys).getD j [] = xss.getD j [] by simp [List.getD_eq_getElem?_getD, Ne.symm hjk]]
      have h6 := h4 j hj'
      refine ⟨h6.1.of_block fun b hb => hoth b ?_, fun b hb => ⟨(h6.1.block_ge hb).2, (h6.2 b hb).2⟩⟩
      have := (h6.2 b hb).2
      simp [Value.ownBlock] at this
      omega
  · have hi2 : i < us.length := by simpa using hi1
    have hj2 : j < us.length := by simpa using hj1
    by_cases hik : i = k
    · subst hik
      rw [show (us.set i u).getD i (.slice none 0 0) = u by simp [List.getD_eq_getElem?_getD, hi2]] at hb
      rw [show (us.set i u).getD j (.slice none 0 0) = us.getD j (.slice none 0 0) by simp [List.getD_eq_getElem?_getD, hne]]
      intro hb2
      have := hu2 b hb
      have := ((h4 j hj2).2 b hb2).1
      omega
    · rw [show (us.set k u).getD i (.slice none 0 0) = us.getD i (.slice none 0 0) by simp [List.getD_eq_getElem?_getD, Ne.symm hik]] at hb
      by_cases hjk : j = k
      · subst hjk
        rw [show (us.set j u).getD j (.slice none 0 0) = u by simp [List.getD_eq_getElem?_getD, hj2]]
        intro hb2
        have := hu2 b hb2
        have := ((h4 i hi2).2 b hb).1
        omega
      · rw [show (us.set k u).getD j (.slice none 0 0) = us.getD j (.slice none 0 0) by simp [List.getD_eq_getElem?_getD, Ne.symm hjk]]
        exact h5 i j b hi2 hj2 hne hb
/-- The outer block's cell may be written. -/
theorem OwnP.outer {w : World} {lo hi : Nat} {xss : List (List Int)} {g n c : Nat} (h : OwnP w lo hi (.slice (some ⟨g, 0, none⟩) n c) xss) : lo ≤ g ∧ g < hi ∧ g < w.heap.size ∧ ∀ k, w.frozen? ⟨g, k, none⟩ = false := by
  obtain ⟨us, h1, h2, h3, h4, h5⟩ := h
  have hgb := ownsRow_block_ge h2 rfl
  refine ⟨hgb.1, h3 g rfl, hgb.2, fun k => ?_⟩
  rcases h2.2 with ⟨h0, _⟩ | ⟨g', cap, cur, e0, e1, e2, _⟩
  · simp at h0
  · simp only [Value.slice.injEq, Option.some.injEq, Addr.mk.injEq] at e0
    obtain ⟨⟨rfl, _⟩, _⟩ := e0
    simp [World.frozen?, e2]
theorem OwnP.cell {w : World} {lo hi : Nat} {xss : List (List Int)} {g n c : Nat} (h : OwnP w lo hi (.slice (some ⟨g, 0, none⟩) n c) xss) {k : Nat} (hk : k < xss.length) :
    ∃ A c', w.cell? ⟨g, k, none⟩ = some (.slice A (xss.getD k []).length c') := by
  obtain ⟨g', c1, A, c', e, _, _, _, h5, _⟩ := h.row hk
  simp only [Value.slice.injEq, Option.some.injEq, Addr.mk.injEq] at e
  obtain ⟨⟨rfl, _⟩, _⟩ := e
  exact ⟨A, c', h5⟩
/-- A new list of lists is returned. -/
def NewP (w : World) (xss : List (List Int)) (e : Ending) (w' : World) : Prop := ∃ A c, e = .returned (.slice A xss.length c) ∧ OwnP w' w.heap.size w'.heap.size (.slice A xss.length c) xss ∧ Below w.heap.size w w'
/-- A new plane is returned. -/
def NewPl (w : World) (m : Int) (xss : List (List Int)) (e : Ending) (w' : World) : Prop := ∃ A c, e = .returned (.agg #[.int .i64 m, .slice A xss.length c]) ∧ OwnP w' w.heap.size w'.heap.size (.slice A xss.length c) xss ∧ Below w.heap.size w w'

/-! ### Tables of planes -/
def tab (n : Nat) (f : Nat → Nat → Int) : List (List Int) := (List.range n).map fun i => lst (n - i) (f i)
def co2 (xss : List (List Int)) (i j : Nat) : Int := co (xss.getD i []) j
theorem length_tab (n : Nat) (f : Nat → Nat → Int) : (tab n f).length = n := by simp [tab]
theorem getD_tab {n : Nat} (f : Nat → Nat → Int) {i : Nat} (h : i < n) : (tab n f).getD i [] = lst (n - i) (f i) := by simp [tab, List.getD_eq_getElem?_getD, h]
theorem co2_tab {n : Nat} (f : Nat → Nat → Int) {i j : Nat} (h : i + j < n) : co2 (tab n f) i j = f i j := by
  unfold co2 co
  rw [getD_tab f (by omega), getD_lst _ _ _ (by omega)]
theorem tab_congr {n : Nat} {f g : Nat → Nat → Int} (e : ∀ i j, i + j < n → f i j = g i j) : tab n f = tab n g := by
  unfold tab
  apply List.map_congr_left
  intro i hi
  have := List.mem_range.1 hi
  exact lst_congr fun j hj => e i j (by omega)
def upd2 (f : Nat → Nat → Int) (i j : Nat) (y : Int) : Nat → Nat → Int := fun a b => if a = i ∧ b = j then y else f a b
theorem set_tab (n : Nat) (f : Nat → Nat → Int) (i j : Nat) (y : Int) : (tab n f).set i ((lst (n - i) (f i)).set j y) = tab n (upd2 f i j y) := by
  apply List.ext_getElem
  · simp [tab]
  · intro k h1 h2
    have hk : k < n := by simpa [tab] using h2
    rw [List.getElem_set]
    have e2 : (tab n (upd2 f i j y))[k] = lst (n - k) (upd2 f i j y k) := by simp [tab]
    rw [e2]
    by_cases h : i = k
    · subst h
      rw [if_pos rfl, set_lst]
      apply lst_congr
      intro b _
      by_cases hb : b = j
      · simp [upd, upd2, hb]
      · simp [upd, upd2, hb]
    · rw [if_neg h]
      have e3 : (tab n f)[k]'(by simpa [tab] using hk) = lst (n - k) (f k) := by simp [tab]
      rw [e3]
      apply lst_congr
      intro b _
      simp [upd2, Ne.symm h]
theorem set_tab' (n : Nat) (f : Nat → Nat → Int) (i j : Nat) (y : Int) (h : i < n) : (tab n f).set i (((tab n f).getD i []).set j y) = tab n (upd2 f i j y) := by rw [getD_tab f h, set_tab]
theorem tab_self {xss : List (List Int)} (h : ∀ i, i < xss.length → (xss.getD i []).length = xss.length - i) : tab xss.length (co2 xss) = xss := by
  apply List.ext_getElem
  · simp [tab]
  · intro k h1 h2
    have e2 : (tab xss.length (co2 xss))[k] = lst (xss.length - k) (co2 xss k) := by simp [tab]
    have e3 : xss.getD k [] = xss[k] := by simp [List.getD_eq_getElem?_getD, h2]
    rw [e2, ← h k h2, ← e3]
    exact lst_self _
/-- The table filled row by row, up to place j of row i. -/
def fil2 (F : Nat → Nat → Int) (i j : Nat) : Nat → Nat → Int := fun a b => if a < i ∨ (a = i ∧ b < j) then F a b else 0
theorem fil2_zero (F : Nat → Nat → Int) (n : Nat) : tab n (fun _ _ => 0) = tab n (fil2 F 0 0) := tab_congr fun a b _ => by simp [fil2]
theorem fil2_step (F : Nat → Nat → Int) (n i j : Nat) : tab n (upd2 (fil2 F i j) i j (F i j)) = tab n (fil2 F i (j + 1)) := tab_congr fun a b _ => by
  unfold upd2 fil2
  by_cases h : a = i ∧ b = j
  · obtain ⟨rfl, rfl⟩ := h
    simp
  · rw [if_neg h]
    by_cases h2 : a < i ∨ (a = i ∧ b < j)
    · rw [if_pos h2, if_pos (by omega)]
    · rw [if_neg h2, if_neg (by omega)]
theorem fil2_row (F : Nat → Nat → Int) (n i : Nat) : tab n (fil2 F i (n - i)) = tab n (fil2 F (i + 1) 0) := tab_congr fun a b hab => by
  unfold fil2
  by_cases h2 : a < i + 1 ∨ (a = i + 1 ∧ b < 0)
  · rw [if_pos h2, if_pos (by omega)]
  · rw [if_neg h2, if_neg (by omega)]
theorem fil2_all (F : Nat → Nat → Int) (n : Nat) : tab n (fil2 F n 0) = tab n F := tab_congr fun a b hab => by
  unfold fil2
  rw [if_pos (by omega)]
/-! ### Planes -/
def isPl (m : Int) (xss : List (List Int)) : Bool := isModB m && inB xss.length 2 11 && (List.range xss.length).all fun i => decide ((xss.getD i []).length = xss.length - i) && numsB m (xss.getD i [])
theorem isPl_true {m : Int} {xss : List (List Int)} (h : isPl m xss = true) : isModB m = true ∧ (2 ≤ xss.length ∧ xss.length ≤ 11) ∧ ∀ i, i < xss.length → (xss.getD i []).length = xss.length - i ∧ numsB m (xss.getD i []) = true := by
  simp only [isPl, Bool.and_eq_true, List.all_eq_true, List.mem_range, decide_eq_true_eq] at h
  have := inB_true.1 h.1.2
  exact ⟨h.1.1, by omega, h.2⟩
theorem numsB_num {m : Int} {xs : List Int} (hm : 0 < m) (h : numsB m xs = true) (k : Nat) : 0 ≤ co xs k ∧ co xs k < m := by
  unfold co
  rcases Nat.lt_or_ge k xs.length with hk | hk
  · rw [List.getD_eq_getElem?_getD, List.getElem?_eq_getElem hk]
    unfold numsB at h
    rw [List.all_eq_true] at h
    exact isNumB_true (h _ (List.getElem_mem hk))
  · rw [List.getD_eq_getElem?_getD, List.getElem?_eq_none hk]
    simp
    omega
theorem isPl_num {m : Int} {xss : List (List Int)} (h : isPl m xss = true) (i j : Nat) : 0 ≤ co2 xss i j ∧ co2 xss i j < m := by
  obtain ⟨h1, _, h3⟩ := isPl_true h
  have h4 := isModB_true h1
  unfold co2
  rcases Nat.lt_or_ge i xss.length with hi | hi
  · exact numsB_num (by omega) (h3 i hi).2 j
  · have : xss.getD i [] = [] := by rw [List.getD_eq_getElem?_getD, List.getElem?_eq_none hi]; rfl
    rw [this]
    simp [co]
    omega
theorem isPl_tab {m : Int} {xss : List (List Int)} (h : isPl m xss = true) : tab xss.length (co2 xss) = xss := tab_self fun i hi => ((isPl_true h).2.2 i hi).1
theorem isPl_len {m : Int} {xss : List (List Int)} (h : isPl m xss = true) {i : Nat} (hi : i < xss.length) : (xss.getD i []).length = xss.length - i := ((isPl_true h).2.2 i hi).1
/-- Up to row k all is well. -/
theorem isPl_take_succ (m : Int) (xss : List (List Int)) (k : Nat) (hk : k < xss.length) (h : ∀ i, i < k → (xss.getD i []).length = xss.length - i ∧ numsB m (xss.getD i []) = true) (h1 : (xss.getD k []).length = xss.length - k) (h2 : numsB m (xss.getD k []) = true) :
    ∀ i, i < k + 1 → (xss.getD i []).length = xss.length - i ∧ numsB m (xss.getD i []) = true := fun i hi => by
  rcases Nat.lt_or_ge i k with h' | h'
  · exact h i h'
  · obtain rfl : i = k := by omega
    exact ⟨h1, h2⟩
theorem isPl_of (m : Int) (xss : List (List Int)) (h1 : isModB m = true) (h2 : inB xss.length 2 11 = true) (h : ∀ i, i < xss.length → (xss.getD i []).length = xss.length - i ∧ numsB m (xss.getD i []) = true) : isPl m xss = true := by
  simp only [isPl, Bool.and_eq_true, List.all_eq_true, List.mem_range, decide_eq_true_eq]
  exact ⟨⟨h1, h2⟩, h⟩
theorem isPl_not {m : Int} {xss : List (List Int)} {k : Nat} (hk : k < xss.length) (h : (xss.getD k []).length ≠ xss.length - k ∨ numsB m (xss.getD k []) = false) : isPl m xss = false := by
  cases e : isPl m xss with
  | false => rfl
  | true =>
    obtain ⟨_, _, h3⟩ := isPl_true e
    have := h3 k hk
    rcases h with h | h
    · exact absurd this.1 h
    · rw [h] at this; simp at this

/-! ### The laws' helpers on planes -/
def RetPI (w : World) (r : (Int × List (List Int)) × Int) (e : Ending) (w' : World) : Prop := ∃ A c, e = .returned (.tuple #[.agg #[.int .i64 r.1.1, .slice A r.1.2.length c], .int .i64 r.2]) ∧ OwnP w' w.heap.size w'.heap.size (.slice A r.1.2.length c) r.1.2 ∧ Below w.heap.size w w'
theorem RetPI.of {w : World} {r r' : (Int × List (List Int)) × Int} {e : Ending} {w' : World} (h : RetPI w r e w') (he : Hid (r = r')) : RetPI w r' e w' := by rw [← he.out]; exact h
theorem OwnP.far {w : World} {lo hi : Nat} {v : Value} {xss : List (List Int)} (h : OwnP w lo hi v xss) {p : Addr} (hp : p.block < lo ∨ hi ≤ p.block) (u : Value) : OwnP (w.setCell p u) lo hi v xss :=
  h.of_block fun k _ h1 h2 => Below.heap_setCell w p u k (by omega)
theorem OwnP.alloc {w : World} {lo hi : Nat} {v : Value} {xss : List (List Int)} (h : OwnP w lo hi v xss) (o : Obj) : OwnP (w.alloc o) lo hi v xss :=
  h.of_block fun k hk _ _ => Below.heap_alloc w o k hk
theorem OwnP.hi_le {w : World} {lo hi : Nat} {v : Value} {xss : List (List Int)} (h : OwnP w lo hi v xss) : OwnP w lo w.heap.size v xss := by
  obtain ⟨us, k1, k2, k3, k4, k5⟩ := h
  exact ⟨us, k1, k2, fun g hg => (ownsRow_block_ge k2 hg).2, fun k hk => ⟨(k4 k hk).1, fun g hg => ⟨((k4 k hk).1.block_ge hg).2, ((k4 k hk).2 g hg).2⟩⟩, k5⟩
theorem copyP_step (xss : List (List Int)) (k : Nat) (hk : k < xss.length) : (xss.take k ++ List.replicate (xss.length - k) []).set k (xss.getD k []) = xss.take (k + 1) ++ List.replicate (xss.length - (k + 1)) [] := by
  have h1 : (xss.take k).length = k := by simp; omega
  rw [List.set_append_right _ _ (by omega), h1, Nat.sub_self, List.take_succ_eq_append_getElem hk, List.getD_eq_getElem?_getD, List.getElem?_eq_getElem hk, List.append_assoc]
  congr 1
  obtain ⟨m, hm⟩ : ∃ m, xss.length - k = m + 1 := ⟨xss.length - k - 1, by omega⟩
  rw [hm, show xss.length - (k + 1) = m by omega, List.replicate_succ]
  rfl
theorem len_le_cnt (xss : List (List Int)) (k : Nat) (hk : k < xss.length) : (xss.getD k []).length ≤ cntP xss := by
  have := cntP_take_succ xss k hk
  have := cntP_take_le xss (k + 1)
  omega

/-! ### Planes of the program and of the reference: what is one -/
theorem OwnP.at_ {w : World} {lo hi : Nat} {v : Value} {xss : List (List Int)} (h : OwnP w lo hi v xss) : ∃ A c, v = .slice A xss.length c ∧ xss.length ≤ c ∧ c ≤ 2 ^ 63 - 1 ∧ ∀ k, k < xss.length → ∃ g Ar cr, A = some ⟨g, 0, none⟩ ∧ g < w.heap.size ∧ w.cell? ⟨g, k, none⟩ = some (.slice Ar (xss.getD k []).length cr) ∧ OwnI w lo (.slice Ar (xss.getD k []).length cr) (xss.getD k []) := by
  obtain ⟨A, c, rfl, h1, h2⟩ := h.form
  refine ⟨A, c, rfl, h1, h2, fun k hk => ?_⟩
  obtain ⟨g, c2, A2, c', e, _, _, h5, h6, _, h7, _⟩ := h.row hk
  simp only [Value.slice.injEq] at e
  exact ⟨g, A2, c', e.1, h5, h6, h7⟩
theorem l01Numbers_q (m : Int) (w : World) (v : Value) (xs : List Int) (B : Nat) (hm : isModB m = true) (hv : OwnI w B v xs) (b : Bool) (hb : Hid (numsB m xs = b)) :
    Calls Tryz.prog 65 #[.int .i64 m, v] w fun e w' => e = .returned (.bool b) ∧ ∃ k, w' = w.drewN k := by
  have h := l01Numbers_any m w v xs B hm hv
  rwa [hb.out] at h
set_option maxHeartbeats 2000000 in
theorem l03Is_len (w : World) (m : Int) (v : Value) (xss : List (List Int)) (lo hi : Nat) (hv : OwnP w lo hi v xss) (hl : xss.length ≤ 1000000000) (hcn : cntP xss ≤ 4000000000) :
    Calls Tryz.prog 44 #[.agg #[.int .i64 m, v]] w fun e w' => e = .returned (.bool (isPl m xss)) ∧ Below w.heap.size w w' := by
  obtain ⟨A, c, rfl, hc1, hc2, hA⟩ := hv.at_
  have hxl := hl
  cases hm : isModB m
  · have HF : Hid (isPl m xss = false) := by simp [Hid, isPl, hm]
    have HM := Lib.hid hm
    clear hm hA
    go_enter Tryz.func44, Tryz.ntmps44
    go_wp2_with (go_at_call 63; refine (sModulus_any _ _).mono ?_; rintro e w' ⟨rfl, k', rfl⟩; rw [HM.out])
    go_ret
    exact ⟨by rw [HF.out]; rfl, by (repeat (first | assumption | exact Below.refl _ _ | refine Below.alloc ?_ (by first | omega | (simp; done) | (simp; omega)) _ | refine Below.setCell ?_ (by first | omega | (simp; done) | (simp; omega)) _ | refine below_drewN ?_ _))⟩
  · cases hn : inB xss.length 2 11
    · have HF : Hid (isPl m xss = false) := by simp [Hid, isPl, hn]
      have HM := Lib.hid hm
      have hn2 := inB_false.1 hn
      clear hm hn hA
      by_cases h2 : (xss.length : Int) < 2
      · go_enter Tryz.func44, Tryz.ntmps44
        go_wp2_with (go_at_call 63; refine (sModulus_any _ _).mono ?_; rintro e w' ⟨rfl, k', rfl⟩; rw [HM.out])
        go_ret
        exact ⟨by rw [HF.out]; rfl, by (repeat (first | assumption | exact Below.refl _ _ | refine Below.alloc ?_ (by first | omega | (simp; done) | (simp; omega)) _ | refine Below.setCell ?_ (by first | omega | (simp; done) | (simp; omega)) _ | refine below_drewN ?_ _))⟩
      · have h3 : (11 : Int) < (xss.length : Int) := by omega
        go_enter Tryz.func44, Tryz.ntmps44
        go_wp2_with (go_at_call 63; refine (sModulus_any _ _).mono ?_; rintro e w' ⟨rfl, k', rfl⟩; rw [HM.out])
        go_ret
        exact ⟨by rw [HF.out]; rfl, by (repeat (first | assumption | exact Below.refl _ _ | refine Below.alloc ?_ (by first | omega | (simp; done) | (simp; omega)) _ | refine Below.setCell ?_ (by first | omega | (simp; done) | (simp; omega)) _ | refine below_drewN ?_ _))⟩
    · have HM := Lib.hid hm
      have HN := Lib.hid hn
      have hn2 := inB_true.1 hn
      have h2 : ¬ (xss.length : Int) < 2 := by omega
      have h3 : ¬ (11 : Int) < (xss.length : Int) := by omega
      have HA := Lib.hid hA
      clear hm hn hA
      go_enter Tryz.func44, Tryz.ntmps44
      go_wp2_with (go_at_call 63; refine (sModulus_any _ _).mono ?_; rintro e w' ⟨rfl, k', rfl⟩; rw [HM.out])
      go_loopw [4] (fun i wr => ∃ k : Nat, k ≤ xss.length ∧ i = .int .i64 k ∧ Hid (∀ i, i < k → (xss.getD i []).length = xss.length - i ∧ numsB m (xss.getD i []) = true) ∧ Hid (Bf wr w.heap.size (.int .i64 m) (.slice A xss.length c)) ∧ Hid (Below w.heap.size w wr)) (fun i _ => xss.length - (intOf i).toNat)
      case atStart => exact ⟨0, Nat.zero_le _, rfl, (fun j hj => by omega), (Bf.alloc1 w _ _ _).drewN _, by unfold Hid; (repeat (first | assumption | exact Below.refl _ _ | refine Below.alloc ?_ (by first | omega | (simp; done) | (simp; omega)) _ | refine Below.setCell ?_ (by first | omega | (simp; done) | (simp; omega)) _ | refine below_drewN ?_ _))⟩
      case round =>
        obtain ⟨k, hk, rfl, hp, HP, HB⟩ := hrel
        have p1 := HP.out.1.2.1
        have p2 := HP.out.1.2.2
        by_cases hlt : k < xss.length
        · obtain ⟨g, Ar, cr, rfl, hg, hcell, hown⟩ := HA.out k hlt
          have hc0 := (HB.out.cell (p := ⟨g, k, none⟩) hg).trans hcell
          have HO := Lib.hid (hown.keep HB.out (Nat.le_refl _))
          obtain ⟨x, hx⟩ : ∃ x, x = xss.getD k [] := ⟨_, rfl⟩
          rw [← hx] at hc0 HO
          have hxlen : x.length ≤ 4000000000 := by have := len_le_cnt xss k hlt; rw [hx]; omega
          have hi0 : (0 : Int) ≤ (k : Int) := by omega
          have hi1 : (k : Int) < (xss.length : Int) := by omega
          have v1 : IntKind.i64.wrap ((xss.length : Int) - (k : Int)) = (xss.length : Int) - (k : Int) := IntWalk.i64_in _ (by omega)
          have HX := Lib.hid hx
          clear hcell hown hx
          by_cases hxe : x.length = xss.length - k
          · have hb1 : ((x.length : Int) != (xss.length : Int) - (k : Int)) = false := by simp; omega
            have HXE := Lib.hid hxe
            clear hxe
            cases hnn : numsB m x
            · have HF : Hid (isPl m xss = false) := isPl_not hlt (.inr (by rw [← HX.out]; exact hnn))
              have HNN := Lib.hid hnn
              clear hnn
              go_wp2
              go_quiet ((go_at_call 65; exact Calls.quiet_of (l01Numbers_q m _ _ x lo HM.out (OwnI.drewN HO.out _) false HNN)))
              go_wp2
              go_ret
              exact ⟨by rw [HF.out]; rfl, below_drewN HB.out _⟩
            · have HNN := Lib.hid hnn
              clear hnn
              go_wp2
              go_quiet ((go_at_call 65; exact Calls.quiet_of (l01Numbers_q m _ _ x lo HM.out (OwnI.drewN HO.out _) true HNN)))
              go_wp2
              go_roundw
              case rel => exact ⟨k + 1, by omega, by go_num, isPl_take_succ m xss k hlt hp.out (by rw [← HX.out]; exact HXE.out) (by rw [← HX.out]; exact HNN.out), HP.out.drewN _, below_drewN HB.out _⟩
              case measure => simp [intOf]; omega
          · have hb1 : ((x.length : Int) != (xss.length : Int) - (k : Int)) = true := by simp; omega
            have HF : Hid (isPl m xss = false) := isPl_not hlt (.inl (by rw [← HX.out]; exact hxe))
            clear hxe
            go_wp2
            go_quiet (fail)
            go_wp2
            go_ret
            exact ⟨by rw [HF.out]; rfl, below_drewN HB.out _⟩
        · obtain rfl : k = xss.length := by omega
          have HF : Hid (isPl m xss = true) := isPl_of m xss HM.out HN.out hp.out
          go_wp2
          go_ret
          exact ⟨by rw [HF.out]; rfl, HB.out⟩
theorem l03Is_any (w : World) (m : Int) (v : Value) (xss : List (List Int)) (lo hi : Nat) (hv : OwnP w lo hi v xss) (hl : szP xss ≤ 2000000) :
    Calls Tryz.prog 44 #[.agg #[.int .i64 m, v]] w fun e w' => e = .returned (.bool (isPl m xss)) ∧ Below w.heap.size w w' :=
  l03Is_len w m v xss lo hi hv (by have := length_le_szP xss; omega) (by have := cntP_le_szP xss; omega)
theorem IsPlane1_pred (w : World) (b : Nat) (m : Int) (hm : isModB m = true) (hb : w.cell? ⟨b, 0, none⟩ = some (.int .i64 m)) (hb' : b < w.heap.size) : Pred w 50 #[.pointer (some ⟨b, 0, none⟩)] (fun a => isNumB a m) := by
  refine ⟨Tryz.call50, fun W x hW => ?_⟩
  have hc := (hW.cell (p := ⟨b, 0, none⟩) hb').trans hb
  have HM := Lib.hid hm
  clear hW hb hm
  go_enter Tryz.func50, Tryz.ntmps50
  go_wp2_with (go_at_call 51; refine (isNumber_any _ _ _ HM.out).mono ?_; rintro e w' ⟨rfl, k', rfl⟩)
  go_ret
  exact ⟨rfl, _, rfl⟩
theorem pDegree_any (m : Int) (A : Option Addr) (n c : Nat) (w : World) (hn : n ≤ 1000000000) : Calls Tryz.prog 48 #[.agg #[.int .i64 m, .slice A n c]] w fun e w' => e = .returned (.int .i64 ((n : Int) - 1)) ∧ Below w.heap.size w w' := by
  go_enter Tryz.func48, Tryz.ntmps48
  go_wp2
  go_ret
  exact ⟨rfl, by (repeat (first | assumption | exact Below.refl _ _ | refine Below.alloc ?_ (by first | omega | (simp; done) | (simp; omega)) _ | refine Below.setCell ?_ (by first | omega | (simp; done) | (simp; omega)) _ | refine below_drewN ?_ _))⟩
set_option maxHeartbeats 2000000 in
theorem iIsPlane_len (w : World) (m : Int) (v : Value) (xss : List (List Int)) (lo hi : Nat) (hv : OwnP w lo hi v xss) (hl : xss.length ≤ 1000000000) (hcn : cntP xss ≤ 4000000000) :
    Calls Tryz.prog 15 #[.agg #[.int .i64 m, v]] w fun e w' => e = .returned (.bool (isPl m xss)) ∧ Below w.heap.size w w' := by
  obtain ⟨A, c, rfl, hc1, hc2, hA⟩ := hv.at_
  have hxl := hl
  cases hm : isModB m
  · have HF : Hid (isPl m xss = false) := by simp [Hid, isPl, hm]
    have HM := Lib.hid hm
    clear hm hA
    go_enter Tryz.func15, Tryz.ntmps15
    go_wp2_with (go_at_call 46; refine (iIsModulus_any _ _).mono ?_; rintro e w' ⟨rfl, k', rfl⟩; rw [HM.out])
    go_ret
    exact ⟨by rw [HF.out]; rfl, by (repeat (first | assumption | exact Below.refl _ _ | refine Below.alloc ?_ (by first | omega | (simp; done) | (simp; omega)) _ | refine Below.setCell ?_ (by first | omega | (simp; done) | (simp; omega)) _ | refine below_drewN ?_ _))⟩
  · cases hn : inB xss.length 2 11
    · have HF : Hid (isPl m xss = false) := by simp [Hid, isPl, hn]
      have HN : Hid (inB ((xss.length : Int) - 1) 1 10 = false) := by
        unfold Hid; rw [inB_false] at hn ⊢; omega
      have HM := Lib.hid hm
      clear hm hn hA
      go_enter Tryz.func15, Tryz.ntmps15
      go_wp2_with (go_at_call 46; refine (iIsModulus_any _ _).mono ?_; rintro e w' ⟨rfl, k', rfl⟩; rw [HM.out])
      refine (pDegree_any m A xss.length c _ (by omega)).mono ?_
      rintro e w1 ⟨rfl, hb1⟩
      go_wp2_with (go_at_call 47; refine (in_any _ _ _ _).mono ?_; rintro e w' ⟨rfl, k'', rfl⟩; rw [HN.out])
      go_ret
      exact ⟨by rw [HF.out]; rfl, below_drewN (Below.trans (by (repeat (first | assumption | exact Below.refl _ _ | refine Below.alloc ?_ (by first | omega | (simp; done) | (simp; omega)) _ | refine Below.setCell ?_ (by first | omega | (simp; done) | (simp; omega)) _ | refine below_drewN ?_ _))) (hb1.mono (by simp))) _⟩
    · have HN2 := Lib.hid hn
      have HN : Hid (inB ((xss.length : Int) - 1) 1 10 = true) := by
        unfold Hid; rw [inB_true] at hn ⊢; omega
      have HM := Lib.hid hm
      have HA := Lib.hid hA
      clear hm hn hA
      go_enter Tryz.func15, Tryz.ntmps15
      go_wp2_with (go_at_call 46; refine (iIsModulus_any _ _).mono ?_; rintro e w' ⟨rfl, k', rfl⟩; rw [HM.out])
      refine (pDegree_any m A xss.length c _ (by omega)).mono ?_
      rintro e w1 ⟨rfl, hb1⟩
      have P1 : Bf w1 w.heap.size (.int .i64 m) (.slice A xss.length c) := ((Bf.alloc1 w _ _ 36).drewN _).keep hb1
      have K1 : Below w.heap.size w w1 := Below.trans (by (repeat (first | assumption | exact Below.refl _ _ | refine Below.alloc ?_ (by first | omega | (simp; done) | (simp; omega)) _ | refine Below.setCell ?_ (by first | omega | (simp; done) | (simp; omega)) _ | refine below_drewN ?_ _))) (hb1.mono (by simp))
      have p1a := P1.1.2.1
      have p1b := P1.1.2.2
      go_wp2_with (go_at_call 47; refine (in_any _ _ _ _).mono ?_; rintro e w' ⟨rfl, k'', rfl⟩; rw [HN.out])
      clear p1a p1b
      go_loopw [18] (fun i wr => ∃ k : Nat, k ≤ xss.length ∧ i = .int .i64 k ∧ Hid (∀ i, i < k → (xss.getD i []).length = xss.length - i ∧ numsB m (xss.getD i []) = true) ∧ Hid (Bf wr w.heap.size (.int .i64 m) (.slice A xss.length c)) ∧ Hid (Below w.heap.size w wr)) (fun i _ => xss.length - (intOf i).toNat)
      case atStart => exact ⟨0, Nat.zero_le _, rfl, (fun j hj => by omega), P1.drewN _, by unfold Hid; exact below_drewN K1 _⟩
      case round =>
        clear P1 K1
        obtain ⟨k, hk, rfl, hp, HP, HB⟩ := hrel
        have p1 := HP.out.1.2.1
        have p2 := HP.out.1.2.2
        by_cases hlt : k < xss.length
        · obtain ⟨g, Ar, cr, rfl, hg, hcell, hown⟩ := HA.out k hlt
          have hc0 := (HB.out.cell (p := ⟨g, k, none⟩) hg).trans hcell
          have HO := Lib.hid (hown.keep HB.out (Nat.le_refl _))
          obtain ⟨x, hx⟩ : ∃ x, x = xss.getD k [] := ⟨_, rfl⟩
          rw [← hx] at hc0 HO
          have hxlen : x.length ≤ 4000000000 := by have := len_le_cnt xss k hlt; rw [hx]; omega
          have hi0 : (0 : Int) ≤ (k : Int) := by omega
          have hi1 : (k : Int) < (xss.length : Int) := by omega
          have HX := Lib.hid hx
          clear hcell hown hx
          by_cases hxe : x.length = xss.length - k
          · have hb1 : ((x.length : Int) != (xss.length : Int) - (k : Int)) = false := by simp; omega
            have HXE := Lib.hid hxe
            have HAL : Hid ((x.all fun a => isNumB a m) = numsB m x) := rfl
            clear hxe
            cases hnn : numsB m x
            · have HF : Hid (isPl m xss = false) := isPl_not hlt (.inr (by rw [← HX.out]; exact hnn))
              have HNN := Lib.hid hnn
              clear hnn
              go_wp2_with fail
              refine (all_any _ _ x lo HO.out _ _ _ (IsPlane1_pred _ w.heap.size m HM.out p1 HP.out.1.1)).mono ?_
              rintro e w2 ⟨rfl, hb2⟩
              rw [HAL.out, HNN.out]
              go_wp2
              go_ret
              exact ⟨by rw [HF.out]; rfl, HB.out.trans (hb2.mono HB.out.size)⟩
            · have HNN := Lib.hid hnn
              clear hnn
              go_wp2_with fail
              refine (all_any _ _ x lo HO.out _ _ _ (IsPlane1_pred _ w.heap.size m HM.out p1 HP.out.1.1)).mono ?_
              rintro e w2 ⟨rfl, hb2⟩
              rw [HAL.out, HNN.out]
              go_wp2
              go_roundw
              case rel => exact ⟨k + 1, by omega, by go_num, isPl_take_succ m xss k hlt hp.out (by rw [← HX.out]; exact HXE.out) (by rw [← HX.out]; exact HNN.out), HP.out.keep hb2, HB.out.trans (hb2.mono HB.out.size)⟩
              case measure => simp [intOf]; omega
          · have hb1 : ((x.length : Int) != (xss.length : Int) - (k : Int)) = true := by simp; omega
            have HF : Hid (isPl m xss = false) := isPl_not hlt (.inl (by rw [← HX.out]; exact hxe))
            clear hxe
            go_wp2
            go_ret
            exact ⟨by rw [HF.out]; rfl, HB.out⟩
        · obtain rfl : k = xss.length := by omega
          have HF : Hid (isPl m xss = true) := isPl_of m xss HM.out HN2.out hp.out
          go_wp2
          go_ret
          exact ⟨by rw [HF.out]; rfl, HB.out⟩
theorem iIsPlane_any (w : World) (m : Int) (v : Value) (xss : List (List Int)) (lo hi : Nat) (hv : OwnP w lo hi v xss) (hl : szP xss ≤ 2000000) :
    Calls Tryz.prog 15 #[.agg #[.int .i64 m, v]] w fun e w' => e = .returned (.bool (isPl m xss)) ∧ Below w.heap.size w w' :=
  iIsPlane_len w m v xss lo hi hv (by have := length_le_szP xss; omega) (by have := cntP_le_szP xss; omega)

/-! ### Series of the program: new, scaled -/
theorem Bf.setCell {w : World} {b : Nat} {x y : Value} (h : Bf w b x y) {p : Addr} (hne : p.block ≠ b) (u : Value) : Bf (w.setCell p u) b x y := by
  have e : (w.setCell p u).heap[b]? = w.heap[b]? := Below.heap_setCell w p u b (Ne.symm hne)
  refine ⟨⟨?_, (World.cell?_of_block (a := ⟨b, 0, none⟩) e).trans h.1.2.1, (World.cell?_of_block (a := ⟨b, 1, none⟩) e).trans h.1.2.2⟩, (World.frozen?_of_block (a := ⟨b, 0, none⟩) e).trans h.2.1, (World.frozen?_of_block (a := ⟨b, 1, none⟩) e).trans h.2.2⟩
  have := h.1.1
  simpa [World.setCell] using this
theorem Bf.first2d {w w1 : World} {x y x' y' : Value} {t t' : TypeId} (hb : Below ((w.alloc (.cells #[x, y] t)).alloc (.cells #[x', y'] t')).drew.heap.size ((w.alloc (.cells #[x, y] t)).alloc (.cells #[x', y'] t')).drew w1) :
    Bf w1 w.heap.size x y ∧ Bf w1 (w.heap.size + 1) x' y' ∧ Below w.heap.size w w1 := Bf.first2 (t := t) (t' := t') ⟨hb.os, hb.tape, hb.output, hb.size, hb.block⟩
theorem below_undrew {B : Nat} {a w' : World} (h : Below B a.drew w') : Below B a w' := ⟨h.os, h.tape, h.output, h.size, h.block⟩
theorem Bf.q1 {w : World} {x y : Value} {t : TypeId} : Bf (w.alloc (.cells #[x, y] t)) w.heap.size x y := Bf.alloc1 w x y t
theorem Bf.q2 {w : World} {x y x' y' : Value} {t t' : TypeId} : Bf ((w.alloc (.cells #[x, y] t)).alloc (.cells #[x', y'] t')) (w.heap.size + 1) x' y' := by
  have := Bf.alloc1 (w.alloc (.cells #[x, y] t)) x' y' t'
  simpa using this
theorem Bf.q3 {w : World} {x y x' y' x2 y2 : Value} {t t' t2 : TypeId} : Bf (((w.alloc (.cells #[x, y] t)).alloc (.cells #[x', y'] t')).alloc (.cells #[x2, y2] t2)) (w.heap.size + 2) x2 y2 := by
  have := Bf.alloc1 ((w.alloc (.cells #[x, y] t)).alloc (.cells #[x', y'] t')) x2 y2 t2
  simpa using this
theorem Bf.q4 {w : World} {x y x' y' x2 y2 x3 y3 : Value} {t t' t2 t3 : TypeId} : Bf ((((w.alloc (.cells #[x, y] t)).alloc (.cells #[x', y'] t')).alloc (.cells #[x2, y2] t2)).alloc (.cells #[x3, y3] t3)) (w.heap.size + 3) x3 y3 := by
  have := Bf.alloc1 (((w.alloc (.cells #[x, y] t)).alloc (.cells #[x', y'] t')).alloc (.cells #[x2, y2] t2)) x3 y3 t3
  simpa using this
theorem Bf.store2 {w : World} {b : Nat} {x y x' y' : Value} (h : Bf w b x y) : Bf ((w.setCell ⟨b, 0, none⟩ x').setCell ⟨b, 1, none⟩ y') b x' y' := by
  obtain ⟨⟨h1, h2, h3⟩, h4, h5⟩ := h
  have h3' : (w.setCell ⟨b, 0, none⟩ x').cell? ⟨b, 1, none⟩ = some y := (World.cell?_setCell_other _ _ _ _ (by simp)).trans h3
  refine ⟨⟨by simpa [World.setCell] using h1, (World.cell?_setCell_other _ _ _ _ (by simp)).trans (World.cell?_setCell_same _ _ _ h2), World.cell?_setCell_same _ _ _ h3'⟩, by simp [h4], by simp [h5]⟩
theorem Bf.alloc {w : World} {b : Nat} {x y : Value} (h : Bf w b x y) (o : Obj) : Bf (w.alloc o) b x y := h.keep (below_alloc1 w o)
/-- A new series of zeros: the value, and its block. -/
def NewZ (w : World) (m : Int) (n : Nat) (e : Ending) (w' : World) : Prop := ∃ g, e = .returned (.agg #[.int .i64 m, .slice (some ⟨g, 0, none⟩) n n]) ∧ w.heap.size ≤ g ∧ RowI w' g n (List.replicate n 0) ∧ Below w.heap.size w w'
theorem NewZ.of_eq {w : World} {m : Int} {n : Nat} {e : Ending} {w' : World} (h : NewZ w m n e w') : ∃ g, e = .returned (.agg #[.int .i64 m, .slice (some ⟨g, 0, none⟩) n n]) ∧ w.heap.size ≤ g ∧ RowI w' g n (List.replicate n 0) ∧ Below w.heap.size w w' := h
/-- The list while it is filled: the first k numbers are laid. -/
def fillF (g : Nat → Int) (k : Nat) : Nat → Int := fun j => if j < k then g j else 0
theorem fill_zero (g : Nat → Int) (n : Nat) : lst n (fillF g 0) = List.replicate n 0 := by rw [replicate_lst]; rfl
theorem fill_step (g : Nat → Int) (n k : Nat) : (lst n (fillF g k)).set k (g k) = lst n (fillF g (k + 1)) := by
  rw [set_lst]
  apply lst_congr
  intro j _
  unfold upd fillF
  by_cases h : j = k
  · subst h; simp
  · by_cases h2 : j < k
    · simp [h, h2, show j < k + 1 by omega]
    · simp [h, h2, show ¬ j < k + 1 by omega]
theorem fill_all (g : Nat → Int) (n : Nat) : lst n (fillF g n) = lst n g := lst_congr fun j hj => by simp [fillF, hj]
theorem fill_getD (g : Nat → Int) (n k j : Nat) (hj : j < n) : (lst n (fillF g k)).getD j 0 = fillF g k j := getD_lst _ _ _ hj
def scaleL (m c : Int) (xs : List Int) : List Int := lst xs.length fun k => c * co xs k % m
theorem length_scaleL (m c : Int) (xs : List Int) : (scaleL m c xs).length = xs.length := length_lst _ _

/-! ### Values, orders, cut series, changed moduli -/
theorem NewI.of {w : World} {xs ys : List Int} {e : Ending} {w' : World} (h : NewI w xs e w') (he : Hid (xs = ys)) : NewI w ys e w' := by rw [← he.out]; exact h
theorem isModB_bd {m : Int} (h : isModB m = true) : 2 ≤ m ∧ m ≤ 10000 := isModB_true h
def horn (m x : Int) : List Int → Int
  | [] => 0
  | c :: r => (horn m x r * x + c) % m
theorem horn_step (m x : Int) (xs : List Int) (k : Nat) (hk : k < xs.length) : horn m x (xs.drop k) = (horn m x (xs.drop (k + 1)) * x + xs.getD k 0) % m := by
  rw [List.drop_eq_getElem_cons hk, List.getD_eq_getElem?_getD, List.getElem?_eq_getElem hk]
  rfl
theorem horn_bd {m x : Int} (hm : 0 < m) (xs : List Int) : 0 ≤ horn m x xs ∧ horn m x xs < m := by
  cases xs with
  | nil => exact ⟨Int.le_refl _, hm⟩
  | cons c r => exact ⟨Int.emod_nonneg _ (by omega), Int.emod_lt_of_pos _ hm⟩
theorem mul_bd {a b m n : Int} (ha : 0 ≤ a) (ha' : a ≤ m) (hb : 0 ≤ b) (hb' : b ≤ n) : 0 ≤ a * b ∧ a * b ≤ m * n := ⟨Int.mul_nonneg ha hb, Int.mul_le_mul ha' hb' hb (by omega)⟩
def OrderOfSeriesR (m : Int) (xs : List Int) : Int × Int := if isSer m xs = false then (0, 1) else if xs.any (fun x => x != 0) = false then (0, 5) else (firstI (fun x => x != 0) xs, 0)
theorem firstI_bd (p : Int → Bool) (xs : List Int) : firstI p xs ≤ xs.length := by
  unfold firstI
  split
  · have := List.findIdx_le_length (xs := xs) (p := p); omega
  · omega
theorem order1_pred (w : World) : Pred w 58 #[] (fun x => x != 0) := by
  refine ⟨Tryz.call58, fun W x hW => ?_⟩
  go_enter Tryz.func58, Tryz.ntmps58
  go_wp2
  go_ret
  exact ⟨rfl, 0, rfl⟩
theorem iOrderOfSeriesR_any (w : World) (m : Int) (v : Value) (xs : List Int) (B : Nat) (hv : OwnI w B v xs) (hl : xs.length ≤ 2000000) : Calls Tryz.prog 22 #[.agg #[.int .i64 m, v]] w (RetII w (OrderOfSeriesR m xs)) := by
  obtain ⟨A, c, rfl⟩ := hv.form
  cases hs : isSer m xs
  · have HF : OrderOfSeriesR m xs = (0, 1) := by simp [OrderOfSeriesR, hs]
    rw [HF]
    clear HF
    have HS := Lib.hid hs
    clear hs
    go_enter Tryz.func22, Tryz.ntmps22
    go_wp2_with (go_at_call 26; refine (iIsSeries_any m _ _ xs B (hv.alloc _) (by omega)).mono ?_; rintro e w1 ⟨rfl, hb1⟩; rw [HS.out])
    go_ret2
    exact ⟨rfl, Below.trans (by (repeat (first | assumption | exact Below.refl _ _ | refine Below.alloc ?_ (by first | omega | (simp; done) | (simp; omega)) _ | refine Below.setCell ?_ (by first | omega | (simp; done) | (simp; omega)) _ | refine below_drewN ?_ _))) (hb1.mono (by simp))⟩
  · cases ha : xs.any (fun x => x != 0)
    · have HF : OrderOfSeriesR m xs = (0, 5) := by simp [OrderOfSeriesR, hs, ha]
      rw [HF]
      clear HF
      have H1 := Lib.hid (firstI_none _ _ ha)
      have HS := Lib.hid hs
      clear hs ha
      go_enter Tryz.func22, Tryz.ntmps22
      go_wp2_with (go_at_call 26; refine (iIsSeries_any m _ _ xs B (hv.alloc _) (by omega)).mono ?_; rintro e w1 ⟨rfl, hb1⟩; rw [HS.out]; obtain ⟨hc, hf⟩ := bcell hb1; have hz := hb1.size; simp at hz)
      refine (indexFunc_any _ _ xs B ((hv.alloc _).keep hb1 (Nat.le_refl _)) _ _ _ (order1_pred _)).mono ?_
      rintro e w' ⟨rfl, k', rfl⟩
      rw [H1.out]
      go_wp2
      go_ret2
      exact ⟨rfl, below_drewN (Below.trans (by (repeat (first | assumption | exact Below.refl _ _ | refine Below.alloc ?_ (by first | omega | (simp; done) | (simp; omega)) _ | refine Below.setCell ?_ (by first | omega | (simp; done) | (simp; omega)) _ | refine below_drewN ?_ _))) (hb1.mono (by simp))) _⟩
    · have HF : OrderOfSeriesR m xs = (firstI (fun x => x != 0) xs, 0) := by simp [OrderOfSeriesR, hs, ha]
      rw [HF]
      clear HF
      have h0 := firstI_nonneg (fun x => x != 0) xs
      rw [ha, decide_eq_true_iff] at h0
      have h1 := firstI_bd (fun x => x != 0) xs
      obtain ⟨r, hr⟩ : ∃ r, r = firstI (fun x => x != 0) xs := ⟨_, rfl⟩
      rw [← hr] at h0 h1 ⊢
      have HR := Lib.hid hr
      have HS := Lib.hid hs
      clear hs ha hr
      go_enter Tryz.func22, Tryz.ntmps22
      go_wp2_with (go_at_call 26; refine (iIsSeries_any m _ _ xs B (hv.alloc _) (by omega)).mono ?_; rintro e w1 ⟨rfl, hb1⟩; rw [HS.out]; obtain ⟨hc, hf⟩ := bcell hb1; have hz := hb1.size; simp at hz)
      refine (indexFunc_any _ _ xs B ((hv.alloc _).keep hb1 (Nat.le_refl _)) _ _ _ (order1_pred _)).mono ?_
      rintro e w' ⟨rfl, k', rfl⟩
      rw [← HR.out]
      go_wp2
      go_ret2
      exact ⟨rfl, below_drewN (Below.trans (by (repeat (first | assumption | exact Below.refl _ _ | refine Below.alloc ?_ (by first | omega | (simp; done) | (simp; omega)) _ | refine Below.setCell ?_ (by first | omega | (simp; done) | (simp; omega)) _ | refine below_drewN ?_ _))) (hb1.mono (by simp))) _⟩
theorem sOrderOfSeriesR_any (w : World) (m : Int) (v : Value) (xs : List Int) (B : Nat) (hv : OwnI w B v xs) (hl : xs.length ≤ 2000000) : Calls Tryz.prog 23 #[.agg #[.int .i64 m, v]] w (RetII w (OrderOfSeriesR m xs)) := by
  obtain ⟨A, c, e0, hc1, hc2, hA⟩ := hv.open_
  subst e0
  unfold maxLen at hc2
  cases hs : isSer m xs
  · have HF : OrderOfSeriesR m xs = (0, 1) := by simp [OrderOfSeriesR, hs]
    rw [HF]
    clear HF hA
    have HS := Lib.hid hs
    clear hs
    go_enter Tryz.func23, Tryz.ntmps23
    go_wp2_with (go_at_call 29; refine (l02Is_any m _ _ xs B (hv.alloc _) (by omega)).mono ?_; rintro e w1 ⟨rfl, hb1⟩; rw [HS.out])
    go_ret2
    exact ⟨rfl, Below.trans (by (repeat (first | assumption | exact Below.refl _ _ | refine Below.alloc ?_ (by first | omega | (simp; done) | (simp; omega)) _ | refine Below.setCell ?_ (by first | omega | (simp; done) | (simp; omega)) _ | refine below_drewN ?_ _))) (hb1.mono (by simp))⟩
  · have HR : Hid (OrderOfSeriesR m xs = if xs.any (fun x => x != 0) = false then (0, 5) else (firstI (fun x => x != 0) xs, 0)) := by simp [Hid, OrderOfSeriesR, hs]
    have HS := Lib.hid hs
    clear hs
    go_enter Tryz.func23, Tryz.ntmps23
    go_wp2_with (go_at_call 29; refine (l02Is_any m _ _ xs B (hv.alloc _) (by omega)).mono ?_; rintro e w1 ⟨rfl, hb1⟩; rw [HS.out])
    have K1 : Below w.heap.size w w1 := Below.trans (by (repeat (first | assumption | exact Below.refl _ _ | refine Below.alloc ?_ (by first | omega | (simp; done) | (simp; omega)) _ | refine Below.setCell ?_ (by first | omega | (simp; done) | (simp; omega)) _ | refine below_drewN ?_ _))) (hb1.mono (by simp))
    have hz := hb1.size
    simp at hz
    have f1 : w1.cell? ⟨w.heap.size, 1, none⟩ = some (.slice A xs.length c) := by rw [hb1.cell (by simp)]; simp
    go_loop [4] (fun i => ∃ k : Nat, k ≤ xs.length ∧ i = .int .i64 k ∧ Hid ((xs.take k).any (fun x => x != 0) = false)) (fun i => xs.length - (intOf i).toNat)
    case atStart => exact ⟨0, Nat.zero_le _, rfl, rfl⟩
    case round =>
      obtain ⟨k, hk, rfl, hn⟩ := hrel
      by_cases hlt : k < xs.length
      · obtain ⟨g, rfl, hg1, hg2, hcell, hfr⟩ := hA k hlt
        clear hA
        have hcell' : w1.cell? ⟨g, k, none⟩ = some (.int .i64 (xs.getD k 0)) := (K1.cell (p := ⟨g, k, none⟩) hg2).trans hcell
        clear hcell
        obtain ⟨x, hx⟩ : ∃ x, x = xs.getD k 0 := ⟨_, rfl⟩
        rw [← hx] at hcell'
        have HX := Lib.hid hx
        clear hx
        by_cases h0 : x = 0
        · have h1 : (x != 0) = false := by simpa using h0
          have HF : Hid ((xs.take (k + 1)).any (fun x => x != 0) = false) := any_take_false _ xs k hlt hn.out (by rw [← HX.out]; exact h1)
          clear h0
          go_wp2
          go_round
          case rel => exact ⟨k + 1, by omega, by go_num, HF.out⟩
          case measure => simp [intOf]; omega
        · have h1 : (x != 0) = true := by simpa using h0
          have HF : Hid (OrderOfSeriesR m xs = ((k : Int), 0)) := by
            unfold Hid
            rw [HR.out, firstI_at _ xs k hlt hn.out (by rw [← HX.out]; exact h1), if_neg]
            rw [Bool.not_eq_false, List.any_eq_true]
            refine ⟨xs[k], List.getElem_mem hlt, ?_⟩
            have h2 := HX.out
            rw [List.getD_eq_getElem?_getD, List.getElem?_eq_getElem hlt] at h2
            simp at h2
            rw [← h2]; exact h1
          clear h0
          go_wp2
          go_ret2
          exact ⟨by rw [HF.out]; rfl, K1⟩
      · have HF : Hid (OrderOfSeriesR m xs = (0, 5)) := by
          unfold Hid
          rw [HR.out, if_pos]
          have := hn.out
          rwa [List.take_of_length_le (by omega)] at this
        go_wp2
        go_ret2
        exact ⟨by rw [HF.out]; rfl, K1⟩

/-! ### Copies of lists; lists of remainders -/
theorem appendAll {w : World} {ops : Array Oper} {rest : List Oper} {o : Oper} {a : Act} {Q : Exit → Act → World → Prop} (s x : Operand) (B : Nat) (v u : Value) (xs ys : List Int)
    (hgd : o.guard = none) (ho : o.op = .call { callee := .builtin .append, args := #[s, x], argTypes := #[24, 24] })
    (hs : a.eval s = v) (hx : a.eval x = u) (hv : OwnI w B v xs) (hu : RdI w u ys) (hy : 0 < ys.length) (hl : xs.length + ys.length ≤ 1000000000000) (hB : B ≤ w.heap.size)
    (h : ∀ v' w', OwnI w' B v' (xs ++ ys) → w.grownBy w' v.ownBlock → wpList Tryz.prog ops Q rest (a.put o.dst v') w') :
    wpList Tryz.prog ops Q (o :: rest) a w := by
  obtain ⟨i0, hi, hz0, hz1, hz2⟩ := info_parts T.info64
  obtain ⟨A, c, rfl, hc1, hc2, hA⟩ := hu
  obtain ⟨b, off, rfl, _, _⟩ := hA 0 hy
  refine wpList_append_own _ hgd s x 24 ho B 2 i0 (.int .i64 0) 1 8 Tryz.underlying24 hi hz0 hz1 hz2 rfl (by decide) v xs.length (xs.map (Value.int .i64)) hs hv ⟨b, off, none⟩ ys.length c (ys.map (Value.int .i64)) hx (by simp) (fun j u hj => ?_) (fun u hu => ?_) (by unfold maxLen; omega) (by omega) hB ?_
  · rw [List.getElem?_map] at hj
    obtain ⟨y, hy1, rfl⟩ := Option.map_eq_some_iff.1 hj
    have hlt : j < ys.length := (List.getElem?_eq_some_iff.1 hy1).1
    obtain ⟨b', off', e, _, hcell⟩ := hA j hlt
    simp only [Option.some.injEq, Addr.mk.injEq] at e
    obtain ⟨rfl, rfl, _⟩ := e
    rw [WideShapes.add_plain, hcell, List.getD_eq_getElem?_getD, hy1]
    rfl
  · obtain ⟨y, _, rfl⟩ := List.mem_map.1 hu
    rfl
  · intro v' w' h1 h2 _
    refine h v' w' ?_ h2
    unfold OwnI
    simpa using h1
/-- The remainders of the first k numbers. -/
def rests (m : Int) (xs : List Int) : List Int := xs.map fun x => x % m
theorem rests_step (m : Int) (xs : List Int) (k : Nat) (hk : k < xs.length) : rests m (xs.take (k + 1)) = rests m (xs.take k) ++ [xs.getD k 0 % m] := by
  unfold rests
  rw [List.take_succ_eq_append_getElem hk, List.map_append, List.getD_eq_getElem?_getD, List.getElem?_eq_getElem hk]
  rfl
theorem length_rests (m : Int) (xs : List Int) : (rests m xs).length = xs.length := by simp [rests]

/-! ### New tables of zeros -/
theorem stepAppendP {W : World} {ops : Array Oper} {o : Oper} {a : Act} {K : Act → World → Prop} {Q : Exit → Act → World → Prop} {E : Prop} (s x : Operand) (lo hi : Nat) (v u : Value) (xss : List (List Int)) (ys : List Int) (n b H : Nat)
    (hgd : o.guard = none) (ho : o.op = .call { callee := .builtin .append, args := #[s, x], argTypes := #[34, 34] })
    (hs : a.eval s = v) (hx : a.eval x = .slice (some ⟨b, 0, none⟩) 1 1) (hv : OwnP W lo hi v xss) (hn : xss.length = n) (hhi : hi ≤ W.heap.size) (hu : OwnI W lo u ys) (hu2 : ∀ g, u.ownBlock = some g → hi ≤ g)
    (hb : W.heap[b]? = some (.cells #[u] 24 (0, 0))) (hl : n ≤ 1000000000000) (hB : lo ≤ W.heap.size) (hH : W.heap.size = H)
    (h : ∀ g c w', OwnP w' lo w'.heap.size (.slice (some ⟨g, 0, none⟩) (n + 1) c) (xss ++ [ys]) → W.grownBy w' v.ownBlock → (v.ownBlock = some g ∨ g = H) → K (a.put o.dst (.slice (some ⟨g, 0, none⟩) (n + 1) c)) w') :
    if Region.wanted o (yielded ops a.tmps) = true then Oper.wp Tryz.prog o a W K Q else E := by
  subst hn
  obtain ⟨i0, hi0, hz0, hz1, hz2⟩ := info_parts T.infoRow
  obtain ⟨us, h1, h2, h3, h4, h5⟩ := hv
  obtain ⟨Au, cu, eu⟩ := hu.form
  refine step_append_lies W hgd s x 34 ho lo 24 i0 (.slice none 0 0) 1 24 Tryz.underlying34 hi0 hz0 hz1 hz2 rfl (by decide) v us.length us hs h2 ⟨b, 0, none⟩ 1 1 [u] hx rfl (World.news_of_block (cs := #[u]) hb) (fun q hq => by simp at hq; subst hq; subst eu; rfl) (by decide) (by unfold maxLen; omega) (by omega) hB H hH ?_
  intro g c w' n2 hg hat _
  have hbl : (Value.slice (some ⟨g, 0, none⟩) (us.length + 1) c).ownBlock = v.ownBlock ∨ (Value.slice (some ⟨g, 0, none⟩) (us.length + 1) c).ownBlock = some W.heap.size := by
    rcases hat with h | h
    · exact .inl (by rw [h]; rfl)
    · exact .inr (by rw [h, hH]; rfl)
  have ho' := OwnP.push h1 h2 h3 h4 h5 hhi hu hu2 n2 hg hbl
  rw [h1] at ho' ⊢
  exact h g c w' ho' hg hat
theorem ownP_block_ge {w : World} {lo hi g : Nat} {v : Value} {xss : List (List Int)} (h : OwnP w lo hi v xss) (hg : v.ownBlock = some g) : lo ≤ g := by
  obtain ⟨us, _, h2, _⟩ := h
  exact (ownsRow_block_ge h2 hg).1
theorem below_grownP {B : Nat} {w0 w w' : World} {v : Value} (h : Below B w0 w) (hB : B ≤ w.heap.size) (hg : w.grownBy w' v.ownBlock) (hv : ∀ g, v.ownBlock = some g → B ≤ g) : Below B w0 w' := h.grown hg hB fun b hb => hv b hb
theorem Bf.grown {w w' : World} {b : Nat} {x y : Value} {row : Option Nat} (h : Bf w b x y) (R : w.grownBy w' row) (hne : some b ≠ row) : Bf w' b x y := by
  have e : w'.heap[b]? = w.heap[b]? := R.block b h.1.1 hne
  exact ⟨⟨Nat.lt_of_lt_of_le h.1.1 R.size, (World.cell?_of_block (a := ⟨b, 0, none⟩) e).trans h.1.2.1, (World.cell?_of_block (a := ⟨b, 1, none⟩) e).trans h.1.2.2⟩, (World.frozen?_of_block (a := ⟨b, 0, none⟩) e).trans h.2.1, (World.frozen?_of_block (a := ⟨b, 1, none⟩) e).trans h.2.2⟩
theorem Bf.set1 {w : World} {b : Nat} {x y : Value} (h : Bf w b x y) (y' : Value) : Bf (w.setCell ⟨b, 1, none⟩ y') b x y' := by
  obtain ⟨⟨h1, h2, h3⟩, h4, h5⟩ := h
  exact ⟨⟨by simpa [World.setCell] using h1, (World.cell?_setCell_other _ _ _ _ (by simp)).trans h2, World.cell?_setCell_same _ _ _ h3⟩, by simp [h4], by simp [h5]⟩
def zt (n k : Nat) : List (List Int) := (List.range k).map fun i => List.replicate (n - i) (0 : Int)
theorem length_zt (n k : Nat) : (zt n k).length = k := by simp [zt]
theorem zt_succ (n k : Nat) : zt n (k + 1) = zt n k ++ [List.replicate (n - k) 0] := by simp [zt, List.range_succ]
theorem zt_all (n : Nat) : zt n n = tab n fun _ _ => 0 := by
  unfold zt tab
  apply List.map_congr_left
  intro i _
  exact replicate_lst _
theorem made_own (w : World) (n : Nat) (hn : n ≤ 1000000000000) (lo : Nat) (hlo : lo ≤ w.heap.size) : OwnI (w.alloc (.cells (madeCells #[Value.int .i64 0] n) 2)) lo (.slice (some ⟨w.heap.size, 0, none⟩) n n) (List.replicate n 0) := by
  have h : RowI (w.alloc (.cells (madeCells #[Value.int .i64 0] n) 2)) w.heap.size n (List.replicate n 0) := by
    refine ⟨by simp, by unfold maxLen; omega, _, heap_alloc_new w _, size_madeCells _ _, ?_⟩
    rw [madeCells_zero, List.take_of_length_le (by simp)]
  exact h.own' hlo (by simp)

/-! ### Exchanged variables -/
theorem OwnP.at2 {w : World} {lo hi : Nat} {A : Option Addr} {n c : Nat} {xss : List (List Int)} (h : OwnP w lo hi (.slice A n c) xss) {i j : Nat} (hi' : i < xss.length) (hj : j < (xss.getD i []).length) :
    ∃ g gr cr, A = some ⟨g, 0, none⟩ ∧ g < w.heap.size ∧ w.cell? ⟨g, i, none⟩ = some (.slice (some ⟨gr, 0, none⟩) (xss.getD i []).length cr) ∧ gr < w.heap.size ∧ w.cell? ⟨gr, j, none⟩ = some (.int .i64 (co2 xss i j)) ∧ (xss.getD i []).length ≤ cr := by
  obtain ⟨g, c2, Ar, cr, e, _, _, h3, hcell, _, hown, _, _⟩ := h.row hi'
  simp only [Value.slice.injEq] at e
  obtain ⟨rfl, _, _⟩ := e
  obtain ⟨A2, cp2, e2, hc3, hc4, hA2⟩ := hown.open_
  simp only [Value.slice.injEq] at e2
  obtain ⟨e3, _, e4⟩ := e2
  subst e3 e4
  obtain ⟨gr, rfl, _, h5, h6, _⟩ := hA2 j hj
  exact ⟨g, gr, cr, rfl, h3, hcell, h5, h6, hc3⟩
/-- The rows have the lengths of a plane's. -/
def Tri (n : Nat) (xss : List (List Int)) : Prop := xss.length = n ∧ ∀ i, i < n → (xss.getD i []).length = n - i
theorem Tri.tab (n : Nat) (f : Nat → Nat → Int) : Tri n (tab n f) := ⟨length_tab n f, fun i hi => by rw [getD_tab f hi, length_lst]⟩
theorem isPl_tri {m : Int} {xss : List (List Int)} (h : isPl m xss = true) : Tri xss.length xss := ⟨rfl, fun _ hi => isPl_len h hi⟩
/-- All numbers lie from 0 to below m. -/
def Num2 (m : Int) (xss : List (List Int)) : Prop := ∀ i j, 0 ≤ co2 xss i j ∧ co2 xss i j < m
theorem isPl_num2 {m : Int} {xss : List (List Int)} (h : isPl m xss = true) : Num2 m xss := isPl_num h
theorem RetPI.zero {w w' : World} {k : Int} (h : Below w.heap.size w w') : RetPI w ((0, []), k) (.returned (.tuple #[.agg #[.int .i64 0, .slice none 0 0], .int .i64 k])) w' := ⟨none, 0, rfl, OwnP.nil_ _ _ _, h⟩
theorem RetPI.mk {w w' : World} {m : Int} {n : Nat} {A : Option Addr} {c lo hi : Nat} {xss : List (List Int)} {k : Int} (h : OwnP w' lo hi (.slice A n c) xss) (hn : xss.length = n) (hlo : w.heap.size ≤ lo) (hb : Below w.heap.size w w') : RetPI w ((m, xss), k) (.returned (.tuple #[.agg #[.int .i64 m, .slice A n c], .int .i64 k])) w' := by
  subst hn
  exact ⟨A, c, rfl, h.hi_le.mono hlo (Nat.le_refl _), hb⟩
theorem OwnP.far2 {w : World} {lo hi b : Nat} {v x y : Value} {xss : List (List Int)} (h : OwnP w lo hi v xss) (hp : b < lo ∨ hi ≤ b) : OwnP ((w.setCell ⟨b, 0, none⟩ x).setCell ⟨b, 1, none⟩ y) lo hi v xss := (h.far hp x).far hp y
theorem l03Make_any (w : World) (m : Int) (A : Option Addr) (n c : Nat) : Calls Tryz.prog 56 #[.int .i64 m, .slice A n c] w fun e w' => e = .returned (.agg #[.int .i64 m, .slice A n c]) ∧ Below w.heap.size w w' := by
  go_enter Tryz.func56, Tryz.ntmps56
  go_wp2
  exact bodyPost_ret (v := .agg #[.int .i64 m, .slice A n c]) (by simp [results, Tryz.results56, go_sem]) rfl ⟨rfl, by (repeat (first | assumption | exact Below.refl _ _ | refine Below.alloc ?_ (by first | omega | (simp; done) | (simp; omega)) _ | refine Below.setCell ?_ (by first | omega | (simp; done) | (simp; omega)) _ | refine below_drewN ?_ _))⟩
def TurnPlaneR (m : Int) (xss : List (List Int)) : (Int × List (List Int)) × Int := if isPl m xss = false then ((0, []), 1) else ((m, tab xss.length fun i j => co2 xss j i), 0)
theorem cntP_tab_le (n : Nat) (f : Nat → Nat → Int) : cntP (tab n f) ≤ n * n := by
  have h : ∀ k, k ≤ n → cntP ((tab n f).take k) ≤ k * n := by
    intro k
    induction k with
    | zero => simp [cntP]
    | succ k ih =>
      intro hk
      rw [cntP_take_succ _ _ (by rw [length_tab]; omega), getD_tab f (by omega), length_lst]
      have := ih (by omega)
      rw [Nat.succ_mul]
      omega
  have := h n (Nat.le_refl _)
  rwa [List.take_of_length_le (by rw [length_tab]; exact Nat.le_refl _)] at this
theorem cntP_tab_100 {n : Nat} (f : Nat → Nat → Int) (hn : n ≤ 12) : cntP (tab n f) ≤ 200 := by
  have := cntP_tab_le n f
  have h : n * n ≤ 12 * 12 := Nat.mul_le_mul hn hn
  omega
theorem TurnPlaneR_len (m : Int) (xss : List (List Int)) : cntP (TurnPlaneR m xss).1.2 ≤ 200 := by
  unfold TurnPlaneR
  cases h : isPl m xss
  · simp [cntP]
  · have := (isPl_true h).2.1
    exact cntP_tab_100 _ (by omega)

/-! ### ChangePlane -/
def rowsF (f : Nat → List Int) (k : Nat) : List (List Int) := (List.range k).map f
theorem length_rowsF (f : Nat → List Int) (k : Nat) : (rowsF f k).length = k := by simp [rowsF]
theorem rowsF_succ (f : Nat → List Int) (k : Nat) : rowsF f (k + 1) = rowsF f k ++ [f k] := by simp [rowsF, List.range_succ]
theorem cntP_rowsF {f : Nat → List Int} {b : Nat} : ∀ {k : Nat}, (∀ i, i < k → (f i).length ≤ b) → cntP (rowsF f k) ≤ k * b
  | 0, _ => by simp [rowsF, cntP]
  | k + 1, h => by
    rw [rowsF_succ, cntP_append, Nat.succ_mul]
    have h1 := cntP_rowsF (k := k) fun i hi => h i (by omega)
    have h2 := h k (by omega)
    simp [cntP]
    omega
theorem OwnP.start {W : World} {lo : Nat} (h : lo ≤ W.heap.size) : OwnP (W.alloc (.cells #[] 24)) lo (W.alloc (.cells #[] 24)).heap.size (.slice (some ⟨W.heap.size, 0, none⟩) 0 0) [] := by simpa using OwnP.lit0 W h
theorem OwnP.source {w : World} {lo hi : Nat} {v : Value} {xss : List (List Int)} (h : OwnP w lo hi v xss) (n : Nat) (hn : xss.length = n) (hn1 : 1 ≤ n) : ∃ g c, v = .slice (some ⟨g, 0, none⟩) n c ∧ n ≤ c ∧ c ≤ 2 ^ 63 - 1 ∧ g < w.heap.size ∧ ∀ k, k < n → ∃ Ar cr, w.cell? ⟨g, k, none⟩ = some (.slice Ar (xss.getD k []).length cr) ∧ OwnI w lo (.slice Ar (xss.getD k []).length cr) (xss.getD k []) := by
  subst hn
  obtain ⟨A, c, rfl, hc1, hc2, hA⟩ := h.at_
  obtain ⟨g, _, _, rfl, hg, _, _⟩ := hA 0 (by omega)
  refine ⟨g, c, rfl, hc1, hc2, hg, fun k hk => ?_⟩
  obtain ⟨g', Ar, cr, e, _, h1, h2⟩ := hA k hk
  simp only [Option.some.injEq, Addr.mk.injEq] at e
  obtain ⟨rfl, _⟩ := e
  exact ⟨Ar, cr, h1, h2⟩
def ChangePlaneR (m : Int) (xss : List (List Int)) (d : Int) : (Int × List (List Int)) × Int := if isPl m xss = false then ((0, []), 1) else if (isModB d && m % d == 0) = false then ((0, []), 2) else ((d, rowsF (fun i => rests d (xss.getD i [])) xss.length), 0)
theorem ChangePlaneR_len (m : Int) (xss : List (List Int)) (d : Int) : cntP (ChangePlaneR m xss d).1.2 ≤ 200 := by
  unfold ChangePlaneR
  cases h : isPl m xss
  · simp [cntP]
  · have h2 := (isPl_true h).2.1
    cases hd : (isModB d && m % d == 0)
    · simp [cntP]
    · simp only [Bool.true_eq_false, if_false]
      have := cntP_rowsF (f := fun i => rests d (xss.getD i [])) (b := 11) (k := xss.length) fun i hi => by
        simp only [rests, List.length_map]
        rw [isPl_len h hi]; omega
      omega
theorem row_bound {m : Int} {xss : List (List Int)} (h : isPl m xss = true) (i k : Nat) : 0 ≤ (xss.getD i []).getD k 0 ∧ (xss.getD i []).getD k 0 < 1000000 := by
  have h1 := isPl_num h i k
  have h2 := isModB_true (isPl_true h).1
  unfold co2 co at h1
  omega
theorem mod_ne {m d : Int} (h1 : 0 ≤ m) : m.tmod d = m % d := Int.tmod_eq_emod_of_nonneg h1

/-! Planes. -/
def rowsV (b : List UInt8) : List (List Int) := (spl 47 b).map fun r => (spl 44 r).map valL
def rowsN (b : List UInt8) : List (List Int) := (spl 47 b).map fun r => (spl 44 r).map decN
def rowsB (b : List UInt8) : Bool := (spl 47 b).all fun r => (spl 44 r).all decB
def ParsePlaneR (t : List UInt8) : (Int × List (List Int)) × Int :=
  match spl 58 t with
  | [a, b] => if isPl (valL a) (rowsV b) = true then ((valL a, rowsV b), 0) else ((0, []), 6)
  | _ => ((0, []), 6)
def parseP (t : List UInt8) : (Int × List (List Int)) × Int :=
  if decB (Lib.cut t [58]).1 = true then (if rowsB (Lib.cut t [58]).2.1 = true then (if isPl (decN (Lib.cut t [58]).1) (rowsN (Lib.cut t [58]).2.1) = true then ((decN (Lib.cut t [58]).1, rowsN (Lib.cut t [58]).2.1), 0) else ((0, []), 6)) else ((0, []), 6)) else ((0, []), 6)
theorem isPl_parts {m : Int} {xss : List (List Int)} (h : isPl m xss = true) : isModB m = true ∧ (2 ≤ xss.length ∧ xss.length ≤ 11) ∧ ∀ xs ∈ xss, numsB m xs = true := by
  unfold isPl at h
  rw [Bool.and_eq_true, Bool.and_eq_true, List.all_eq_true] at h
  obtain ⟨⟨h1, h2⟩, h3⟩ := h
  have h2' := inB_true.1 h2
  refine ⟨h1, by omega, fun xs hx => ?_⟩
  obtain ⟨i, hi, rfl⟩ := List.mem_iff_getElem.1 hx
  have := h3 i (List.mem_range.2 hi)
  rw [Bool.and_eq_true, List.getD_eq_getElem?_getD, List.getElem?_eq_getElem hi] at this
  exact this.2
theorem rowsV_N {m : Int} {b : List UInt8} (h : ∀ xs ∈ rowsV b, numsB m xs = true) : rowsB b = true ∧ rowsN b = rowsV b := by
  have hr : ∀ r ∈ spl 47 b, (spl 44 r).all decB = true ∧ (spl 44 r).map decN = (spl 44 r).map valL := fun r hr => words_val (h _ (List.mem_map.2 ⟨r, hr, rfl⟩))
  exact ⟨List.all_eq_true.2 fun r h => (hr r h).1, List.map_congr_left fun r h => (hr r h).2⟩
theorem rowsN_V {m : Int} (hm : m ≤ 10000) {b : List UInt8} (hb : rowsB b = true) (h : ∀ xs ∈ rowsN b, numsB m xs = true) : rowsN b = rowsV b := by
  unfold rowsB at hb
  rw [List.all_eq_true] at hb
  exact List.map_congr_left fun r hr => words_dec hm (hb r hr) (h _ (List.mem_map.2 ⟨r, hr, rfl⟩))
theorem rowsB_nil : rowsB [] = false := by simp [rowsB, spl, decB_nil]
theorem rowsB_colon {b : List UInt8} (h : (58 : UInt8) ∈ b) : rowsB b = false := by
  obtain ⟨r, hr, hc⟩ := spl_mem (c := 47) (by decide) h
  obtain ⟨w, hw, hd⟩ := spl_mem (c := 44) (by decide) hc
  unfold rowsB
  rw [List.all_eq_false]
  refine ⟨r, hr, ?_⟩
  rw [Bool.not_eq_true, List.all_eq_false]
  exact ⟨w, hw, by rw [decB_not hd (by decide) (by decide)]; simp⟩
theorem parseP_eq (t : List UInt8) : parseP t = ParsePlaneR t := by
  unfold parseP ParsePlaneR
  rcases parse_halves t with ⟨a, b, h1, h2⟩ | ⟨h1, h2⟩
  · rw [h1, h2]
    simp only
    by_cases hs : isPl (valL a) (rowsV b) = true
    · rw [if_pos hs]
      have hs' := isPl_parts hs
      have hm := isModB_true hs'.1
      have ha := val_dec (s := a) (by omega)
      have hw := rowsV_N hs'.2.2
      rw [if_pos ha.1, if_pos hw.1, ha.2, hw.2, if_pos hs]
    · rw [if_neg hs]
      by_cases ha : decB a = true
      · rw [if_pos ha]
        by_cases hw : rowsB b = true
        · rw [if_pos hw]
          by_cases hs2 : isPl (decN a) (rowsN b) = true
          · exfalso
            have hs' := isPl_parts hs2
            have hm := isModB_true hs'.1
            apply hs
            rw [dec_val ha (by omega) (by omega), ← rowsN_V hm.2 hw hs'.2.2]
            exact hs2
          · rw [if_neg hs2]
        · rw [if_neg hw]
      · rw [if_neg ha]
  · have hf : rowsB (Lib.cut t [58]).2.1 = false := by
      rcases h2 with e | e
      · rw [e]; exact rowsB_nil
      · exact rowsB_colon e
    rw [hf]
    have : (match spl 58 t with
      | [a, b] => if isPl (valL a) (rowsV b) = true then ((valL a, rowsV b), (0 : Int)) else ((0, []), 6)
      | _ => ((0, []), 6)) = (((0 : Int), []), 6) := by
      split
      · rename_i a b e; exact absurd e (h1 a b)
      · rfl
    rw [this]
    split <;> rfl
/-! Texts. -/
def listT (xs : List Int) : List UInt8 := Lib.join (xs.map Lib.itoa) [44]
def serT (m : Int) (xs : List Int) : List UInt8 := Lib.itoa m ++ 58 :: listT xs
def SeriesTextR (m : Int) (xs : List Int) : List UInt8 × Int := if isSer m xs = true then (serT m xs, 0) else ([], 1)
def plT (m : Int) (xss : List (List Int)) : List UInt8 := Lib.itoa m ++ 58 :: Lib.join (xss.map listT) [47]
def PlaneTextR (m : Int) (xss : List (List Int)) : List UInt8 × Int := if isPl m xss = true then (plT m xss, 0) else ([], 1)
theorem val_itoa {n : Int} (h0 : 0 ≤ n) (h1 : n < 1000000000) : valL (Lib.itoa n) = n := by
  obtain ⟨u, rfl⟩ := Int.eq_ofNat_of_zero_le h0
  have hd := decDigits_dig u
  have hlt : numA 0 (Lib.decDigits u) ≤ 2 ^ 64 - 1 := by rw [numA_decDigits]; omega
  have hlen : (Lib.decDigits u).length ≤ 9 := by
    rw [Lib.decDigits_length]
    rcases Nat.lt_or_ge 9 (Lib.nDigits u) with c | c
    · exfalso
      have h := pow_le_nDigits 8 u (by omega)
      have : (10 : Nat) ^ (8 + 1) = 1000000000 := by decide
      omega
    · exact c
  rw [itoa_nat]
  unfold valL
  rw [if_neg, valGo_dig _ _ hd, numA_decDigits]
  rintro (h | h | h)
  · exact decDigits_ne u h
  · omega
  · exact decDigits_lead u h.1 h.2
theorem itoa_chars {n : Int} (h0 : 0 ≤ n) : Dig (Lib.itoa n) := by
  obtain ⟨u, rfl⟩ := Int.eq_ofNat_of_zero_le h0
  rw [itoa_nat]; exact decDigits_dig u
theorem not_mem_dig {l : List UInt8} {c : UInt8} (h : Dig l) (hc : digB c = false) : c ∉ l := fun hm => by rw [h c hm] at hc; cases hc
theorem mem_join {ws : List (List UInt8)} {c s : UInt8} (h : c ∈ Lib.join ws [s]) : c = s ∨ ∃ w ∈ ws, c ∈ w := by
  cases ws with
  | nil => simp [Lib.join] at h
  | cons x r =>
    unfold Lib.join at h
    rw [joinTail_cons] at h
    rcases List.mem_append.1 h with h | h
    · exact .inr ⟨x, by simp, h⟩
    · unfold Lib.joinTail at h
      rw [List.mem_flatten] at h
      obtain ⟨l, hl, hc⟩ := h
      obtain ⟨w, hw, rfl⟩ := List.mem_map.1 hl
      rcases List.mem_append.1 hc with h | h
      · exact .inl (by simpa using h)
      · exact .inr ⟨w, by simp [hw], h⟩
theorem map_val_itoa {m : Int} {xs : List Int} (hm : m ≤ 10000) (h : numsB m xs = true) : (xs.map Lib.itoa).map valL = xs := by
  rw [List.map_map]
  conv => rhs; rw [← List.map_id xs]
  refine List.map_congr_left fun x hx => ?_
  have := numsB_mem h x hx
  exact val_itoa this.1 (by omega)
theorem spl_listT {m : Int} {xs : List Int} (hne : xs ≠ []) (h : numsB m xs = true) : spl 44 (listT xs) = xs.map Lib.itoa := by
  refine spl_join (by simpa using hne) fun w hw => ?_
  obtain ⟨x, hx, rfl⟩ := List.mem_map.1 hw
  exact not_mem_dig (itoa_chars (numsB_mem h x hx).1) (by decide)
theorem listT_no {m : Int} {xs : List Int} (h : numsB m xs = true) {c : UInt8} (h1 : c ≠ 44) (h2 : digB c = false) : c ∉ listT xs := by
  intro hc
  rcases mem_join hc with e | ⟨w, hw, hcw⟩
  · exact h1 e
  · obtain ⟨x, hx, rfl⟩ := List.mem_map.1 hw
    exact not_mem_dig (itoa_chars (numsB_mem h x hx).1) h2 hcw
theorem parse_serT {m : Int} {xs : List Int} (h : isSer m xs = true) : ParseSeriesR (serT m xs) = ((m, xs), 0) := by
  obtain ⟨h1, h2, h3⟩ := isSer_true h
  have hm := isModB_true h1
  have hne : xs ≠ [] := fun e => by rw [e] at h2; simp at h2
  have e1 : spl 58 (serT m xs) = [Lib.itoa m, listT xs] := by
    unfold serT
    rw [spl_app (not_mem_dig (itoa_chars (by omega)) (by decide)), spl_not_mem (listT_no h3 (by decide) (by decide))]
  unfold ParseSeriesR
  rw [e1]
  simp only
  rw [val_itoa (by omega) (by omega), spl_listT hne h3, map_val_itoa hm.2 h3, if_pos h]
theorem isPl_rows {m : Int} {xss : List (List Int)} (h : isPl m xss = true) : ∀ xs ∈ xss, xs ≠ [] := by
  unfold isPl at h
  rw [Bool.and_eq_true, Bool.and_eq_true, List.all_eq_true] at h
  intro xs hx e
  obtain ⟨i, hi, hxi⟩ := List.mem_iff_getElem.1 hx
  have := h.2 i (List.mem_range.2 hi)
  rw [Bool.and_eq_true, List.getD_eq_getElem?_getD, List.getElem?_eq_getElem hi, Option.getD_some, hxi, decide_eq_true_eq] at this
  rw [e] at this
  simp at this
  omega
theorem parse_plT {m : Int} {xss : List (List Int)} (h : isPl m xss = true) : ParsePlaneR (plT m xss) = ((m, xss), 0) := by
  obtain ⟨h1, h2, h3⟩ := isPl_parts h
  have hm := isModB_true h1
  have hr := isPl_rows h
  have hne : xss ≠ [] := fun e => by rw [e] at h2; simp at h2
  have e0 : (58 : UInt8) ∉ Lib.join (xss.map listT) [47] := by
    intro hc
    rcases mem_join hc with e | ⟨w, hw, hcw⟩
    · exact absurd e (by decide)
    · obtain ⟨x, hx, rfl⟩ := List.mem_map.1 hw
      exact listT_no (h3 x hx) (by decide) (by decide) hcw
  have e1 : spl 58 (plT m xss) = [Lib.itoa m, Lib.join (xss.map listT) [47]] := by
    unfold plT
    rw [spl_app (not_mem_dig (itoa_chars (by omega)) (by decide)), spl_not_mem e0]
  have e2 : rowsV (Lib.join (xss.map listT) [47]) = xss := by
    unfold rowsV
    rw [spl_join (by simpa using hne) (fun w hw => by
      obtain ⟨x, hx, rfl⟩ := List.mem_map.1 hw
      exact listT_no (h3 x hx) (by decide) (by decide)), List.map_map]
    conv => rhs; rw [← List.map_id xss]
    refine List.map_congr_left fun xs hx => ?_
    show (spl 44 (listT xs)).map valL = xs
    rw [spl_listT (hr xs hx) (h3 xs hx), map_val_itoa hm.2 (h3 xs hx)]
  unfold ParsePlaneR
  rw [e1]
  simp only
  rw [val_itoa (by omega) (by omega), e2, if_pos h]
theorem spl_two {t a b : List UInt8} (h : spl 58 t = [a, b]) : t = a ++ 58 :: b := by
  have := join_spl 58 t
  rw [h] at this
  rw [← this]
  unfold Lib.join
  rw [joinTail_cons]
  simp [Lib.joinTail]
theorem itoa_val {s : List UInt8} (h : 0 ≤ valL s) : Lib.itoa (valL s) = s := (decOk_of_valL rfl h).1.2.2
theorem listT_val {m : Int} {r : List UInt8} (h : numsB m ((spl 44 r).map valL) = true) : listT ((spl 44 r).map valL) = r := by
  unfold listT
  rw [List.map_map]
  have : (spl 44 r).map (Lib.itoa ∘ valL) = spl 44 r := by
    conv => rhs; rw [← List.map_id (spl 44 r)]
    refine List.map_congr_left fun w hw => ?_
    exact itoa_val (numsB_mem h (valL w) (List.mem_map.2 ⟨w, hw, rfl⟩)).1
  rw [this, join_spl]
theorem plT_parse {t : List UInt8} {m : Int} {xss : List (List Int)} (h : ParsePlaneR t = ((m, xss), 0)) : isPl m xss = true ∧ plT m xss = t := by
  unfold ParsePlaneR at h
  split at h
  · rename_i a b e
    split at h
    · rename_i hs
      simp only [Prod.mk.injEq, and_true] at h
      obtain ⟨rfl, rfl⟩ := h
      refine ⟨hs, ?_⟩
      obtain ⟨h1, h2, h3⟩ := isPl_parts hs
      have hm := isModB_true h1
      have e2 : (rowsV b).map listT = spl 47 b := by
        unfold rowsV
        rw [List.map_map]
        conv => rhs; rw [← List.map_id (spl 47 b)]
        refine List.map_congr_left fun r hr => ?_
        exact listT_val (h3 _ (List.mem_map.2 ⟨r, hr, rfl⟩))
      unfold plT
      rw [itoa_val (by omega), e2, join_spl, spl_two e]
    · simp at h
  · simp at h

/-! ### ParsePlane of the reference -/
theorem psP_not {t : List UInt8} (h : (spl 58 t).length ≠ 2) : ParsePlaneR t = ((0, []), 6) := by
  unfold ParsePlaneR
  split
  · rename_i a b e; rw [e] at h; simp at h
  · rfl
theorem psP_two {t a b : List UInt8} (h : spl 58 t = [a, b]) : ParsePlaneR t = if isPl (valL a) (rowsV b) = true then ((valL a, rowsV b), 0) else ((0, []), 6) := by
  unfold ParsePlaneR
  rw [h]
theorem retPI_nil {w w' : World} {c : Int} (h : Below w.heap.size w w') : RetPI w ((0, []), c) (.returned (.tuple #[.agg #[.int .i64 0, .slice none 0 0], .int .i64 c])) w' :=
  ⟨none, 0, rfl, OwnP.nil_ _ _ _, h⟩
theorem OwnT.some_ {w : World} {B : Nat} {A : Option Addr} {n c : Nat} {ts : List ByteArray} (h : OwnT w B (.slice A n c) ts) (h0 : 0 < ts.length) : ∃ g, A = some ⟨g, 0, none⟩ ∧ B ≤ g ∧ g < w.heap.size ∧ n = ts.length ∧ ts.length ≤ c ∧ c ≤ maxLen := by
  obtain ⟨A', c', e, h3, h4, hA⟩ := h.open_
  simp only [Value.slice.injEq] at e
  obtain ⟨rfl, rfl, rfl⟩ := e
  obtain ⟨g, rfl, g1, g2, _⟩ := hA 0 h0
  exact ⟨g, rfl, g1, g2, rfl, h3, h4⟩
theorem OwnT.far {w : World} {B g n c : Nat} {ts : List ByteArray} (h : OwnT w B (.slice (some ⟨g, 0, none⟩) n c) ts) {p : Addr} (hne : g ≠ p.block) (u : Value) : OwnT (w.setCell p u) B (.slice (some ⟨g, 0, none⟩) n c) ts := by
  refine h.of_block fun q hq => ?_
  have : g = q := by simpa [Value.ownBlock] using hq
  subst this
  exact Below.heap_setCell w p u _ hne
theorem OwnT.grown {w w' : World} {B g n c : Nat} {ts : List ByteArray} {row : Option Nat} (h : OwnT w B (.slice (some ⟨g, 0, none⟩) n c) ts) (R : w.grownBy w' row) (hne : some g ≠ row) : OwnT w' B (.slice (some ⟨g, 0, none⟩) n c) ts := by
  refine h.of_block fun q hq => ?_
  have : g = q := by simpa [Value.ownBlock] using hq
  subst this
  exact R.block _ (h.block_ge rfl).2 hne
def rowV (r : List UInt8) : List Int := (spl 44 r).map valL
theorem rowV_len (r : List UInt8) : (rowV r).length ≤ r.length + 1 := by
  unfold rowV; rw [List.length_map]; exact spl_len 44 r
theorem pieces_sum (c : UInt8) : ∀ l : List UInt8, ((spl c l).map fun p => p.length + 1).sum = l.length + 1
  | [] => by simp [spl]
  | x :: r => by
    have ih := pieces_sum c r
    rw [spl]
    split
    · simp only [List.map_cons, List.length_nil, List.sum_cons, List.length_cons, ih]; omega
    · rcases hs : spl c r with _ | ⟨a, t⟩
      · exact absurd hs (spl_ne c r)
      · rw [hs] at ih
        simp only [List.map_cons, List.sum_cons, List.length_cons] at ih ⊢
        omega
theorem cntP_rows (f : List UInt8 → List Int) (hf : ∀ r, (f r).length ≤ r.length + 1) : ∀ ws : List (List UInt8), cntP (ws.map f) ≤ (ws.map fun p => p.length + 1).sum
  | [] => by simp [cntP]
  | r :: rs => by
    have ih := cntP_rows f hf rs
    have := hf r
    simp only [List.map_cons, List.sum_cons, cntP]
    omega
set_option maxRecDepth 4000 in
set_option maxHeartbeats 4000000 in
theorem sParsePlaneR_any (w : World) (s : ByteArray) (hs : s.size ≤ 900000000) :
    Calls Tryz.prog 20 #[.string s] w (RetPI w (ParsePlaneR s.data.toList)) := by
  go_enter Tryz.func20, Tryz.ntmps20
  go_wp2_with fail
  refine (l01Split_any _ s _ 58 (by rfl) (by omega)).mono ?_
  rintro e w1 ⟨A, c, ts, rfl, ho, ht, hb1⟩
  have HO := Lib.hid ho
  clear ho
  obtain ⟨P1, K1⟩ := Bf.first1 hb1; have p1a := P1.1.2.1; have p1b := P1.1.2.2; have z1 := P1.1.1
  have p1c := P1.2.1
  have p1d := P1.2.2
  clear hb1
  have hlen : ts.length ≤ 900000001 := by
    have := spl_len 58 s.data.toList
    rw [← ht.out, List.length_map, ← Lib.size_eq] at this; omega
  by_cases h2 : ts.length = 2
  · obtain ⟨g, ta, tb, rfl, hg1, hg2, rfl, hn, hc1, hc2, ca, cb⟩ := HO.out.two h2
    have hr := psP_two (t := s.data.toList) (a := ta.data.toList) (b := tb.data.toList) (by rw [← ht.out]; rfl)
    have hla : ta.size ≤ 900000000 := by
      have := spl_piece 58 s.data.toList ta.data.toList (by rw [← ht.out]; simp)
      rw [Lib.size_eq]; rw [Lib.size_eq] at hs; omega
    have hlb : tb.size ≤ 900000000 := by
      have := spl_piece 58 s.data.toList tb.data.toList (by rw [← ht.out]; simp)
      rw [Lib.size_eq]; rw [Lib.size_eq] at hs; omega
    have HR := Lib.hid hr
    clear hr ht HO hn h2 hlen
    obtain ⟨va, HVA⟩ : ∃ va, Hid (valL ta.data.toList = va) := ⟨_, rfl⟩
    obtain ⟨ws, HWS⟩ : ∃ ws, Hid (spl 47 tb.data.toList = ws) := ⟨_, rfl⟩
    have hwl : ws.length ≤ 900000001 := by
      have := spl_len 47 tb.data.toList
      rw [← HWS.out]; rw [Lib.size_eq] at hlb; omega
    have hw0 : 0 < ws.length := by rw [← HWS.out]; exact List.length_pos_iff.2 (spl_ne _ _)
    have HCN : Hid (cntP (ws.map rowV) ≤ 900000001) := by
      have h1 := cntP_rows rowV rowV_len ws
      have h2 := pieces_sum 47 tb.data.toList
      rw [HWS.out] at h2
      rw [Lib.size_eq] at hlb
      unfold Hid; omega
    have HWP : Hid (∀ p ∈ ws, p.length ≤ 900000000) := fun p hp => by
      have := spl_piece 47 tb.data.toList p (by rw [HWS.out]; exact hp)
      rw [Lib.size_eq] at hlb; omega
    have HR0 : Hid (ParsePlaneR s.data.toList = if isPl va (ws.map rowV) = true then ((va, ws.map rowV), 0) else ((0, []), 6)) := by
      have := HR.out
      unfold rowsV at this
      rw [HVA.out, HWS.out] at this
      exact this
    clear HR
    unfold maxLen at hc2
    simp only [List.length_cons, List.length_nil, Nat.zero_add, Nat.reduceAdd] at *
    have HP1 := Lib.hid P1
    have HK1 := Lib.hid K1
    clear P1 K1 p1a p1b p1c p1d
    go_upto_region 4 with fail
    go_cut [5, 6] from 14 to 22 (fun s5 s6 wx => ∃ (bx g6 c6 : Nat) (us : List ByteArray), s5 = .pointer (some ⟨bx, 0, none⟩) ∧ s6 = .slice (some ⟨g6, 0, none⟩) us.length c6 ∧ w.heap.size < bx ∧ w.heap.size < g6 ∧ g6 ≠ bx ∧ us.length ≤ c6 ∧ c6 ≤ 2 ^ 63 - 1 ∧ Hid (us.map (fun t : ByteArray => t.data.toList) = ws) ∧ Hid (Bf wx bx (.int .i64 va) (.slice none 0 0)) ∧ Hid (OwnT wx 0 (.slice (some ⟨g6, 0, none⟩) us.length c6) us) ∧ Hid (Bf wx w.heap.size (.int .i64 0) (.slice none 0 0)) ∧ Hid (Below w.heap.size w wx))
    case first =>
      go_region_law (first | (go_simp; go_at_call 40; refine (l01Value_any _ ta (by omega)).mono ?_; rintro e w2 ⟨rfl, hn2⟩; have hb2 := below_of_drewN hn2; clear hn2; rw [HVA.out]; have s2 := hb2.size; (try simp at s2); obtain ⟨hc2, hf2⟩ := bcell hb2; (first | (have y21 : w1.heap.size < w2.heap.size := (by omega)) | skip); (first | (have y23 : w3.heap.size < w2.heap.size := (by omega)) | skip); (first | (have y24 : w4.heap.size < w2.heap.size := (by omega)) | skip); have c2a : w2.cell? ⟨g, 0, none⟩ = some (.string ta) := (hb2.cell (p := ⟨g, 0, none⟩) (by first | exact g4 | exact g3 | exact hg2 | (simp; omega))).trans (by first | exact c4a | exact cellUp g4 c4a | exact c3a | exact cellUp g3 c3a | exact ca | exact cellUp hg2 ca); have c2b : w2.cell? ⟨g, 1, none⟩ = some (.string tb) := (hb2.cell (p := ⟨g, 1, none⟩) (by first | exact g4 | exact g3 | exact hg2 | (simp; omega))).trans (by first | exact c4b | exact cellUp g4 c4b | exact c3b | exact cellUp g3 c3b | exact cb | exact cellUp hg2 cb); have g2 : g < w2.heap.size := (by omega)) | (go_simp; go_at_call 38; refine (l01Split_any _ tb _ 47 (by rfl) (by omega)).mono ?_; rw [HWS.out]; rintro e w3 ⟨A3, c3, us, rfl, o3, hus, hb3⟩; have s3 := hb3.size; (try simp at s3); obtain ⟨hc3, hf3⟩ := bcell hb3; (first | (have y31 : w1.heap.size < w3.heap.size := (by omega)) | skip); (first | (have y32 : w2.heap.size < w3.heap.size := (by omega)) | skip); (first | (have y34 : w4.heap.size < w3.heap.size := (by omega)) | skip); have c3a : w3.cell? ⟨g, 0, none⟩ = some (.string ta) := (hb3.cell (p := ⟨g, 0, none⟩) (by first | exact g4 | exact g2 | exact hg2 | (simp; omega))).trans (by first | exact c4a | exact cellUp g4 c4a | exact c2a | exact cellUp g2 c2a | exact ca | exact cellUp hg2 ca); have c3b : w3.cell? ⟨g, 1, none⟩ = some (.string tb) := (hb3.cell (p := ⟨g, 1, none⟩) (by first | exact g4 | exact g2 | exact hg2 | (simp; omega))).trans (by first | exact c4b | exact cellUp g4 c4b | exact c2b | exact cellUp g2 c2b | exact cb | exact cellUp hg2 cb); have g3 : g < w3.heap.size := (by omega)) | (go_simp; go_at_call 56; refine (l03Make_any _ _ _ _ _).mono ?_; rintro e w4 ⟨rfl, hb4⟩; have s4 := hb4.size; (try simp at s4); obtain ⟨hc4, hf4⟩ := bcell hb4; (first | (have y41 : w1.heap.size < w4.heap.size := (by omega)) | skip); (first | (have y42 : w2.heap.size < w4.heap.size := (by omega)) | skip); (first | (have y43 : w3.heap.size < w4.heap.size := (by omega)) | skip); have c4a : w4.cell? ⟨g, 0, none⟩ = some (.string ta) := (hb4.cell (p := ⟨g, 0, none⟩) (by first | exact g3 | exact g2 | (simp; omega))).trans (by first | exact c3a | exact cellUp g3 c3a | exact c2a | exact cellUp g2 c2a); have c4b : w4.cell? ⟨g, 1, none⟩ = some (.string tb) := (hb4.cell (p := ⟨g, 1, none⟩) (by first | exact g3 | exact g2 | (simp; omega))).trans (by first | exact c3b | exact cellUp g3 c3b | exact c2b | exact cellUp g2 c2b); have g4 : g < w4.heap.size := (by omega)))
      all_goals
        go_wp2_with fail
        go_meet
      all_goals
        have K1 := HK1.out
        have P1 := HP1.out
        have hul : 0 < us.length := by
          have := congrArg List.length hus.out
          rw [List.length_map] at this; omega
        obtain ⟨g6, rfl, hg6, hg6', -, hc6, hc6'⟩ := o3.some_ hul
        try simp at hg6
        refine ⟨_, g6, c3, us, rfl, rfl, by omega, by omega, by omega, hc6, hc6', hus, ?_, ?_, P1.keep (by (repeat (first | assumption | exact Below.refl _ _ | (refine Below.alloc ?_ ?_ _; rotate_left; (focus (first | exact Nat.le_refl _ | omega | (simp; done) | (simp; omega)))) | (refine Below.setCell ?_ ?_ _; rotate_left; (focus (first | exact Nat.le_refl _ | omega | (simp; done) | (simp; omega)))) | refine below_drew ?_ | refine below_drewN ?_ _ | (refine Below.trans ?_ (Below.mono hb3 ?_); rotate_left; (focus (first | exact Nat.le_refl _ | omega | (simp; done) | (simp; omega)))) | (refine Below.trans ?_ (Below.mono hb4 ?_); rotate_left; (focus (first | exact Nat.le_refl _ | omega | (simp; done) | (simp; omega)))) | (refine Below.trans ?_ (Below.mono hb2 ?_); rotate_left; (focus (first | exact Nat.le_refl _ | omega | (simp; done) | (simp; omega))))))), by unfold Hid; (repeat (first | assumption | exact Below.refl _ _ | (refine Below.alloc ?_ ?_ _; rotate_left; (focus (first | exact Nat.le_refl _ | omega | (simp; done) | (simp; omega)))) | (refine Below.setCell ?_ ?_ _; rotate_left; (focus (first | exact Nat.le_refl _ | omega | (simp; done) | (simp; omega)))) | refine below_drew ?_ | refine below_drewN ?_ _ | (refine Below.trans ?_ (Below.mono hb3 ?_); rotate_left; (focus (first | exact Nat.le_refl _ | omega | (simp; done) | (simp; omega)))) | (refine Below.trans ?_ (Below.mono hb4 ?_); rotate_left; (focus (first | exact Nat.le_refl _ | omega | (simp; done) | (simp; omega)))) | (refine Below.trans ?_ (Below.mono hb2 ?_); rotate_left; (focus (first | exact Nat.le_refl _ | omega | (simp; done) | (simp; omega))))))⟩
        · first
            | exact Bf.alloc1 w3 _ _ _
            | exact ((Bf.alloc1 w4 _ _ _).keep hb3).put2
            | exact (((Bf.alloc1 w2 _ _ _).keep hb4).keep hb3).put2
            | exact ((((Bf.alloc1 w1.drew _ _ _).keep hb2).keep hb4).keep hb3).put2
        · first
            | exact (o3.alloc _).mono (Nat.zero_le _)
            | exact ((o3.far (by dsimp only; omega) _).far (by dsimp only; omega) _).mono (Nat.zero_le _)
    case rest =>
      obtain ⟨bx, g6, c6, us, rfl, rfl, hbx, hg6, hne6, hc6, hc6', HUS, SB, ST, SQ, KV⟩ := hcut
      have HUL : Hid (us.length = ws.length) := by unfold Hid; rw [← HUS.out, List.length_map]
      have hulb : us.length ≤ 900000001 := by rw [HUL.out]; exact hwl
      have HUZ : Hid (∀ k, (us.getD k ByteArray.empty).size ≤ 900000000) := datas_size HUS.out (fun p hp => HWP.out p hp)
      have hgw := (ST.out.block_ge rfl).2
      have zbx := SB.out.1.1
      go_upto_region 6 with fail
      go_loopw [7] (fun i wr => ∃ (k : Nat) (A' : Option Addr) (c' : Nat), k ≤ us.length ∧ i = .int .i64 k ∧ Hid (OwnP wr wc.heap.size wr.heap.size (.slice A' k c') ((ws.take k).map rowV)) ∧ Hid (Bf wr bx (.int .i64 va) (.slice A' k c')) ∧ Hid (Bf wr w.heap.size (.int .i64 0) (.slice none 0 0)) ∧ Hid (OwnT wr 0 (.slice (some ⟨g6, 0, none⟩) us.length c6) us) ∧ wc.heap.size ≤ wr.heap.size ∧ Hid (Below w.heap.size w wr)) (fun i _ => us.length + 1 - (intOf i).toNat)
      case atStart =>
        exact ⟨0, none, 0, Nat.zero_le _, rfl, OwnP.nil_ _ _ _, SB.out, SQ.out, ST.out, Nat.le_refl _, KV.out⟩
      case round =>
        clear SB ST SQ
        obtain ⟨k, A', c', hk, rfl, HO, HOB, HQ, HTX, hzc, HB2⟩ := hrel
        have hz := HB2.out.size
        have zQ := HQ.out.1.1
        have zB := HOB.out.1.1
        have ob2 := HOB.out.1.2.2
        by_cases hlt : k < us.length
        · have hrc := (HTX.out.cell hlt).1
          have hnk := HUZ.out k
          have HG := Lib.hid (datas_getD HUS.out hlt)
          obtain ⟨x, hx⟩ : ∃ x, x = us.getD k ByteArray.empty := ⟨_, rfl⟩
          rw [← hx] at hrc hnk HG
          clear hx
          obtain ⟨y, hy⟩ : ∃ y, rowV x.data.toList = y := ⟨_, rfl⟩
          have HS2 : Hid ((ws.take (k + 1)).map rowV = (ws.take k).map rowV ++ [y]) := by unfold Hid; rw [map_take_succ rowV ws k HG.out, hy]
          have HL2 : Hid (((ws.take k).map rowV).length = k) := by unfold Hid; rw [List.length_map, List.length_take, ← HUL.out]; omega
          have HY : Hid ((spl 44 x.data.toList).map valL = y) := hy
          clear hy
          have hk0 : (0 : Int) ≤ (k : Int) := by omega
          have hk1 : (k : Int) < (us.length : Int) := by omega
          have hne0 : some bx ≠ (Value.slice A' k c').ownBlock := fun e => by have := ownP_block_ge HO.out e.symm; omega
          have hne : some w.heap.size ≠ (Value.slice A' k c').ownBlock := fun e => by have := ownP_block_ge HO.out e.symm; omega
          have hne2 : some g6 ≠ (Value.slice A' k c').ownBlock := fun e => by have := ownP_block_ge HO.out e.symm; omega
          generalize hrows : (ws.take k).map rowV = rows at *
          go_wp2
          go_region_law ((first | (go_simp; go_at_call 41; refine (l02Read_any _ x (by omega)).mono ?_; rw [HY.out]; rintro e w3 ⟨A3, c3, rfl, o3, hb3⟩; have O3 := Lib.hid o3; have R3 := Lib.hid hb3; have s3 : wr.heap.size ≤ w3.heap.size := hb3.size; clear o3 hb3; have O3b : w3.cell? ⟨bx, 1, none⟩ = some (.slice A' k c') := (HOB.out.keep (below_undrew R3.out)).1.2.2; have O3c : (w3.alloc (.cells #[.slice A3 y.length c3] 24)).cell? ⟨bx, 1, none⟩ = some (.slice A' k c') := ((HOB.out.keep (below_undrew R3.out)).alloc _).1.2.2) | (refine stepAppendP _ _ wc.heap.size wr.heap.size (.slice A' k c') (.slice A3 y.length c3) rows y k w3.heap.size (w3.heap.size + 1) (by rfl) (by rfl) (by rfl) (by rfl) ((HO.out.keep (below_undrew R3.out)).alloc _) HL2.out (by simp; omega) ((O3.out.alloc _).mono (by show wc.heap.size ≤ wr.heap.size; omega)) (fun g hg => (O3.out.block_ge hg).1) (heap_alloc_new w3 _) (by omega) (by simp; omega) (by simp) ?_; intro gg cap w9 ho9 hg9 hat9; have O9 : Bf w9 bx (.int .i64 va) (.slice A' k c') := ((HOB.out.keep (below_undrew R3.out)).alloc _).grown hg9 hne0; have o9a := O9.1.2.1; have o9b := O9.1.2.2; have o9c := O9.2.1; have o9d := O9.2.2)))
          all_goals
            go_wp2
            go_roundw
            case rel =>
              refine ⟨k + 1, some ⟨gg, 0, none⟩, cap, by omega, by go_num, ?_, O9.set1 _, (((HQ.out.keep (below_undrew R3.out)).alloc _).grown hg9 hne).setCell (by simp; omega) _, ((((HTX.out.keep (below_undrew R3.out) (Nat.le_refl _)).alloc _).grown hg9 hne2).far (by dsimp only; omega) _), ?_, ?_⟩
              · unfold Hid
                rw [HS2.out]
                have h9 := ho9.far (p := ⟨bx, 1, none⟩) (.inl (by simp; omega)) (.slice (some ⟨gg, 0, none⟩) (k + 1) cap)
                simpa [World.setCell] using h9
              · have := hg9.size
                simp [World.setCell] at this ⊢; omega
              · refine Below.setCell ?_ (by simp; omega) _
                exact below_grownP ((HB2.out.trans ((below_undrew R3.out).mono hz)).alloc (by omega) _) (by simp; omega) hg9 (fun g hg => by have := ownP_block_ge HO.out hg; omega)
            case measure => simp [intOf]; omega
        · have hkn : k = us.length := by omega
          have hrows : (ws.take k).map rowV = ws.map rowV := by rw [hkn, HUL.out, List.take_length]
          rw [hrows] at HO
          have hd5 : decide ((k : Int) < (us.length : Int)) = false := by simp; omega
          have HCN2 := HCN.out
          have HRL : Hid ((ws.map rowV).length = us.length) := by unfold Hid; rw [List.length_map, HUL.out]
          have hO := HO.out
          have ob1 := HOB.out.1.2.1
          have sq1 := HQ.out.1.2.1
          have sq2 := HQ.out.1.2.2
          have sq3 := HQ.out.2.1
          have sq4 := HQ.out.2.2
          rw [hkn] at hO ob2
          have HO2 := Lib.hid hO
          have HOB2 : Hid (Bf wr bx (.int .i64 va) (.slice A' us.length c')) := by rw [← hkn]; exact HOB.out
          clear hO HO HOB hrows HTX
          subst hkn
          generalize ws.map rowV = rows at *
          have hrb : rows.length ≤ 1000000000 := by rw [HRL.out]; omega
          cases hS : isPl va rows
          · have HS := Lib.hid hS
            have HR2 : Hid (ParsePlaneR s.data.toList = ((0, []), 6)) := by unfold Hid; rw [HR0.out, hS]; rfl
            clear hS HR0
            go_wp2_with (go_at_call 44; refine (l03Is_len _ _ _ rows wc.heap.size wr.heap.size HO2.out hrb (by omega)).mono ?_; rintro e w5 ⟨rfl, hb5⟩; rw [HS.out]; have HB5 := Lib.hid hb5; obtain ⟨hc5, hf5⟩ := bcell hb5; clear hb5)
            exact bodyPost_ret (v := .tuple #[.agg #[.int .i64 0, .slice none 0 0], .int .i64 6]) (by simp [results, Tryz.results20, go_sem, sq1, sq2, hc5, zQ]) rfl (by rw [HR2.out]; exact retPI_nil (((HB2.out.trans (HB5.out.mono HB2.out.size)).setCell (Nat.le_refl _) _).setCell (Nat.le_refl _) _))
          · have HS := Lib.hid hS
            have HR2 : Hid (ParsePlaneR s.data.toList = ((va, rows), 0)) := by unfold Hid; rw [HR0.out, hS]; rfl
            clear hS HR0
            go_wp2_with (go_at_call 44; refine (l03Is_len _ _ _ rows wc.heap.size wr.heap.size HO2.out hrb (by omega)).mono ?_; rintro e w5 ⟨rfl, hb5⟩; rw [HS.out]; have HB5 := Lib.hid hb5; obtain ⟨hc5, hf5⟩ := bcell hb5; clear hb5)
            refine bodyPost_ret (v := .tuple #[.agg #[.int .i64 va, .slice A' us.length c'], .int .i64 0]) (by simp [results, Tryz.results20, go_sem, sq1, sq2, hc5, zQ]) rfl ?_
            rw [HR2.out]
            exact RetPI.mk ((HO2.out.keep HB5.out).far2 (.inl (by omega))) HRL.out (by omega) (((HB2.out.trans (HB5.out.mono HB2.out.size)).setCell (Nat.le_refl _) _).setCell (Nat.le_refl _) _)
  · have hr := psP_not (t := s.data.toList) (by rw [← ht.out, List.length_map]; exact h2)
    have HR := Lib.hid hr
    have hne : ((ts.length : Int) != 2) = true := by simp; omega
    clear hr ht h2
    go_wp2
    exact bodyPost_ret (v := .tuple #[.agg #[.int .i64 0, .slice none 0 0], .int .i64 6]) (by simp [results, Tryz.results20, go_sem, p1a, p1b]) rfl (by rw [HR.out]; exact retPI_nil ((K1.setCell (Nat.le_refl _) _).setCell (Nat.le_refl _) _))

/-! ### ParsePlane of the program -/
def rowN (r : List UInt8) : List Int := numsN (spl 44 r)
def finB (r : List UInt8) : Bool := (spl 44 r).all decB
theorem rowN_len (r : List UInt8) : (rowN r).length ≤ r.length + 1 := Nat.le_trans (numsN_len _) (spl_len 44 r)
theorem parseP_not {t : List UInt8} (h : (decB (Lib.cut t [58]).1 && (spl 47 (Lib.cut t [58]).2.1).all finB) = false) : parseP t = ((0, []), 6) := by
  have e : rowsB (Lib.cut t [58]).2.1 = (spl 47 (Lib.cut t [58]).2.1).all finB := rfl
  unfold parseP
  cases h1 : decB (Lib.cut t [58]).1
  · rfl
  · rw [h1, Bool.true_and] at h
    rw [if_pos rfl, e, h]; rfl
theorem parseP_yes {t : List UInt8} (h1 : decB (Lib.cut t [58]).1 = true) (h2 : (spl 47 (Lib.cut t [58]).2.1).all finB = true) :
    parseP t = if isPl (decN (Lib.cut t [58]).1) ((spl 47 (Lib.cut t [58]).2.1).map rowN) = true then ((decN (Lib.cut t [58]).1, (spl 47 (Lib.cut t [58]).2.1).map rowN), 0) else ((0, []), 6) := by
  have e : rowsB (Lib.cut t [58]).2.1 = true := h2
  have e2 : rowsN (Lib.cut t [58]).2.1 = (spl 47 (Lib.cut t [58]).2.1).map rowN := by
    unfold rowsN
    refine List.map_congr_left fun r hr => ?_
    have := List.all_eq_true.1 h2 r hr
    unfold finB at this
    unfold rowN numsN
    rw [if_pos this]
  unfold parseP
  rw [if_pos h1, if_pos e, e2]
theorem all_take_and (f : List UInt8 → Bool) (ws : List (List UInt8)) (k : Nat) {x : List UInt8} (h : ws[k]? = some x) : (ws.take (k + 1)).all f = ((ws.take k).all f && f x) := by
  have hk : k < ws.length := (List.getElem?_eq_some_iff.1 h).1
  rw [List.getElem?_eq_getElem hk] at h
  simp only [Option.some.injEq] at h
  rw [List.take_succ_eq_append_getElem hk, List.all_append, h]
  simp
set_option maxRecDepth 4000 in
set_option maxHeartbeats 4000000 in
theorem iParsePlaneR_any (w : World) (s : ByteArray) (hs : s.size ≤ 900000000) (hS : Std w) :
    Calls Tryz.prog 17 #[.string s] w (RetPI w (ParsePlaneR s.data.toList)) := by
  rw [← parseP_eq]
  have hc := cut_len s.data.toList [58]
  have HP1 := Lib.hid (@parseP_not s.data.toList)
  have HP2 := Lib.hid (@parseP_yes s.data.toList)
  have HCUT := Lib.hid (Tryz.strings_Cut_shaped s ⟨#[58]⟩)
  rw [show (⟨#[58]⟩ : ByteArray).data.toList = [58] from rfl] at HCUT
  obtain ⟨ta, hta⟩ : ∃ ta, (Lib.cut s.data.toList [58]).1 = ta := ⟨_, rfl⟩
  obtain ⟨tb, htb⟩ : ∃ tb, (Lib.cut s.data.toList [58]).2.1 = tb := ⟨_, rfl⟩
  obtain ⟨tf, htf⟩ : ∃ tf, (Lib.cut s.data.toList [58]).2.2 = tf := ⟨_, rfl⟩
  rw [hta, htb] at HP1 HP2 hc
  rw [hta, htb, htf] at HCUT
  rw [← Lib.size_eq] at hc
  have HA := Lib.hid (data_mk ta)
  have HB := Lib.hid (data_mk tb)
  have hla : (⟨ta.toArray⟩ : ByteArray).size ≤ 900000000 := by rw [size_mk]; omega
  have hlb : tb.length ≤ 900000000 := by omega
  have hlb2 : (⟨tb.toArray⟩ : ByteArray).size ≤ 900000000 := by rw [size_mk]; omega
  obtain ⟨ws, HWS⟩ : ∃ ws, Hid (spl 47 tb = ws) := ⟨_, rfl⟩
  have hwl : ws.length ≤ 900000001 := by have := spl_len 47 tb; rw [← HWS.out]; omega
  have hw0 : 0 < ws.length := by rw [← HWS.out]; exact List.length_pos_iff.2 (spl_ne _ _)
  have HCN : Hid (cntP (ws.map rowN) ≤ 900000001) := by
    have h1 := cntP_rows rowN rowN_len ws
    have h2 := pieces_sum 47 tb
    rw [HWS.out] at h2
    unfold Hid; omega
  have HWP : Hid (∀ p ∈ ws, p.length ≤ 900000000) := fun p hp => by
    have := spl_piece 47 tb p (by rw [HWS.out]; exact hp)
    omega
  have HRD : Hid (∀ W, Std W → Calls Tryz.prog 32 #[.string ⟨ta.toArray⟩] W fun e w' => e = .returned (.tuple #[.int .i64 (decN ta), .bool (decB ta)]) ∧ Below W.heap.size W w') :=
    fun W hW => by have := readDecimal_any ⟨ta.toArray⟩ W hW (by omega); rwa [HA.out] at this
  have HSP : Hid (∀ W, Std W → Calls Tryz.prog 52 #[.string ⟨tb.toArray⟩, .string ⟨#[47]⟩] W (NewT W ws)) :=
    fun W hW => by have := iSplit_any W ⟨tb.toArray⟩ ⟨#[47]⟩ 47 rfl hW.1 (by omega); rwa [HB.out, HWS.out] at this
  rw [HWS.out] at HP1 HP2
  have HS := Lib.hid hS
  obtain ⟨va, hva⟩ : ∃ va, decN ta = va := ⟨_, rfl⟩
  obtain ⟨b1, hb1⟩ : ∃ b1, decB ta = b1 := ⟨_, rfl⟩
  rw [hva, hb1] at HRD
  rw [hva, hb1] at HP2
  rw [hb1] at HP1
  clear hS hva hb1 hta htb htf hla hlb hlb2 hc HA HB HWS
  go_enter Tryz.func17, Tryz.ntmps17
  go_wp2_with fail
  refine (HCUT.out _ (HS.out.keep (below_alloc1 w _)).1 (by omega)).mono ?_
  rintro e w1 ⟨rfl, hn1⟩
  have hb1 := below_of_drewN hn1
  clear hn1
  have P1 := (Bf.alloc1 w _ _ _).keep hb1
  have K1 : Below w.heap.size w w1 := (below_alloc1 w _).trans (hb1.mono (by simp))
  clear hb1
  go_wp2_with fail
  refine (HRD.out _ (HS.out.keep K1)).mono ?_
  rintro e w2 ⟨rfl, hb2⟩
  have P2 := P1.keep hb2
  have K2 : Below w.heap.size w w2 := K1.trans (hb2.mono K1.size)
  clear P1 K1 hb2
  go_wp2_with fail
  refine (HSP.out _ (HS.out.keep (K2.alloc K2.size _))).mono ?_
  rintro e w3 ⟨A6, c6, us, rfl, o3, HUS, hb3⟩
  have SB : Hid (Bf w3 w2.heap.size (.int .i64 va) (.slice none 0 0)) := (Bf.alloc1 w2 _ _ _).keep hb3
  have SQ : Hid (Bf w3 w.heap.size (.int .i64 0) (.slice none 0 0)) := (P2.al _).keep hb3
  have KV : Hid (Below w.heap.size w w3) := (K2.alloc K2.size _).trans (hb3.mono (by simp; have := K2.size; omega))
  have hul : 0 < us.length := by
    have := congrArg List.length HUS.out
    rw [List.length_map] at this; omega
  have z2 := P2.1.1
  obtain ⟨g6, rfl, hg6, hg6', -, hc6, hc6'⟩ := o3.some_ hul
  simp at hg6
  have ST : Hid (OwnT w3 0 (.slice (some ⟨g6, 0, none⟩) us.length c6) us) := o3.mono (Nat.zero_le _)
  have zbx := SB.out.1.1
  have HUL : Hid (us.length = ws.length) := by unfold Hid; rw [← HUS.out, List.length_map]
  have hulb : us.length ≤ 900000001 := by rw [HUL.out]; exact hwl
  have HUZ : Hid (∀ k, (us.getD k ByteArray.empty).size ≤ 900000000) := datas_size HUS.out (fun p hp => HWP.out p hp)
  clear P2 K2 hb3 o3
  unfold maxLen at hc6'
  go_upto_region 5 with fail
  go_loopw [8, 11, 12, 13, 30] (fun q _ _ _ i wr => ∃ (k : Nat) (A' : Option Addr) (c' : Nat), k ≤ us.length ∧ i = .int .i64 k ∧ q = .bool (b1 && (ws.take k).all finB) ∧ Hid (OwnP wr w3.heap.size wr.heap.size (.slice A' k c') ((ws.take k).map rowN)) ∧ Hid (Bf wr w2.heap.size (.int .i64 va) (.slice A' k c')) ∧ Hid (Bf wr w.heap.size (.int .i64 0) (.slice none 0 0)) ∧ Hid (OwnT wr 0 (.slice (some ⟨g6, 0, none⟩) us.length c6) us) ∧ w3.heap.size ≤ wr.heap.size ∧ Hid (Below w.heap.size w wr)) (fun _ _ _ _ i _ => us.length + 1 - (intOf i).toNat)
  case atStart =>
    exact ⟨0, none, 0, Nat.zero_le _, rfl, by simp, OwnP.nil_ _ _ _, SB.out, SQ.out, ST.out, Nat.le_refl _, KV.out⟩
  case round =>
    clear SB ST SQ
    obtain ⟨k, A', c', hk, rfl, rfl, HO, HOB, HQ, HTX, hzc, HB2⟩ := hrel
    have hz := HB2.out.size
    have zQ := HQ.out.1.1
    have zB := HOB.out.1.1
    have ob2 := HOB.out.1.2.2
    by_cases hlt : k < us.length
    · have hrc := (HTX.out.cell hlt).1
      have hnk := HUZ.out k
      have HG := Lib.hid (datas_getD HUS.out hlt)
      obtain ⟨x, hx⟩ : ∃ x, x = us.getD k ByteArray.empty := ⟨_, rfl⟩
      rw [← hx] at hrc hnk HG
      clear hx
      obtain ⟨y, hy⟩ : ∃ y, rowN x.data.toList = y := ⟨_, rfl⟩
      obtain ⟨b2, hb2⟩ : ∃ b2, finB x.data.toList = b2 := ⟨_, rfl⟩
      have HS2 : Hid ((ws.take (k + 1)).map rowN = (ws.take k).map rowN ++ [y]) := by unfold Hid; rw [map_take_succ rowN ws k HG.out, hy]
      have HA2 : Hid ((b1 && (ws.take (k + 1)).all finB) = ((b1 && (ws.take k).all finB) && b2)) := by unfold Hid; rw [all_take_and finB ws k HG.out, hb2, Bool.and_assoc]
      have HL2 : Hid (((ws.take k).map rowN).length = k) := by unfold Hid; rw [List.length_map, List.length_take, ← HUL.out]; omega
      have HRN : Hid (∀ W, Std W → Calls Tryz.prog 33 #[.string x] W fun e w' => ∃ A c, e = .returned (.tuple #[.slice A y.length c, .bool b2]) ∧ OwnI w' W.heap.size (.slice A y.length c) y ∧ Below W.heap.size W w') := by
        intro W hW
        have := readNumbers_any x _ W rfl hW (by omega)
        rw [show numsN (spl 44 x.data.toList) = y from hy, show (spl 44 x.data.toList).all decB = b2 from hb2] at this
        exact this
      clear hy hb2
      obtain ⟨b3, hb3⟩ : ∃ b3, (b1 && (ws.take k).all finB) = b3 := ⟨_, rfl⟩
      rw [hb3] at HA2
      have hk0 : (0 : Int) ≤ (k : Int) := by omega
      have hk1 : (k : Int) < (us.length : Int) := by omega
      have hne0 : some w2.heap.size ≠ (Value.slice A' k c').ownBlock := fun e => by have := ownP_block_ge HO.out e.symm; omega
      have hne : some w.heap.size ≠ (Value.slice A' k c').ownBlock := fun e => by have := ownP_block_ge HO.out e.symm; omega
      have hne2 : some g6 ≠ (Value.slice A' k c').ownBlock := fun e => by have := ownP_block_ge HO.out e.symm; omega
      generalize hrows : (ws.take k).map rowN = rows at *
      rw [hb3]
      clear hb3
      cases b3
      all_goals
        go_wp2_with fail
        refine (HRN.out _ (HS.out.keep HB2.out)).mono ?_
        rintro e w4 ⟨A3, c3, rfl, o4, hb4⟩
        have O4 := Lib.hid o4
        have R4 := Lib.hid hb4
        have s4 := hb4.size
        have OB4 := HOB.out.keep hb4
        have ob4a := OB4.1.2.1
        have ob4b := OB4.1.2.2
        have ob4c := OB4.2.1
        have ob4d := OB4.2.2
        clear o4 hb4 ob2
        go_wp2_with (at_builtin; refine appendP _ _ w3.heap.size wr.heap.size (.slice A' k c') (.slice A3 y.length c3) rows y w4.heap.size (by rfl) (by rfl) (by rfl) (by rfl) ((HO.out.keep R4.out).alloc _) (by simp; omega) ((O4.out.alloc _).mono hzc) (fun g hg => (O4.out.block_ge hg).1) (heap_alloc_new w4 _) (by rw [HL2.out]; omega) (by simp; omega) ?_; rw [HL2.out]; intro A9 c9 w9 ho9 hg9; have O9 : Bf w9 w2.heap.size (.int .i64 va) (.slice A' k c') := (OB4.alloc _).grown hg9 hne0; have o9a := O9.1.2.1; have o9b := O9.1.2.2; have o9c := O9.2.1; have o9d := O9.2.2)
        go_roundw
        case rel =>
          refine ⟨k + 1, A9, c9, by omega, by go_num, by rw [HA2.out]; first | rfl | (cases b2 <;> rfl), ?_, O9.set1 _, (((HQ.out.keep R4.out).alloc _).grown hg9 hne).setCell (by simp; omega) _, ((((HTX.out.keep R4.out (Nat.le_refl _)).alloc _).grown hg9 hne2).far (by dsimp only; omega) _), ?_, ?_⟩
          · unfold Hid
            rw [HS2.out]
            have h9 := ho9.far (p := ⟨w2.heap.size, 1, none⟩) (.inl (by simp; omega)) (.slice A9 (k + 1) c9)
            simpa [World.setCell] using h9
          · have := hg9.size
            simp [World.setCell] at this ⊢; omega
          · refine Below.setCell ?_ (by simp; omega) _
            exact below_grownP ((HB2.out.trans (R4.out.mono hz)).alloc (by omega) _) (by simp; omega) hg9 (fun g hg => by have := ownP_block_ge HO.out hg; omega)
        case measure => simp [intOf]; omega
    · have hkn : k = us.length := by omega
      have htk : ws.take k = ws := by rw [hkn, HUL.out, List.take_length]
      rw [htk] at HO ⊢
      have hd5 : decide ((k : Int) < (us.length : Int)) = false := by simp; omega
      have HCN2 := HCN.out
      have HRL : Hid ((ws.map rowN).length = us.length) := by unfold Hid; rw [List.length_map, HUL.out]
      have hO := HO.out
      have ob1 := HOB.out.1.2.1
      have sq1 := HQ.out.1.2.1
      have sq2 := HQ.out.1.2.2
      have sq3 := HQ.out.2.1
      have sq4 := HQ.out.2.2
      rw [hkn] at hO ob2
      have HO2 := Lib.hid hO
      clear hO HO HOB htk HTX
      subst hkn
      generalize hrw : ws.map rowN = rows at *
      clear hrw
      have hrb : rows.length ≤ 1000000000 := by rw [HRL.out]; omega
      cases hbb : (b1 && ws.all finB)
      · have HR2 := Lib.hid (HP1.out hbb)
        clear HP1 HP2 hbb
        go_wp2_with fail
        exact bodyPost_ret (v := .tuple #[.agg #[.int .i64 0, .slice none 0 0], .int .i64 6]) (by simp [results, Tryz.results17, go_sem, sq1, sq2]) rfl (by rw [HR2.out]; exact retPI_nil ((HB2.out.setCell (Nat.le_refl _) _).setCell (Nat.le_refl _) _))
      · have hb12 : b1 = true ∧ ws.all finB = true := by simpa using hbb
        have HR := Lib.hid (HP2.out hb12.1 hb12.2)
        clear HP1 HP2 hbb hb12
        cases hS : isPl va rows
        · have HS3 := Lib.hid hS
          have HR2 : Hid (parseP s.data.toList = ((0, []), 6)) := by unfold Hid; rw [HR.out, hS]; rfl
          clear hS HR
          go_wp2_with (go_at_call 15; refine (iIsPlane_len _ _ _ rows w3.heap.size wr.heap.size HO2.out hrb (by omega)).mono ?_; rintro e w5 ⟨rfl, hb5⟩; rw [HS3.out]; have HB5 := Lib.hid hb5; obtain ⟨hc5, hf5⟩ := bcell hb5; clear hb5)
          exact bodyPost_ret (v := .tuple #[.agg #[.int .i64 0, .slice none 0 0], .int .i64 6]) (by simp [results, Tryz.results17, go_sem, sq1, sq2, hc5, zQ]) rfl (by rw [HR2.out]; exact retPI_nil (((HB2.out.trans (HB5.out.mono HB2.out.size)).setCell (Nat.le_refl _) _).setCell (Nat.le_refl _) _))
        · have HS3 := Lib.hid hS
          have HR2 : Hid (parseP s.data.toList = ((va, rows), 0)) := by unfold Hid; rw [HR.out, hS]; rfl
          clear hS HR
          go_wp2_with (go_at_call 15; refine (iIsPlane_len _ _ _ rows w3.heap.size wr.heap.size HO2.out hrb (by omega)).mono ?_; rintro e w5 ⟨rfl, hb5⟩; rw [HS3.out]; have HB5 := Lib.hid hb5; obtain ⟨hc5, hf5⟩ := bcell hb5; clear hb5)
          refine bodyPost_ret (v := .tuple #[.agg #[.int .i64 va, .slice A' us.length c'], .int .i64 0]) (by simp [results, Tryz.results17, go_sem, sq1, sq2, hc5, zQ]) rfl ?_
          rw [HR2.out]
          exact RetPI.mk ((HO2.out.keep HB5.out).far2 (.inl (by omega))) HRL.out (by omega) (((HB2.out.trans (HB5.out.mono HB2.out.size)).setCell (Nat.le_refl _) _).setCell (Nat.le_refl _) _)
theorem ParsePlaneR_len (t : List UInt8) : cntP (ParsePlaneR t).1.2 ≤ 200 := by
  unfold ParsePlaneR
  split
  · split
    · rename_i h
      have h2 := (isPl_true h).2.1
      simp only
      rw [← isPl_tab h]
      exact cntP_tab_100 _ (by omega)
    · simp [cntP]
  · simp [cntP]

end Go.Proofs.YtglbccikdglcgaaGreatDoor
