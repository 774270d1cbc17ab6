/- Contracts over this seat's translation. Condition: each contract's own. -/
import Derived.Test.YtenofgofcioffaaI
import Derived.ProofKit
import Derived.OpenShut
import Derived.Below
import Derived.ChangeSame
import Derived.Deep.Modes
import Derived.Lib.SmallJoins
import Derived.ChangeSlices
import Derived.WalkKit
import Derived.WalkSpells
import Derived.WalkLawsBesides
import Derived.Deep.QuietTactic
import Derived.BigQuiet
import Derived.Deep.RegionHeld3
import Derived.Deep.RegionWith
import Derived.Deep.RegionLaw
import Derived.Deep.AppendLies
import Derived.Laws.CopyOwn
import Derived.Deep.DeepCutAuto
import Derived.Deep.OwnRows
import Derived.Deep.LoopGhost
import Derived.Deep.DeepFit
import Derived.Deep.DeepMust
import Derived.Deep.Draws
import Derived.Deep.CutRange
import Derived.Maps.AppendAt
import Derived.Lib.Hide
import Derived.StillTailTactics
import Derived.Laws.MakeOwn
import Derived.Deep.Matrix
set_option linter.unusedVariables false
open Go Go.RowKit
namespace Go.Proofs.Ytenofgofcioffaa
/-! ### Cut planes -/
theorem take_lst (xs : List Int) (r : Nat) (h : r ≤ xs.length) : xs.take r = lst r (co xs) := by
  apply List.ext_getElem
  · rw [length_lst, List.length_take]; omega
  · intro i h1 h2
    have hi : i < r := by rw [length_lst] at h2; exact h2
    have e : (lst r (co xs))[i] = co xs i := by simp [lst]
    rw [e, List.getElem_take]
    unfold co
    rw [List.getD_eq_getElem?_getD, List.getElem?_eq_getElem (by omega)]
    rfl
theorem fil2_setRow (F : Nat → Nat → Int) (n k : Nat) : (tab n (fil2 F k 0)).set k (lst (n - k) (F k)) = tab n (fil2 F (k + 1) 0) := by
  apply List.ext_getElem
  · simp [tab]
  · intro a h1 h2
    have ha : a < n := by simpa [tab] using h2
    rw [List.getElem_set]
    have e2 : (tab n (fil2 F (k + 1) 0))[a] = lst (n - a) (fil2 F (k + 1) 0 a) := by simp [tab]
    have e3 : (tab n (fil2 F k 0))[a]'(by simpa [tab] using ha) = lst (n - a) (fil2 F k 0 a) := by simp [tab]
    rw [e2]
    by_cases h : k = a
    · subst h
      rw [if_pos rfl]
      exact lst_congr fun b _ => by simp [fil2]
    · rw [if_neg h, e3]
      apply lst_congr
      intro b _
      unfold fil2
      by_cases h3 : a < k ∨ (a = k ∧ b < 0)
      · rw [if_pos h3, if_pos (by omega)]
      · rw [if_neg h3, if_neg (by omega)]
theorem rows_tab (xss : List (List Int)) (n : Nat) (h : ∀ i, i < n → n - i ≤ (xss.getD i []).length) : rowsF (fun i => (xss.getD i []).take (n - i)) n = tab n (co2 xss) := by
  unfold rowsF tab
  apply List.map_congr_left
  intro i hi
  have := List.mem_range.1 hi
  exact take_lst _ _ (h i this)
theorem copyI {w : World} {ops : Array Oper} {rest : List Oper} {o : Oper} {a : Act} {Q : Exit → Act → World → Prop} (d s : Operand)
    (hgd : o.guard = none) (ho : o.op = .call { callee := .builtin .copy, args := #[d, s], argTypes := #[40, 40] }) (g c r sl sc B C : Nat) (As : Option Addr)
    (hd : a.eval d = .slice (some ⟨g, 0, none⟩) r c) (hs : a.eval s = .slice As sl sc) (xs cur : List Int) (hx : OwnI w B (.slice As sl sc) xs) (hsl : xs.length = sl) (hrl : r ≤ sl) (hr : OwnI w C (.slice (some ⟨g, 0, none⟩) r c) cur) (hcl : cur.length = r) (hr0 : 0 < r)
    (h : ∀ w', OwnI w' C (.slice (some ⟨g, 0, none⟩) r c) (xs.take r) → w.grownBy w' (some g) → wpList Try.prog ops Q rest (a.put o.dst (goInt r)) w') : wpList Try.prog ops Q (o :: rest) a w := by
  subst hsl
  rcases hr.row with ⟨h0, _⟩ | ⟨g', c', e0, hC, hR⟩
  · simp at h0
  simp only [Value.slice.injEq, Option.some.injEq, Addr.mk.injEq] at e0
  obtain ⟨⟨rfl, _⟩, _, rfl⟩ := e0
  obtain ⟨hR1, hR2, cu, hcu, hcs, hct⟩ := hR
  rcases hx.row with ⟨h0, h1⟩ | ⟨gs, cs', e1, _, hS⟩
  · subst h1; simp at hrl; omega
  simp only [Value.slice.injEq] at e1
  obtain ⟨rfl, _, rfl⟩ := e1
  have hlen : ((xs.take r).map (Value.int .i64)).length = r := by simp; omega
  refine wpList_copy_own hgd d s 40 40 ho 2 Try.underlying40 (by kernel_rfl) g 0 r c ⟨gs, 0, none⟩ xs.length sc hd hs cu 2 hcu ((xs.take r).map (Value.int .i64)) (by rw [hlen]; exact (Nat.min_eq_right hrl).symm) ?_ (by rw [hlen]; omega) (fun v hv => by obtain ⟨x, _, rfl⟩ := List.mem_map.1 hv; rfl) ?_
  · intro j v hj
    have hjl : j < r := by
      have := (List.getElem?_eq_some_iff.1 hj).1
      rwa [hlen] at this
    have hjx : j < xs.length := by omega
    have hv : v = .int .i64 (xs.getD j 0) := by
      rw [List.getElem?_map, List.getElem?_take, if_pos hjl, List.getElem?_eq_getElem hjx] at hj
      rw [List.getD_eq_getElem?_getD, List.getElem?_eq_getElem hjx]
      simpa using hj.symm
    rw [Go.WideShapes.add_plain, Nat.zero_add, hv]
    exact hS.cell hjx
  · have e : ([] ++ ((xs.take r).map (Value.int .i64) ++ cu.toList.drop (0 + ((xs.take r).map (Value.int .i64)).length))) = (xs.take r).map (Value.int .i64) ++ cu.toList.drop r := by rw [hlen]; simp
    have h2 := h (w.setRow g ((xs.take r).map (Value.int .i64) ++ cu.toList.drop r).toArray) ?_ ?_
    · simp only [List.take_zero]
      rw [e, hlen]
      exact h2
    · have hrow : RowI (w.setRow g ((xs.take r).map (Value.int .i64) ++ cu.toList.drop r).toArray) g c (xs.take r) := by
        refine ⟨by simp; omega, hR2, _, setRow_heap w g cu _ _ _ hcu, ?_, ?_⟩
        · simp
          have : cu.toList.length = c := by rw [Array.length_toList]; exact hcs
          simp at this
          omega
        · have hl2 : (xs.take r).length = r := by simp; omega
          rw [hl2]
          show ((xs.take r).map (Value.int .i64) ++ cu.toList.drop r).take r = _
          rw [List.take_append_of_le_length (by simp; omega), List.take_of_length_le (by simp; omega)]
      exact hrow.own' hC (by simp; omega)
    · exact ⟨rfl, rfl, rfl, by simp [World.setRow], fun k _ hne => setRow_other w g k _ (by rintro rfl; exact hne rfl)⟩
set_option maxRecDepth 8000 in
set_option maxHeartbeats 2000000 in
theorem l03Cut_any (w : World) (v : Value) (xss zss : List (List Int)) (d : Int) (n n2 : Nat) (lo hi : Nat) (hv : OwnP w lo hi v xss) (ht : Tri n xss) (hd : d + 1 = (n2 : Int)) (h1 : 1 ≤ n2) (h2 : n2 ≤ n) (hn : n ≤ 1000) (hz : (tab n2 (co2 xss)) = zss) :
    Calls Try.prog 89 #[v, .int .i64 d] w (NewP w zss) := by
  have hd2 : d = (n2 : Int) - 1 := by omega
  subst hd2
  obtain ⟨g, c, rfl, hc1, hc2, hg, hA⟩ := hv.source n ht.1 (by omega)
  have HRW : Hid (rowsF (fun i => (xss.getD i []).take (n2 - i)) n2 = zss) := by
    unfold Hid
    rw [rows_tab xss n2 fun i hi => by rw [ht.2 i (by omega)]; omega]
    exact hz
  have HA := Lib.hid hA
  have HT := Lib.hid ht
  clear hd hA hv ht hz
  go_enter Try.func89, Try.ntmps89
  go_wp2
  go_loopw [5, 6] (fun s i wr => ∃ (k : Nat) (A : Option Addr) (c : Nat), k ≤ n2 ∧ s = .slice A k c ∧ i = .int .i64 k ∧ Hid (OwnP wr w.heap.size wr.heap.size (.slice A k c) (rowsF (fun i => (xss.getD i []).take (n2 - i)) k)) ∧ Hid (Below w.heap.size w wr)) (fun _ i _ => n2 + 1 - (intOf i).toNat)
  case atStart => exact ⟨0, _, 0, Nat.zero_le _, rfl, rfl, OwnP.start (Nat.le_refl _), by unfold Hid; (repeat (first | assumption | exact Below.refl _ _ | refine Below.alloc ?_ (by first | omega | (simp; done) | (simp; omega)) _ | refine Below.setCell ?_ (by first | omega | (simp; done) | (simp; omega)) _ | refine below_drewN ?_ _))⟩
  case round =>
    obtain ⟨k, A, c', hk, rfl, rfl, HO, HB⟩ := hrel
    have hz := HB.out.size
    by_cases hlt : k < n2
    · have hk1 : (k : Int) ≤ (n2 : Int) - 1 := by omega
      obtain ⟨Ar, cr, hcell, hown⟩ := HA.out k (by omega)
      have hc0 := (HB.out.cell (p := ⟨g, k, none⟩) hg).trans hcell
      have HOX := Lib.hid (hown.keep HB.out (Nat.le_refl _))
      obtain ⟨x, hx⟩ : ∃ x, x = xss.getD k [] := ⟨_, rfl⟩
      have hxl : x.length = n - k := by rw [hx]; exact HT.out.2 k (by omega)
      obtain ⟨r, hr⟩ : ∃ r, r = n2 - k := ⟨_, rfl⟩
      have hr2 : r ≤ x.length ∧ x.length ≤ 1000 ∧ 1 ≤ r := by omega
      have hr3 : k + r ≤ n2 ∧ n2 ≤ k + r := by omega
      have hxc : x.length ≤ cr := by
        obtain ⟨A2, c2, e2, hq, _⟩ := hown.open_
        simp only [Value.slice.injEq] at e2
        rw [← hx] at hq
        omega
      obtain ⟨y, hy⟩ : ∃ y, x.take r = y := ⟨_, rfl⟩
      have HS2 : Hid (rowsF (fun i => (xss.getD i []).take (n2 - i)) (k + 1) = rowsF (fun i => (xss.getD i []).take (n2 - i)) k ++ [y]) := by unfold Hid; rw [rowsF_succ, ← hy, hx, hr]
      have HYL : Hid (y.length = r) := by unfold Hid; rw [← hy, List.length_take]; omega
      rw [← hx] at hc0 HOX
      have HY := Lib.hid hy
      have HXL := Lib.hid hxl
      clear hcell hown hx hy hr hxl
      have hk0 : (0 : Int) ≤ (k : Int) := by omega
      have hk2 : (k : Int) < (n : Int) := by omega
      have v1 : (n2 : Int) - 1 - (k : Int) + 1 = (r : Int) := by omega
      have hw2 : (0 : Int) ≤ (r : Int) := by omega
      have hw3 : (r : Int) ≤ (cr : Int) := by omega
      go_wp2_with (first | (go_at_call 75; refine (l01Own_any _ _ (x.take r) y (OwnI.rdTake HOX.out hr2.1) HY.out (by rw [HY.out, HYL.out]; omega) (by rw [HY.out, HYL.out]; omega)).mono ?_; rintro e w3 ⟨A3, c3, rfl, o3, hb3⟩; have O3 := Lib.hid o3; have R3 := Lib.hid hb3; have s3 := hb3.size; clear o3) | (at_builtin; refine appendP _ _ w.heap.size wr.heap.size (.slice A k c') (.slice A3 y.length c3) (rowsF (fun i => (xss.getD i []).take (n2 - i)) k) y w3.heap.size (by rfl) (by rfl) (by rfl) (by rfl) ((HO.out.keep R3.out).alloc _) (by simp; omega) ((O3.out.alloc _).mono (by omega)) (fun g hg => (O3.out.block_ge hg).1) (heap_alloc_new w3 _) (by rw [length_rowsF]; omega) (by simp; omega) ?_; intro A2 c2 w2 ho2 hg2; rw [length_rowsF] at ho2 ⊢))
      go_roundw
      case rel =>
        refine ⟨k + 1, A2, c2, by omega, rfl, by go_num, by rw [HS2.out]; exact ho2, ?_⟩
        unfold Hid
        exact below_grownP ((HB.out.trans (R3.out.mono hz)).alloc (by omega) _) (by simp; omega) hg2 (fun g hg => ownP_block_ge HO.out hg)
      case measure => simp [intOf]; omega
    · have hkn : k = n2 := by omega
      have hd5 : decide ((k : Int) ≤ (n2 : Int) - 1) = false := by simp; omega
      have hO := HO.out
      rw [hkn, HRW.out] at hO
      have HL : Hid (zss.length = n2) := by unfold Hid; rw [← HRW.out, length_rowsF]
      have HO2 := Lib.hid hO
      clear hO
      subst hkn
      go_wp2
      go_ret
      exact ⟨A, c', by rw [HL.out]; rfl, by rw [HL.out]; exact HO2.out, HB.out⟩
set_option maxRecDepth 8000 in
set_option maxHeartbeats 4000000 in
theorem cut_any (w : World) (m : Int) (v : Value) (xss zss : List (List Int)) (d : Int) (n n2 : Nat) (lo0 hi0 : Nat) (hv : OwnP w lo0 hi0 v xss) (ht : Tri n xss) (hd : d + 1 = (n2 : Int)) (h1 : 1 ≤ n2) (h2 : n2 ≤ n) (hn : n ≤ 1000) (hz : (tab n2 (co2 xss)) = zss) :
    Calls Try.prog 90 #[.agg #[.int .i64 m, v], .int .i64 d] w (NewPl w m zss) := by
  have hd2 : d = (n2 : Int) - 1 := by omega
  subst hd2
  obtain ⟨gs, cp, rfl, hc1, hc2, hgs, hA⟩ := hv.source n ht.1 (by omega)
  have HZ := Lib.hid hz
  have HA := Lib.hid hA
  have HT := Lib.hid ht
  clear hd hA hv ht hz
  go_enter Try.func90, Try.ntmps90
  go_wp2_with (go_at_call 95; refine (emptyPlane_any _ m _ n2 (by omega) (by omega)).mono ?_; rintro e w1 ⟨A', c', rfl, o1, hb1⟩; rw [length_tab] at o1 ⊢; have O1 := Lib.hid o1; clear o1; obtain ⟨P1, Q1, K1⟩ := Bf.first2 hb1; have p1a := P1.1.2.1; have p1b := P1.1.2.2; have z1 := P1.1.1; have q1a := Q1.1.2.1; have q1b := Q1.1.2.2; have q1c := Q1.2.1; have q1d := Q1.2.2; have y1 := Q1.1.1)
  obtain ⟨g, _, _, _, e0, hg1, hg2, hg3, -⟩ := O1.out.row (k := 0) (by rw [length_tab]; omega)
  rw [length_tab] at e0
  simp only [Value.slice.injEq] at e0
  obtain ⟨rfl, -, rfl⟩ := e0
  have hg0 : w.heap.size + 2 ≤ g := by simp at hg1; omega
  have o2 := O1.out
  rw [fil2_zero (co2 xss)] at o2
  have O2 := Lib.hid (OwnP.mono (lo' := w.heap.size + 2) o2 (by first | (simp; done) | (simp; omega)) (Nat.le_refl _))
  clear o2 O1 hg1
  have O3 : Hid (OwnP (w1.alloc (.cells #[.int .i64 m, .slice (some ⟨g, 0, none⟩) n2 c'] 27)) (w.heap.size + 2) w1.heap.size (.slice (some ⟨g, 0, none⟩) n2 c') (tab n2 (fil2 (co2 xss) 0 0))) := O2.out.alloc _
  clear O2
  go_loopw [15] (fun i wr => ∃ k : Nat, k ≤ n2 ∧ i = .int .i64 k ∧ Hid (Bf wr w1.heap.size (.int .i64 m) (.slice (some ⟨g, 0, none⟩) n2 c')) ∧ Hid (OwnP wr (w.heap.size + 2) w1.heap.size (.slice (some ⟨g, 0, none⟩) n2 c') (tab n2 (fil2 (co2 xss) k 0))) ∧ Hid (Bf wr w.heap.size (.int .i64 m) (.slice (some ⟨gs, 0, none⟩) n cp)) ∧ Hid (Bf wr (w.heap.size + 1) (.int .i64 0) (.slice none 0 0)) ∧ Hid (Below w.heap.size w wr)) (fun i _ => n2 - (intOf i).toNat)
  case atStart => exact ⟨0, Nat.zero_le _, rfl, Bf.alloc1 w1 _ _ _, O3, P1.alloc _, Q1.alloc _, by unfold Hid; exact K1.alloc (by omega) _⟩
  case round =>
    clear O3 P1 Q1 K1 p1a p1b q1a q1b q1c q1d hb1
    obtain ⟨k, hk, rfl, HO, HT2, HP, HQ, HB⟩ := hrel
    have o1 := HO.out.1.2.1
    have o2 := HO.out.1.2.2
    have p1 := HP.out.1.2.1
    have p2 := HP.out.1.2.2
    have q1 := HQ.out.1.2.1
    have q2 := HQ.out.1.2.2
    have q3 := HQ.out.2.1
    have q4 := HQ.out.2.2
    have zO := HO.out.1.1
    have zP := HP.out.1.1
    by_cases hlt : k < n2
    · obtain ⟨Ar, cr, hcell, hown⟩ := HA.out k (by omega)
      have hc0 := (HB.out.cell (p := ⟨gs, k, none⟩) hgs).trans hcell
      have HOX := Lib.hid (hown.keep HB.out (Nat.le_refl _))
      obtain ⟨x, hx⟩ : ∃ x, x = xss.getD k [] := ⟨_, rfl⟩
      have hxl : x.length = n - k := by rw [hx]; exact HT.out.2 k (by omega)
      obtain ⟨r, hr⟩ : ∃ r, r = n2 - k := ⟨_, rfl⟩
      have hr2 : r ≤ x.length ∧ x.length ≤ 1000 ∧ 1 ≤ r := by omega
      have hr3 : k + r ≤ n2 ∧ n2 ≤ k + r := by omega
      rw [← hx] at hc0 HOX
      have hset : (tab n2 (fil2 (co2 xss) k 0)).set k (x.take r) = tab n2 (fil2 (co2 xss) (k + 1) 0) := by
        rw [← fil2_setRow, take_lst x r hr2.1, hr, hx]
        rfl
      have HS := Lib.hid hset
      obtain ⟨g', _, A9, c9, e9, _, _, _, hcell9, _, hown9, hblk9, hset9⟩ := HT2.out.row (k := k) (by rw [length_tab]; exact hlt)
      rw [length_tab] at e9
      simp only [Value.slice.injEq, Option.some.injEq, Addr.mk.injEq] at e9
      obtain ⟨⟨rfl, -⟩, -, -⟩ := e9
      rw [getD_tab _ hlt, length_lst, ← hr] at hcell9 hown9 hblk9 hset9
      obtain ⟨gr, hgr⟩ : ∃ gr, A9 = some ⟨gr, 0, none⟩ := by
        rcases hown9.row with ⟨h9, _⟩ | ⟨gr, _, e9, _, _⟩
        · simp at h9; omega
        · simp only [Value.slice.injEq] at e9
          exact ⟨gr, e9.1⟩
      subst hgr
      have HOWN := Lib.hid hown9
      have HSET := Lib.hid hset9
      have hb9 := hblk9 gr rfl
      have hgr1 := hown9.block_ge (g := gr) rfl
      have HRL : Hid ((lst r (fil2 (co2 xss) k 0 k)).length = r) := length_lst _ _
      clear hcell hown hx hr hxl hset hown9 hset9 hblk9
      have hk0 : (0 : Int) ≤ (k : Int) := by omega
      have hk1 : (k : Int) < (n2 : Int) := by omega
      have hk2 : (k : Int) < (n : Int) := by omega
      go_wp2_with (refine copyI _ _ (by rfl) (by rfl) gr c9 r x.length cr lo0 (w.heap.size + 2) Ar (by rfl) (by rfl) x (lst r (fil2 (co2 xss) k 0 k)) HOX.out rfl hr2.1 HOWN.out HRL.out (by omega) ?_; intro w4 ho4 hg4)
      go_roundw
      case rel =>
        refine ⟨k + 1, by omega, by go_num, HO.out.grown hg4 (by simp; omega), ?_, HP.out.grown hg4 (by simp; omega), HQ.out.grown hg4 (by simp; omega), ?_⟩
        · unfold Hid
          rw [← HS.out]
          exact HSET.out _ _ ho4 hg4
        · exact below_grownBy HB.out (by omega) hg4 (fun q hq => by simp at hq; omega)
      case measure => simp [intOf]; omega
    · obtain rfl : k = n2 := by omega
      have hT := HT2.out
      rw [fil2_all, HZ.out] at hT
      have HL : Hid (zss.length = k) := by unfold Hid; rw [← HZ.out, length_tab]
      have hd5 : decide ((k : Int) < (k : Int)) = false := by simp
      go_wp2
      refine bodyPost_ret (v := .agg #[.int .i64 m, .slice (some ⟨g, 0, none⟩) k c']) (by simp [results, Try.results90, go_sem, q1, q2]) rfl ⟨some ⟨g, 0, none⟩, c', by rw [HL.out], ?_, ?_⟩
      · rw [HL.out]
        have h9 := OwnP.mono (lo' := w.heap.size) (hT.hi_le.far2 (b := w.heap.size + 1) (x := .int .i64 m) (y := .slice (some ⟨g, 0, none⟩) k c') (.inl (by omega))) (by omega) (Nat.le_refl _)
        simpa [World.setCell] using h9
      · exact (HB.out.setCell (by simp) _).setCell (by simp) _

/-! ### CutPlane -/
def CutPlaneR (m : Int) (xss : List (List Int)) (d : Int) : (Int × List (List Int)) × Int := if isPl m xss = false then ((0, []), 1) else if inB d 1 ((xss.length : Int) - 1) = false then ((0, []), 2) else ((m, tab (d + 1).toNat (co2 xss)), 0)
theorem CutPlaneR_len (m : Int) (xss : List (List Int)) (d : Int) : cntP (CutPlaneR m xss d).1.2 ≤ 200 := by
  unfold CutPlaneR
  cases h : isPl m xss
  · simp [cntP]
  · have h2 := (isPl_true h).2.1
    cases hd : inB d 1 ((xss.length : Int) - 1)
    · simp [cntP]
    · have := inB_true.1 hd
      simp only [Bool.true_eq_false, if_false]
      exact cntP_tab_100 _ (by omega)
set_option maxHeartbeats 1000000 in
theorem iCutPlaneR_any (w : World) (m : Int) (v : Value) (xss : List (List Int)) (d : Int) (lo hi : Nat) (hv : OwnP w lo hi v xss) (hl : szP xss ≤ 2000000) : Calls Try.prog 40 #[.agg #[.int .i64 m, v], .int .i64 d] w (RetPI w (CutPlaneR m xss d)) := by
  obtain ⟨A, c, rfl, -, -⟩ := hv.form
  have hxl := Nat.le_trans (length_le_szP xss) hl
  cases hs : isPl m xss
  · have HF : CutPlaneR m xss d = ((0, []), 1) := by simp [CutPlaneR, hs]
    rw [HF]
    clear HF
    have HS := Lib.hid hs
    clear hs
    go_enter Try.func40, Try.ntmps40
    go_wp2_with (go_at_call 18; refine (iIsPlane_any _ m _ xss lo hi (OwnP.keep hv (by (repeat (first | assumption | exact Below.refl _ _ | refine Below.alloc ?_ (by first | omega | (simp; done) | (simp; omega)) _ | refine Below.setCell ?_ (by first | omega | (simp; done) | (simp; omega)) _ | refine below_drewN ?_ _)))) hl).mono ?_; rintro e w1 ⟨rfl, hb1⟩; rw [HS.out]; obtain ⟨P1, Q1, K1⟩ := Bf.first2 hb1; have p1a := P1.1.2.1; have p1b := P1.1.2.2; have z1 := P1.1.1; have q1a := Q1.1.2.1; have q1b := Q1.1.2.2; have q1c := Q1.2.1; have q1d := Q1.2.2; have y1 := Q1.1.1)
    exact bodyPost_ret (v := .tuple #[.agg #[.int .i64 0, .slice none 0 0], .int .i64 1]) (by simp [results, Try.results40, go_sem, q1a, q1b]) rfl (RetPI.zero (by (repeat (first | assumption | exact Below.refl _ _ | refine Below.alloc ?_ (by first | omega | (simp; done) | (simp; omega)) _ | refine Below.setCell ?_ (by first | omega | (simp; done) | (simp; omega)) _ | refine below_drewN ?_ _))))
  · have HS := Lib.hid hs
    have hm := isModB_true (isPl_true hs).1
    have hlen := (isPl_true hs).2.1
    have HT := Lib.hid (isPl_tri hs)
    cases hd : inB d 1 ((xss.length : Int) - 1)
    · have HF : CutPlaneR m xss d = ((0, []), 2) := by simp [CutPlaneR, hs, hd]
      rw [HF]
      have HD := Lib.hid hd
      clear HF hs hd
      go_enter Try.func40, Try.ntmps40
      go_wp2_with (go_at_call 18; refine (iIsPlane_any _ m _ xss lo hi (OwnP.keep hv (by (repeat (first | assumption | exact Below.refl _ _ | refine Below.alloc ?_ (by first | omega | (simp; done) | (simp; omega)) _ | refine Below.setCell ?_ (by first | omega | (simp; done) | (simp; omega)) _ | refine below_drewN ?_ _)))) hl).mono ?_; rintro e w1 ⟨rfl, hb1⟩; rw [HS.out]; obtain ⟨P1, Q1, K1⟩ := Bf.first2 hb1; have p1a := P1.1.2.1; have p1b := P1.1.2.2; have z1 := P1.1.1; have q1a := Q1.1.2.1; have q1b := Q1.1.2.2; have q1c := Q1.2.1; have q1d := Q1.2.2; have y1 := Q1.1.1)
      refine (pDegree_any m A xss.length c _ (by omega)).mono ?_
      rintro e w2 ⟨rfl, hb2⟩
      have R2 : Below w1.heap.size w1 w2 := (Below.trans (by (repeat (first | assumption | exact Below.refl _ _ | refine Below.alloc ?_ (by first | omega | (simp; done) | (simp; omega)) _ | refine Below.setCell ?_ (by first | omega | (simp; done) | (simp; omega)) _ | refine below_drewN ?_ _))) (hb2.mono (by first | exact Nat.le_refl _ | (simp; done) | (simp; omega)))); have s2 := R2.size; have K2 : Below w.heap.size w w2 := K1.trans (R2.mono K1.size); have P2 := P1.keep R2; have Q2 := Q1.keep R2; have p2a := P2.1.2.1; have p2b := P2.1.2.2; have z2 := P2.1.1; have q2a := Q2.1.2.1; have q2b := Q2.1.2.2; have q2c := Q2.2.1; have q2d := Q2.2.2; have y2 := Q2.1.1
      go_wp2_with (go_at_call 53; refine (in_any _ _ _ _).mono ?_; rintro e w3 ⟨rfl, k3, rfl⟩; rw [HD.out])
      exact bodyPost_ret (v := .tuple #[.agg #[.int .i64 0, .slice none 0 0], .int .i64 2]) (by simp [results, Try.results40, go_sem, q2a, q2b]) rfl (RetPI.zero (by (repeat (first | assumption | exact Below.refl _ _ | refine Below.alloc ?_ (by first | omega | (simp; done) | (simp; omega)) _ | refine Below.setCell ?_ (by first | omega | (simp; done) | (simp; omega)) _ | refine below_drewN ?_ _))))
    · have hdb := inB_true.1 hd
      obtain ⟨n2, hn2⟩ : ∃ n2 : Nat, d + 1 = (n2 : Int) := ⟨(d + 1).toNat, by omega⟩
      obtain ⟨ys, hy⟩ : ∃ ys, (tab n2 (co2 xss)) = ys := ⟨_, rfl⟩
      have HF : CutPlaneR m xss d = ((m, ys), 0) := by simp [CutPlaneR, hs, hd, hn2, hy]
      have HYL : Hid (ys.length = n2) := by unfold Hid; rw [← hy, length_tab]
      rw [HF]
      have HD := Lib.hid hd
      have HY := Lib.hid hy
      have hd1 : d = (n2 : Int) - 1 := by omega
      subst hd1
      clear HF hs hd hy hn2
      go_enter Try.func40, Try.ntmps40
      go_wp2_with (go_at_call 18; refine (iIsPlane_any _ m _ xss lo hi (OwnP.keep hv (by (repeat (first | assumption | exact Below.refl _ _ | refine Below.alloc ?_ (by first | omega | (simp; done) | (simp; omega)) _ | refine Below.setCell ?_ (by first | omega | (simp; done) | (simp; omega)) _ | refine below_drewN ?_ _)))) hl).mono ?_; rintro e w1 ⟨rfl, hb1⟩; rw [HS.out]; obtain ⟨P1, Q1, K1⟩ := Bf.first2 hb1; have p1a := P1.1.2.1; have p1b := P1.1.2.2; have z1 := P1.1.1; have q1a := Q1.1.2.1; have q1b := Q1.1.2.2; have q1c := Q1.2.1; have q1d := Q1.2.2; have y1 := Q1.1.1)
      refine (pDegree_any m A xss.length c _ (by omega)).mono ?_
      rintro e w2 ⟨rfl, hb2⟩
      have R2 : Below w1.heap.size w1 w2 := (Below.trans (by (repeat (first | assumption | exact Below.refl _ _ | refine Below.alloc ?_ (by first | omega | (simp; done) | (simp; omega)) _ | refine Below.setCell ?_ (by first | omega | (simp; done) | (simp; omega)) _ | refine below_drewN ?_ _))) (hb2.mono (by first | exact Nat.le_refl _ | (simp; done) | (simp; omega)))); have s2 := R2.size; have K2 : Below w.heap.size w w2 := K1.trans (R2.mono K1.size); have P2 := P1.keep R2; have Q2 := Q1.keep R2; have p2a := P2.1.2.1; have p2b := P2.1.2.2; have z2 := P2.1.1; have q2a := Q2.1.2.1; have q2b := Q2.1.2.2; have q2c := Q2.2.1; have q2d := Q2.2.2; have y2 := Q2.1.1
      have HV := Lib.hid (hv.keep K2)
      go_wp2_with (first | (go_at_call 53; refine (in_any _ _ _ _).mono ?_; rintro e w3 ⟨rfl, k3, rfl⟩; rw [HD.out]) | (go_at_call 90; refine (cut_any _ m _ xss ys _ xss.length n2 lo hi (HV.out.drewN _) HT.out (by omega) (by omega) (by omega) (by omega) HY.out).mono ?_; rintro e w4 ⟨A4, c4, rfl, o4, hb4⟩; rw [HYL.out] at o4 ⊢; have R4 : Below w2.heap.size w2 w4 := (Below.trans (by (repeat (first | assumption | exact Below.refl _ _ | refine Below.alloc ?_ (by first | omega | (simp; done) | (simp; omega)) _ | refine Below.setCell ?_ (by first | omega | (simp; done) | (simp; omega)) _ | refine below_drewN ?_ _))) (hb4.mono (by first | exact Nat.le_refl _ | (simp; done) | (simp; omega)))); have s4 := R4.size; have K4 : Below w.heap.size w w4 := K2.trans (R4.mono K2.size); have P4 := P2.keep R4; have Q4 := Q2.keep R4; have p4a := P4.1.2.1; have p4b := P4.1.2.2; have z4 := P4.1.1; have q4a := Q4.1.2.1; have q4b := Q4.1.2.2; have q4c := Q4.2.1; have q4d := Q4.2.2; have y4 := Q4.1.1))
      exact bodyPost_ret (v := .tuple #[.agg #[.int .i64 m, .slice A4 n2 c4], .int .i64 0]) (by simp [results, Try.results40, go_sem, q4a, q4b]) rfl (RetPI.mk (o4.far2 (.inl (by show _ < w2.heap.size; exact y2))) HYL.out (by show w.heap.size ≤ w2.heap.size; omega) (by (repeat (first | assumption | exact Below.refl _ _ | refine Below.alloc ?_ (by first | omega | (simp; done) | (simp; omega)) _ | refine Below.setCell ?_ (by first | omega | (simp; done) | (simp; omega)) _ | refine below_drewN ?_ _))))
set_option maxHeartbeats 1000000 in
theorem sCutPlaneR_any (w : World) (m : Int) (v : Value) (xss : List (List Int)) (d : Int) (lo hi : Nat) (hv : OwnP w lo hi v xss) (hl : szP xss ≤ 2000000) : Calls Try.prog 39 #[.agg #[.int .i64 m, v], .int .i64 d] w (RetPI w (CutPlaneR m xss d)) := by
  obtain ⟨A, c, rfl, -, -⟩ := hv.form
  have hxl := Nat.le_trans (length_le_szP xss) hl
  cases hs : isPl m xss
  · have HF : CutPlaneR m xss d = ((0, []), 1) := by simp [CutPlaneR, hs]
    rw [HF]
    clear HF
    have HS := Lib.hid hs
    clear hs
    go_enter Try.func39, Try.ntmps39
    go_wp2_with (go_at_call 50; refine (l03Is_any _ m _ xss lo hi (OwnP.keep hv (by (repeat (first | assumption | exact Below.refl _ _ | refine Below.alloc ?_ (by first | omega | (simp; done) | (simp; omega)) _ | refine Below.setCell ?_ (by first | omega | (simp; done) | (simp; omega)) _ | refine below_drewN ?_ _)))) hl).mono ?_; rintro e w1 ⟨rfl, hb1⟩; rw [HS.out]; obtain ⟨P1, Q1, K1⟩ := Bf.first2 hb1; have p1a := P1.1.2.1; have p1b := P1.1.2.2; have z1 := P1.1.1; have q1a := Q1.1.2.1; have q1b := Q1.1.2.2; have q1c := Q1.2.1; have q1d := Q1.2.2; have y1 := Q1.1.1)
    exact bodyPost_ret (v := .tuple #[.agg #[.int .i64 0, .slice none 0 0], .int .i64 1]) (by simp [results, Try.results39, go_sem, q1a, q1b]) rfl (RetPI.zero (by (repeat (first | assumption | exact Below.refl _ _ | refine Below.alloc ?_ (by first | omega | (simp; done) | (simp; omega)) _ | refine Below.setCell ?_ (by first | omega | (simp; done) | (simp; omega)) _ | refine below_drewN ?_ _))))
  · have HS := Lib.hid hs
    have hm := isModB_true (isPl_true hs).1
    have hlen := (isPl_true hs).2.1
    have HT := Lib.hid (isPl_tri hs)
    cases hd : inB d 1 ((xss.length : Int) - 1)
    · have HF : CutPlaneR m xss d = ((0, []), 2) := by simp [CutPlaneR, hs, hd]
      rw [HF]
      have HD := Lib.hid hd
      clear HF hs hd
      go_enter Try.func39, Try.ntmps39
      go_wp2_with (go_at_call 50; refine (l03Is_any _ m _ xss lo hi (OwnP.keep hv (by (repeat (first | assumption | exact Below.refl _ _ | refine Below.alloc ?_ (by first | omega | (simp; done) | (simp; omega)) _ | refine Below.setCell ?_ (by first | omega | (simp; done) | (simp; omega)) _ | refine below_drewN ?_ _)))) hl).mono ?_; rintro e w1 ⟨rfl, hb1⟩; rw [HS.out]; obtain ⟨P1, Q1, K1⟩ := Bf.first2 hb1; have p1a := P1.1.2.1; have p1b := P1.1.2.2; have z1 := P1.1.1; have q1a := Q1.1.2.1; have q1b := Q1.1.2.2; have q1c := Q1.2.1; have q1d := Q1.2.2; have y1 := Q1.1.1)
      refine (l03Degree_any m A xss.length c _ (by omega)).mono ?_
      rintro e w2 ⟨rfl, hb2⟩
      have R2 : Below w1.heap.size w1 w2 := (Below.trans (by (repeat (first | assumption | exact Below.refl _ _ | refine Below.alloc ?_ (by first | omega | (simp; done) | (simp; omega)) _ | refine Below.setCell ?_ (by first | omega | (simp; done) | (simp; omega)) _ | refine below_drewN ?_ _))) (hb2.mono (by first | exact Nat.le_refl _ | (simp; done) | (simp; omega)))); have s2 := R2.size; have K2 : Below w.heap.size w w2 := K1.trans (R2.mono K1.size); have P2 := P1.keep R2; have Q2 := Q1.keep R2; have p2a := P2.1.2.1; have p2b := P2.1.2.2; have z2 := P2.1.1; have q2a := Q2.1.2.1; have q2b := Q2.1.2.2; have q2c := Q2.2.1; have q2d := Q2.2.2; have y2 := Q2.1.1
      go_wp2_with (go_at_call 60; refine (l01In_any _ _ _ _).mono ?_; rintro e w3 ⟨rfl, k3, rfl⟩; rw [HD.out])
      exact bodyPost_ret (v := .tuple #[.agg #[.int .i64 0, .slice none 0 0], .int .i64 2]) (by simp [results, Try.results39, go_sem, q2a, q2b]) rfl (RetPI.zero (by (repeat (first | assumption | exact Below.refl _ _ | refine Below.alloc ?_ (by first | omega | (simp; done) | (simp; omega)) _ | refine Below.setCell ?_ (by first | omega | (simp; done) | (simp; omega)) _ | refine below_drewN ?_ _))))
    · have hdb := inB_true.1 hd
      obtain ⟨n2, hn2⟩ : ∃ n2 : Nat, d + 1 = (n2 : Int) := ⟨(d + 1).toNat, by omega⟩
      obtain ⟨ys, hy⟩ : ∃ ys, (tab n2 (co2 xss)) = ys := ⟨_, rfl⟩
      have HF : CutPlaneR m xss d = ((m, ys), 0) := by simp [CutPlaneR, hs, hd, hn2, hy]
      have HYL : Hid (ys.length = n2) := by unfold Hid; rw [← hy, length_tab]
      rw [HF]
      have HD := Lib.hid hd
      have HY := Lib.hid hy
      have hd1 : d = (n2 : Int) - 1 := by omega
      subst hd1
      clear HF hs hd hy hn2
      go_enter Try.func39, Try.ntmps39
      go_wp2_with (go_at_call 50; refine (l03Is_any _ m _ xss lo hi (OwnP.keep hv (by (repeat (first | assumption | exact Below.refl _ _ | refine Below.alloc ?_ (by first | omega | (simp; done) | (simp; omega)) _ | refine Below.setCell ?_ (by first | omega | (simp; done) | (simp; omega)) _ | refine below_drewN ?_ _)))) hl).mono ?_; rintro e w1 ⟨rfl, hb1⟩; rw [HS.out]; obtain ⟨P1, Q1, K1⟩ := Bf.first2 hb1; have p1a := P1.1.2.1; have p1b := P1.1.2.2; have z1 := P1.1.1; have q1a := Q1.1.2.1; have q1b := Q1.1.2.2; have q1c := Q1.2.1; have q1d := Q1.2.2; have y1 := Q1.1.1)
      refine (l03Degree_any m A xss.length c _ (by omega)).mono ?_
      rintro e w2 ⟨rfl, hb2⟩
      have R2 : Below w1.heap.size w1 w2 := (Below.trans (by (repeat (first | assumption | exact Below.refl _ _ | refine Below.alloc ?_ (by first | omega | (simp; done) | (simp; omega)) _ | refine Below.setCell ?_ (by first | omega | (simp; done) | (simp; omega)) _ | refine below_drewN ?_ _))) (hb2.mono (by first | exact Nat.le_refl _ | (simp; done) | (simp; omega)))); have s2 := R2.size; have K2 : Below w.heap.size w w2 := K1.trans (R2.mono K1.size); have P2 := P1.keep R2; have Q2 := Q1.keep R2; have p2a := P2.1.2.1; have p2b := P2.1.2.2; have z2 := P2.1.1; have q2a := Q2.1.2.1; have q2b := Q2.1.2.2; have q2c := Q2.2.1; have q2d := Q2.2.2; have y2 := Q2.1.1
      have HV := Lib.hid (hv.keep K2)
      go_wp2_with (go_at_call 60; refine (l01In_any _ _ _ _).mono ?_; rintro e w3 ⟨rfl, k3, rfl⟩; rw [HD.out])
      go_region_held3 (fun w' => w'.cell? ⟨w.heap.size, 0, none⟩ = some (.int .i64 m) ∧ w'.cell? ⟨w.heap.size, 1, none⟩ = some (.slice A xss.length c)) (first | exact ⟨p2a, p2b⟩ | exact ⟨p4a, p4b⟩ | exact ⟨p5a, p5b⟩ | exact ⟨cell_store2 p5a (by omega), cell_store2 p5b (by omega)⟩ | go_keep)
        (first | (go_at_call 89; refine (l03Cut_any _ _ xss ys _ xss.length n2 lo hi (HV.out.drewN _) HT.out (by omega) (by omega) (by omega) (by omega) HY.out).mono ?_; rintro e w4 ⟨A4, c4, rfl, o4, hb4⟩; rw [HYL.out] at o4 ⊢; have R4 : Below w2.heap.size w2 w4 := (Below.trans (by (repeat (first | assumption | exact Below.refl _ _ | refine Below.alloc ?_ (by first | omega | (simp; done) | (simp; omega)) _ | refine Below.setCell ?_ (by first | omega | (simp; done) | (simp; omega)) _ | refine below_drewN ?_ _))) (hb4.mono (by first | exact Nat.le_refl _ | (simp; done) | (simp; omega)))); have s4 := R4.size; have K4 : Below w.heap.size w w4 := K2.trans (R4.mono K2.size); have P4 := P2.keep R4; have Q4 := Q2.keep R4; have p4a := P4.1.2.1; have p4b := P4.1.2.2; have z4 := P4.1.1; have q4a := Q4.1.2.1; have q4b := Q4.1.2.2; have q4c := Q4.2.1; have q4d := Q4.2.2; have y4 := Q4.1.1) | (go_at_call 62; refine (l03Make_any _ m A4 n2 c4).mono ?_; rintro e w5 ⟨rfl, hb5⟩; have R5 : Below w4.heap.size w4 w5 := (Below.trans (by (repeat (first | assumption | exact Below.refl _ _ | refine Below.alloc ?_ (by first | omega | (simp; done) | (simp; omega)) _ | refine Below.setCell ?_ (by first | omega | (simp; done) | (simp; omega)) _ | refine below_drewN ?_ _))) (hb5.mono (by first | exact Nat.le_refl _ | (simp; done) | (simp; omega)))); have s5 := R5.size; have K5 : Below w.heap.size w w5 := K4.trans (R5.mono K4.size); have P5 := P4.keep R5; have Q5 := Q4.keep R5; have p5a := P5.1.2.1; have p5b := P5.1.2.2; have z5 := P5.1.1; have q5a := Q5.1.2.1; have q5b := Q5.1.2.2; have q5c := Q5.2.1; have q5d := Q5.2.2; have y5 := Q5.1.1))
      go_wp2
      exact bodyPost_ret (v := .tuple #[.agg #[.int .i64 m, .slice A4 n2 c4], .int .i64 0]) (by simp [results, Try.results39, go_sem, q5a, q5b]) rfl (RetPI.mk ((o4.keep R5).far2 (.inl (by show _ < w2.heap.size; exact y2))) HYL.out (by show w.heap.size ≤ w2.heap.size; omega) (by (repeat (first | assumption | exact Below.refl _ _ | refine Below.alloc ?_ (by first | omega | (simp; done) | (simp; omega)) _ | refine Below.setCell ?_ (by first | omega | (simp; done) | (simp; omega)) _ | refine below_drewN ?_ _))))

/-! ### The laws' walks, printed by genlaw2.py -/
set_option maxHeartbeats 4000000 in
theorem FnExactCutPlane_walk (w : World) (m0 : Int) (v0 : Value) (xs0 : List (List Int)) (hv0 : RdP w v0 xs0) (a1 : Int) : Calls Try.prog 10 #[.agg #[.int .i64 m0, v0], .int .i64 a1] w fun e w' => e = .returned (.bool true) ∧ Below w.heap.size w w' := by
  obtain ⟨A0, c0, e0⟩ := hv0.form
  subst e0
  obtain ⟨r0, HR⟩ : ∃ r0, Hid (CutPlaneR m0 xs0 a1 = r0) := ⟨_, rfl⟩
  obtain ⟨⟨rm, rl⟩, rc⟩ := r0
  have hlen := CutPlaneR_len m0 xs0 a1
  rw [HR.out] at hlen
  simp only at hlen
  by_cases hz0 : 1048576 < ((szP xs0) : Int)
  · skip
    have HZ0 := Lib.hid (szN_lt hz0)
    go_enter Try.func10, Try.ntmps10
    go_wp2_with fail
    refine (szP_any _ m0 _ xs0 (1048576) (hv0.below (by (repeat (first | assumption | exact Below.refl _ _ | refine Below.alloc ?_ (by first | omega | (simp; done) | (simp; omega)) _ | refine Below.setCell ?_ (by first | omega | (simp; done) | (simp; omega)) _ | refine below_drewN ?_ _)))) (by omega) (by omega)).mono ?_
    rintro e w1 ⟨rfl, hb1⟩
    rw [HZ0.out]
    have R : Below w.heap.size w w1 := Below.trans (by (repeat (first | assumption | exact Below.refl _ _ | refine Below.alloc ?_ (by first | omega | (simp; done) | (simp; omega)) _ | refine Below.setCell ?_ (by first | omega | (simp; done) | (simp; omega)) _ | refine below_drewN ?_ _))) (hb1.mono (by first | exact Nat.le_refl _ | (simp; done) | (simp; omega)))
    have s1 : w.heap.size ≤ w1.heap.size := R.size
    have K1 : Hid (Below w.heap.size w w1) := R
    have b0 : Hid (Bx w1 w.heap.size (.int .i64 m0) (.slice A0 xs0.length c0)) := ⟨by have := hb1.size; simp at this; omega, by rw [hb1.cell (by first | (simp; done) | (simp; omega))]; simp, by rw [hb1.cell (by first | (simp; done) | (simp; omega))]; simp⟩
    clear R hb1
    have b0_c := b0.out.2.1
    have b0_d := b0.out.2.2
    have b0_z := b0.out.1
    go_wp2
    go_ret
    exact ⟨rfl, K1.out⟩
  have HZ0 := Lib.hid (szN_ge hz0)
  have hl0 : ((szP xs0) : Int) ≤ 1048576 := by omega
  clear hz0
  have hq0 := cntP_le_szP xs0
  have hq0' := length_le_szP xs0
  go_enter Try.func10, Try.ntmps10
  go_wp2_with fail
  refine (szP_any _ m0 _ xs0 (1048576) (hv0.below (by (repeat (first | assumption | exact Below.refl _ _ | refine Below.alloc ?_ (by first | omega | (simp; done) | (simp; omega)) _ | refine Below.setCell ?_ (by first | omega | (simp; done) | (simp; omega)) _ | refine below_drewN ?_ _)))) (by omega) (by omega)).mono ?_
  rintro e w2 ⟨rfl, hb2⟩
  rw [HZ0.out]
  have R : Below w.heap.size w w2 := Below.trans (by (repeat (first | assumption | exact Below.refl _ _ | refine Below.alloc ?_ (by first | omega | (simp; done) | (simp; omega)) _ | refine Below.setCell ?_ (by first | omega | (simp; done) | (simp; omega)) _ | refine below_drewN ?_ _))) (hb2.mono (by first | exact Nat.le_refl _ | (simp; done) | (simp; omega)))
  have s2 : w.heap.size ≤ w2.heap.size := R.size
  have K2 : Hid (Below w.heap.size w w2) := R
  have b0 : Hid (Bx w2 w.heap.size (.int .i64 m0) (.slice A0 xs0.length c0)) := ⟨by have := hb2.size; simp at this; omega, by rw [hb2.cell (by first | (simp; done) | (simp; omega))]; simp, by rw [hb2.cell (by first | (simp; done) | (simp; omega))]; simp⟩
  clear R hb2
  have b0_c := b0.out.2.1
  have b0_d := b0.out.2.2
  have b0_z := b0.out.1
  go_wp2_with fail
  refine (toP_any _ m0 _ xs0 (hv0.below K2.out) (by omega)).mono ?_
  rintro e w3 ⟨A_p0, c_p0, rfl, o_p0, hb3⟩
  clear b0_c b0_d b0_z
  have o_p0' := (o_p0).mono (show w2.heap.size ≤ _ from by first | exact Nat.le_refl _ | (simp; done) | (simp; omega)) (Nat.le_refl _)
  clear o_p0
  have R : Below w2.heap.size w2 w3 := Below.trans (by (repeat (first | assumption | exact Below.refl _ _ | refine Below.alloc ?_ (by first | omega | (simp; done) | (simp; omega)) _ | refine Below.setCell ?_ (by first | omega | (simp; done) | (simp; omega)) _ | refine below_drewN ?_ _))) (hb3.mono (by first | exact Nat.le_refl _ | (simp; done) | (simp; omega)))
  have s3 : w2.heap.size ≤ w3.heap.size := R.size
  have K3 : Hid (Below w.heap.size w w3) := K2.out.trans (R.mono (by omega))
  replace b0 : Hid (Bx w3 w.heap.size (.int .i64 m0) (.slice A0 xs0.length c0)) := b0.out.keep R
  clear R hb3
  have p0 : Hid (OwnP w3 w2.heap.size w3.heap.size (.slice A_p0 xs0.length c_p0) xs0) := o_p0'
  clear o_p0'
  have b0_c := b0.out.2.1
  have b0_d := b0.out.2.2
  have b0_z := b0.out.1
  go_wp2_with fail
  refine (sCutPlaneR_any _ m0 (.slice A_p0 xs0.length c_p0) xs0 a1 w2.heap.size w3.heap.size (p0.out.keep (by (repeat (first | assumption | exact Below.refl _ _ | refine Below.alloc ?_ (by first | omega | (simp; done) | (simp; omega)) _ | refine Below.setCell ?_ (by first | omega | (simp; done) | (simp; omega)) _ | refine below_drewN ?_ _)))) (by omega)).mono ?_
  rintro e w4 h_r
  replace h_r := h_r.of HR
  obtain ⟨A_ow, c_ow, rfl, o_ow, hb4⟩ := h_r
  have o_ow' := (o_ow).mono (show w3.heap.size ≤ _ from by first | exact Nat.le_refl _ | (simp; done) | (simp; omega)) (Nat.le_refl _)
  clear o_ow
  clear b0_c b0_d b0_z
  have R : Below w3.heap.size w3 w4 := Below.trans (by (repeat (first | assumption | exact Below.refl _ _ | refine Below.alloc ?_ (by first | omega | (simp; done) | (simp; omega)) _ | refine Below.setCell ?_ (by first | omega | (simp; done) | (simp; omega)) _ | refine below_drewN ?_ _))) (hb4.mono (by first | exact Nat.le_refl _ | (simp; done) | (simp; omega)))
  have s4 : w3.heap.size ≤ w4.heap.size := R.size
  have K4 : Hid (Below w.heap.size w w4) := K3.out.trans (R.mono (by omega))
  replace b0 : Hid (Bx w4 w.heap.size (.int .i64 m0) (.slice A0 xs0.length c0)) := b0.out.keep R
  replace p0 : Hid (OwnP w4 w2.heap.size w3.heap.size (.slice A_p0 xs0.length c_p0) xs0) := p0.out.keep R
  clear R hb4
  have ow : Hid (OwnP w4 w3.heap.size w4.heap.size (.slice A_ow rl.length c_ow) rl) := o_ow'
  clear o_ow'
  clear p0
  have b0_c := b0.out.2.1
  have b0_d := b0.out.2.2
  have b0_z := b0.out.1
  go_wp2_with fail
  refine (toP_any _ m0 _ xs0 (hv0.below (K4.out.trans (Below.mono (by (repeat (first | assumption | exact Below.refl _ _ | refine Below.alloc ?_ (by first | omega | (simp; done) | (simp; omega)) _ | refine Below.setCell ?_ (by first | omega | (simp; done) | (simp; omega)) _ | refine below_drewN ?_ _))) (by omega)))) (by omega)).mono ?_
  rintro e w5 ⟨A_x0, c_x0, rfl, o_x0, hb5⟩
  clear b0_c b0_d b0_z
  have o_x0' := (o_x0).mono (show (w4.heap.size + 1) ≤ _ from by first | exact Nat.le_refl _ | (simp; done) | (simp; omega)) (Nat.le_refl _)
  clear o_x0
  have R : Below w4.heap.size w4 w5 := Below.trans (by (repeat (first | assumption | exact Below.refl _ _ | refine Below.alloc ?_ (by first | omega | (simp; done) | (simp; omega)) _ | refine Below.setCell ?_ (by first | omega | (simp; done) | (simp; omega)) _ | refine below_drewN ?_ _))) (hb5.mono (by first | exact Nat.le_refl _ | (simp; done) | (simp; omega)))
  have s5 : w4.heap.size ≤ w5.heap.size := R.size
  have K5 : Hid (Below w.heap.size w w5) := K4.out.trans (R.mono (by omega))
  replace b0 : Hid (Bx w5 w.heap.size (.int .i64 m0) (.slice A0 xs0.length c0)) := b0.out.keep R
  replace ow : Hid (OwnP w5 w3.heap.size w4.heap.size (.slice A_ow rl.length c_ow) rl) := ow.out.keep R
  have bw : Hid (Bx w5 w4.heap.size (.int .i64 rm) (.slice A_ow rl.length c_ow)) := ⟨by have := hb5.size; simp at this; omega, by rw [hb5.cell (by first | (simp; done) | (simp; omega))]; simp, by rw [hb5.cell (by first | (simp; done) | (simp; omega))]; simp⟩
  clear R hb5
  have x0 : Hid (OwnP w5 (w4.heap.size + 1) w5.heap.size (.slice A_x0 xs0.length c_x0) xs0) := o_x0'
  clear o_x0'
  have b0_c := b0.out.2.1
  have b0_d := b0.out.2.2
  have b0_z := b0.out.1
  have bw_c := bw.out.2.1
  have bw_d := bw.out.2.2
  have bw_z := bw.out.1
  go_wp2_with fail
  refine (iCutPlaneR_any _ m0 (.slice A_x0 xs0.length c_x0) xs0 a1 (w4.heap.size + 1) w5.heap.size (x0.out.keep (by (repeat (first | assumption | exact Below.refl _ _ | refine Below.alloc ?_ (by first | omega | (simp; done) | (simp; omega)) _ | refine Below.setCell ?_ (by first | omega | (simp; done) | (simp; omega)) _ | refine below_drewN ?_ _)))) (by omega)).mono ?_
  rintro e w6 h_r
  replace h_r := h_r.of HR
  obtain ⟨A_og, c_og, rfl, o_og, hb6⟩ := h_r
  have o_og' := (o_og).mono (show (w5.heap.size + 1) ≤ _ from by first | exact Nat.le_refl _ | (simp; done) | (simp; omega)) (Nat.le_refl _)
  clear o_og
  clear b0_c b0_d b0_z
  clear bw_c bw_d bw_z
  have R : Below w5.heap.size w5 w6 := Below.trans (by (repeat (first | assumption | exact Below.refl _ _ | refine Below.alloc ?_ (by first | omega | (simp; done) | (simp; omega)) _ | refine Below.setCell ?_ (by first | omega | (simp; done) | (simp; omega)) _ | refine below_drewN ?_ _))) (hb6.mono (by first | exact Nat.le_refl _ | (simp; done) | (simp; omega)))
  have s6 : w5.heap.size ≤ w6.heap.size := R.size
  have K6 : Hid (Below w.heap.size w w6) := K5.out.trans (R.mono (by omega))
  replace b0 : Hid (Bx w6 w.heap.size (.int .i64 m0) (.slice A0 xs0.length c0)) := b0.out.keep R
  replace bw : Hid (Bx w6 w4.heap.size (.int .i64 rm) (.slice A_ow rl.length c_ow)) := bw.out.keep R
  replace ow : Hid (OwnP w6 w3.heap.size w4.heap.size (.slice A_ow rl.length c_ow) rl) := ow.out.keep R
  replace x0 : Hid (OwnP w6 (w4.heap.size + 1) w5.heap.size (.slice A_x0 xs0.length c_x0) xs0) := x0.out.keep R
  have bx0 : Hid (Bx w6 w5.heap.size (.int .i64 m0) (.slice A_x0 xs0.length c_x0)) := ⟨by have := hb6.size; simp at this; omega, by rw [hb6.cell (by first | (simp; done) | (simp; omega))]; simp, by rw [hb6.cell (by first | (simp; done) | (simp; omega))]; simp⟩
  clear R hb6
  have og : Hid (OwnP w6 (w5.heap.size + 1) w6.heap.size (.slice A_og rl.length c_og) rl) := o_og'
  clear o_og'
  have b0_c := b0.out.2.1
  have b0_d := b0.out.2.2
  have b0_z := b0.out.1
  have bw_c := bw.out.2.1
  have bw_d := bw.out.2.2
  have bw_z := bw.out.1
  have bx0_c := bx0.out.2.1
  have bx0_d := bx0.out.2.2
  have bx0_z := bx0.out.1
  go_wp2_with fail
  refine (eqP_any _ rm rm _ _ _ _ (og.out.keep (by (repeat (first | assumption | exact Below.refl _ _ | refine Below.alloc ?_ (by first | omega | (simp; done) | (simp; omega)) _ | refine Below.setCell ?_ (by first | omega | (simp; done) | (simp; omega)) _ | refine below_drewN ?_ _)))).rd (ow.out.keep (by (repeat (first | assumption | exact Below.refl _ _ | refine Below.alloc ?_ (by first | omega | (simp; done) | (simp; omega)) _ | refine Below.setCell ?_ (by first | omega | (simp; done) | (simp; omega)) _ | refine below_drewN ?_ _)))).rd).mono ?_
  rintro e w7 ⟨rfl, hb7⟩
  clear b0_c b0_d b0_z
  clear bw_c bw_d bw_z
  clear bx0_c bx0_d bx0_z
  have R : Below w6.heap.size w6 w7 := Below.trans (by (repeat (first | assumption | exact Below.refl _ _ | refine Below.alloc ?_ (by first | omega | (simp; done) | (simp; omega)) _ | refine Below.setCell ?_ (by first | omega | (simp; done) | (simp; omega)) _ | refine below_drewN ?_ _))) (hb7.mono (by first | exact Nat.le_refl _ | (simp; done) | (simp; omega)))
  have s7 : w6.heap.size ≤ w7.heap.size := R.size
  have K7 : Hid (Below w.heap.size w w7) := K6.out.trans (R.mono (by omega))
  replace b0 : Hid (Bx w7 w.heap.size (.int .i64 m0) (.slice A0 xs0.length c0)) := b0.out.keep R
  replace bw : Hid (Bx w7 w4.heap.size (.int .i64 rm) (.slice A_ow rl.length c_ow)) := bw.out.keep R
  replace bx0 : Hid (Bx w7 w5.heap.size (.int .i64 m0) (.slice A_x0 xs0.length c_x0)) := bx0.out.keep R
  replace ow : Hid (OwnP w7 w3.heap.size w4.heap.size (.slice A_ow rl.length c_ow) rl) := ow.out.keep R
  replace x0 : Hid (OwnP w7 (w4.heap.size + 1) w5.heap.size (.slice A_x0 xs0.length c_x0) xs0) := x0.out.keep R
  replace og : Hid (OwnP w7 (w5.heap.size + 1) w6.heap.size (.slice A_og rl.length c_og) rl) := og.out.keep R
  have bg : Hid (Bx w7 w6.heap.size (.int .i64 rm) (.slice A_og rl.length c_og)) := ⟨by have := hb7.size; simp at this; omega, by rw [hb7.cell (by first | (simp; done) | (simp; omega))]; simp, by rw [hb7.cell (by first | (simp; done) | (simp; omega))]; simp⟩
  clear R hb7
  have b0_c := b0.out.2.1
  have b0_d := b0.out.2.2
  have b0_z := b0.out.1
  have bw_c := bw.out.2.1
  have bw_d := bw.out.2.2
  have bw_z := bw.out.1
  have bx0_c := bx0.out.2.1
  have bx0_d := bx0.out.2.2
  have bx0_z := bx0.out.1
  have bg_c := bg.out.2.1
  have bg_d := bg.out.2.2
  have bg_z := bg.out.1
  go_wp2
  clear b0_c b0_d b0_z
  clear bw_c bw_d bw_z
  clear bx0_c bx0_d bx0_z
  clear bg_c bg_d bg_z
  have L0 : Below w.heap.size w w7.drew := below_drew K7.out
  have T0 : Hid (Bx w7.drew w.heap.size (.int .i64 m0) (.slice A0 xs0.length c0) ∧ Bx w7.drew w4.heap.size (.int .i64 rm) (.slice A_ow rl.length c_ow) ∧ Bx w7.drew w5.heap.size (.int .i64 m0) (.slice A_x0 xs0.length c_x0) ∧ Bx w7.drew w6.heap.size (.int .i64 rm) (.slice A_og rl.length c_og) ∧ OwnP w7.drew w3.heap.size w4.heap.size (.slice A_ow rl.length c_ow) rl ∧ OwnP w7.drew (w4.heap.size + 1) w5.heap.size (.slice A_x0 xs0.length c_x0) xs0 ∧ OwnP w7.drew (w5.heap.size + 1) w6.heap.size (.slice A_og rl.length c_og) rl ∧ Below w.heap.size w w7.drew ∧ w7.heap.size ≤ w7.drew.heap.size) := ⟨b0.out, bw.out, bx0.out, bg.out, ow.out, x0.out, og.out, L0, Nat.le_refl _⟩
  go_region_held3 (fun w' => w'.cell? ⟨w.heap.size, 0, none⟩ = some (.int .i64 m0) ∧ w'.cell? ⟨w.heap.size, 1, none⟩ = some (.slice A0 xs0.length c0) ∧ w'.cell? ⟨w4.heap.size, 0, none⟩ = some (.int .i64 rm) ∧ w'.cell? ⟨w4.heap.size, 1, none⟩ = some (.slice A_ow rl.length c_ow) ∧ w'.cell? ⟨w5.heap.size, 0, none⟩ = some (.int .i64 m0) ∧ w'.cell? ⟨w5.heap.size, 1, none⟩ = some (.slice A_x0 xs0.length c_x0) ∧ w'.cell? ⟨w6.heap.size, 0, none⟩ = some (.int .i64 rm) ∧ w'.cell? ⟨w6.heap.size, 1, none⟩ = some (.slice A_og rl.length c_og) ∧ Hid (Bx w' w.heap.size (.int .i64 m0) (.slice A0 xs0.length c0) ∧ Bx w' w4.heap.size (.int .i64 rm) (.slice A_ow rl.length c_ow) ∧ Bx w' w5.heap.size (.int .i64 m0) (.slice A_x0 xs0.length c_x0) ∧ Bx w' w6.heap.size (.int .i64 rm) (.slice A_og rl.length c_og) ∧ OwnP w' w3.heap.size w4.heap.size (.slice A_ow rl.length c_ow) rl ∧ OwnP w' (w4.heap.size + 1) w5.heap.size (.slice A_x0 xs0.length c_x0) xs0 ∧ OwnP w' (w5.heap.size + 1) w6.heap.size (.slice A_og rl.length c_og) rl ∧ Below w.heap.size w w' ∧ w7.heap.size ≤ w'.heap.size))
    (first | exact ⟨(T0.out.1).2.1, (T0.out.1).2.2, (T0.out.2.1).2.1, (T0.out.2.1).2.2, (T0.out.2.2.1).2.1, (T0.out.2.2.1).2.2, (T0.out.2.2.2.1).2.1, (T0.out.2.2.2.1).2.2, T0⟩ | exact ⟨(T1.out.1).2.1, (T1.out.1).2.2, (T1.out.2.1).2.1, (T1.out.2.1).2.2, (T1.out.2.2.1).2.1, (T1.out.2.2.1).2.2, (T1.out.2.2.2.1).2.1, (T1.out.2.2.2.1).2.2, T1⟩ | exact ⟨(T2.out.1).2.1, (T2.out.1).2.2, (T2.out.2.1).2.1, (T2.out.2.1).2.2, (T2.out.2.2.1).2.1, (T2.out.2.2.1).2.2, (T2.out.2.2.2.1).2.1, (T2.out.2.2.2.1).2.2, T2⟩)
    (first
      | (go_at_call 17; refine (toP_any _ m0 _ xs0 (hv0.below L0) (by omega)).mono ?_; rintro e w8 ⟨A_t, c_t, rfl, o_t, hbA⟩; have T1 : Hid (Bx w8 w.heap.size (.int .i64 m0) (.slice A0 xs0.length c0) ∧ Bx w8 w4.heap.size (.int .i64 rm) (.slice A_ow rl.length c_ow) ∧ Bx w8 w5.heap.size (.int .i64 m0) (.slice A_x0 xs0.length c_x0) ∧ Bx w8 w6.heap.size (.int .i64 rm) (.slice A_og rl.length c_og) ∧ OwnP w8 w3.heap.size w4.heap.size (.slice A_ow rl.length c_ow) rl ∧ OwnP w8 (w4.heap.size + 1) w5.heap.size (.slice A_x0 xs0.length c_x0) xs0 ∧ OwnP w8 (w5.heap.size + 1) w6.heap.size (.slice A_og rl.length c_og) rl ∧ Below w.heap.size w w8 ∧ w7.heap.size ≤ w8.heap.size) := ⟨(T0.out.1).keep hbA, (T0.out.2.1).keep hbA, (T0.out.2.2.1).keep hbA, (T0.out.2.2.2.1).keep hbA, (T0.out.2.2.2.2.1).keep hbA, (T0.out.2.2.2.2.2.1).keep hbA, (T0.out.2.2.2.2.2.2.1).keep hbA, (T0.out.2.2.2.2.2.2.2.1).trans (hbA.mono (Nat.le_trans (show w.heap.size ≤ w7.heap.size from by omega) (T0.out.2.2.2.2.2.2.2.2))), Nat.le_trans (T0.out.2.2.2.2.2.2.2.2) hbA.size⟩)
      | (go_at_call 19; refine (eqP_any _ m0 m0 _ _ xs0 xs0 (T1.out.2.2.2.2.2.1).rd o_t.rd).mono ?_; rintro e w9 ⟨rfl, hbB⟩; have T2 : Hid (Bx w9 w.heap.size (.int .i64 m0) (.slice A0 xs0.length c0) ∧ Bx w9 w4.heap.size (.int .i64 rm) (.slice A_ow rl.length c_ow) ∧ Bx w9 w5.heap.size (.int .i64 m0) (.slice A_x0 xs0.length c_x0) ∧ Bx w9 w6.heap.size (.int .i64 rm) (.slice A_og rl.length c_og) ∧ OwnP w9 w3.heap.size w4.heap.size (.slice A_ow rl.length c_ow) rl ∧ OwnP w9 (w4.heap.size + 1) w5.heap.size (.slice A_x0 xs0.length c_x0) xs0 ∧ OwnP w9 (w5.heap.size + 1) w6.heap.size (.slice A_og rl.length c_og) rl ∧ Below w.heap.size w w9 ∧ w7.heap.size ≤ w9.heap.size) := ⟨(T1.out.1).keep hbB, (T1.out.2.1).keep hbB, (T1.out.2.2.1).keep hbB, (T1.out.2.2.2.1).keep hbB, (T1.out.2.2.2.2.1).keep hbB, (T1.out.2.2.2.2.2.1).keep hbB, (T1.out.2.2.2.2.2.2.1).keep hbB, (T1.out.2.2.2.2.2.2.2.1).trans (hbB.mono (Nat.le_trans (show w.heap.size ≤ w7.heap.size from by omega) (T1.out.2.2.2.2.2.2.2.2))), Nat.le_trans (T1.out.2.2.2.2.2.2.2.2) hbB.size⟩))
  have s9 : w7.heap.size ≤ w9.heap.size := T2.out.2.2.2.2.2.2.2.2
  have K9 : Hid (Below w.heap.size w w9) := T2.out.2.2.2.2.2.2.2.1
  replace b0 : Hid (Bx w9 w.heap.size (.int .i64 m0) (.slice A0 xs0.length c0)) := T2.out.1
  replace bw : Hid (Bx w9 w4.heap.size (.int .i64 rm) (.slice A_ow rl.length c_ow)) := T2.out.2.1
  replace bx0 : Hid (Bx w9 w5.heap.size (.int .i64 m0) (.slice A_x0 xs0.length c_x0)) := T2.out.2.2.1
  replace bg : Hid (Bx w9 w6.heap.size (.int .i64 rm) (.slice A_og rl.length c_og)) := T2.out.2.2.2.1
  replace ow : Hid (OwnP w9 w3.heap.size w4.heap.size (.slice A_ow rl.length c_ow) rl) := T2.out.2.2.2.2.1
  replace x0 : Hid (OwnP w9 (w4.heap.size + 1) w5.heap.size (.slice A_x0 xs0.length c_x0) xs0) := T2.out.2.2.2.2.2.1
  replace og : Hid (OwnP w9 (w5.heap.size + 1) w6.heap.size (.slice A_og rl.length c_og) rl) := T2.out.2.2.2.2.2.2.1
  clear T0 T1 T2 L0 o_t
  have b0_c := b0.out.2.1
  have b0_d := b0.out.2.2
  have b0_z := b0.out.1
  have bw_c := bw.out.2.1
  have bw_d := bw.out.2.2
  have bw_z := bw.out.1
  have bx0_c := bx0.out.2.1
  have bx0_d := bx0.out.2.2
  have bx0_z := bx0.out.1
  have bg_c := bg.out.2.1
  have bg_d := bg.out.2.2
  have bg_z := bg.out.1
  go_wp2_with fail
  refine (markPB_any _ (w4.heap.size + 1) w5.heap.size m0 _ xs0 (1) (x0.out.keep (by (repeat (first | assumption | exact Below.refl _ _ | refine Below.alloc ?_ (by first | omega | (simp; done) | (simp; omega)) _ | refine Below.setCell ?_ (by first | omega | (simp; done) | (simp; omega)) _ | refine below_drewN ?_ _)))) (by omega) (by omega) (by omega)).mono ?_
  rintro e w10 ⟨rfl, o_m, hg10⟩
  clear b0_c b0_d b0_z
  clear bw_c bw_d bw_z
  clear bx0_c bx0_d bx0_z
  clear bg_c bg_d bg_z
  have R : Within (w4.heap.size + 1) w5.heap.size w9 w10 := Within.behind (by (repeat (first | assumption | exact Below.refl _ _ | refine Below.alloc ?_ (by first | omega | (simp; done) | (simp; omega)) _ | refine Below.setCell ?_ (by first | omega | (simp; done) | (simp; omega)) _ | refine below_drewN ?_ _))) hg10
  have s10 : w9.heap.size ≤ w10.heap.size := R.2.2.2.1
  have K10 : Hid (Below w.heap.size w w10) := R.below K9.out (by omega) (by omega)
  replace b0 : Hid (Bx w10 w.heap.size (.int .i64 m0) (.slice A0 xs0.length c0)) := b0.out.within R (by omega)
  replace bw : Hid (Bx w10 w4.heap.size (.int .i64 rm) (.slice A_ow rl.length c_ow)) := bw.out.within R (by omega)
  replace bx0 : Hid (Bx w10 w5.heap.size (.int .i64 m0) (.slice A_x0 xs0.length c_x0)) := bx0.out.within R (by omega)
  replace bg : Hid (Bx w10 w6.heap.size (.int .i64 rm) (.slice A_og rl.length c_og)) := bg.out.within R (by omega)
  replace ow : Hid (OwnP w10 w3.heap.size w4.heap.size (.slice A_ow rl.length c_ow) rl) := ow.out.within R (by omega)
  replace og : Hid (OwnP w10 (w5.heap.size + 1) w6.heap.size (.slice A_og rl.length c_og) rl) := og.out.within R (by omega)
  clear R hg10
  replace x0 : Hid (OwnP w10 (w4.heap.size + 1) w5.heap.size (.slice A_x0 xs0.length c_x0) (mkP (1) xs0)) := o_m
  clear o_m
  have b0_c := b0.out.2.1
  have b0_d := b0.out.2.2
  have b0_z := b0.out.1
  have bw_c := bw.out.2.1
  have bw_d := bw.out.2.2
  have bw_z := bw.out.1
  have bx0_c := bx0.out.2.1
  have bx0_d := bx0.out.2.2
  have bx0_z := bx0.out.1
  have bg_c := bg.out.2.1
  have bg_d := bg.out.2.2
  have bg_z := bg.out.1
  go_wp2_with fail
  refine (eqP_any _ rm rm _ _ _ _ (og.out.keep (by (repeat (first | assumption | exact Below.refl _ _ | refine Below.alloc ?_ (by first | omega | (simp; done) | (simp; omega)) _ | refine Below.setCell ?_ (by first | omega | (simp; done) | (simp; omega)) _ | refine below_drewN ?_ _)))).rd (ow.out.keep (by (repeat (first | assumption | exact Below.refl _ _ | refine Below.alloc ?_ (by first | omega | (simp; done) | (simp; omega)) _ | refine Below.setCell ?_ (by first | omega | (simp; done) | (simp; omega)) _ | refine below_drewN ?_ _)))).rd).mono ?_
  rintro e w11 ⟨rfl, hb11⟩
  clear b0_c b0_d b0_z
  clear bw_c bw_d bw_z
  clear bx0_c bx0_d bx0_z
  clear bg_c bg_d bg_z
  have R : Below w10.heap.size w10 w11 := Below.trans (by (repeat (first | assumption | exact Below.refl _ _ | refine Below.alloc ?_ (by first | omega | (simp; done) | (simp; omega)) _ | refine Below.setCell ?_ (by first | omega | (simp; done) | (simp; omega)) _ | refine below_drewN ?_ _))) (hb11.mono (by first | exact Nat.le_refl _ | (simp; done) | (simp; omega)))
  have s11 : w10.heap.size ≤ w11.heap.size := R.size
  have K11 : Hid (Below w.heap.size w w11) := K10.out.trans (R.mono (by omega))
  replace b0 : Hid (Bx w11 w.heap.size (.int .i64 m0) (.slice A0 xs0.length c0)) := b0.out.keep R
  replace bw : Hid (Bx w11 w4.heap.size (.int .i64 rm) (.slice A_ow rl.length c_ow)) := bw.out.keep R
  replace bx0 : Hid (Bx w11 w5.heap.size (.int .i64 m0) (.slice A_x0 xs0.length c_x0)) := bx0.out.keep R
  replace bg : Hid (Bx w11 w6.heap.size (.int .i64 rm) (.slice A_og rl.length c_og)) := bg.out.keep R
  replace ow : Hid (OwnP w11 w3.heap.size w4.heap.size (.slice A_ow rl.length c_ow) rl) := ow.out.keep R
  replace x0 : Hid (OwnP w11 (w4.heap.size + 1) w5.heap.size (.slice A_x0 xs0.length c_x0) (mkP (1) xs0)) := x0.out.keep R
  replace og : Hid (OwnP w11 (w5.heap.size + 1) w6.heap.size (.slice A_og rl.length c_og) rl) := og.out.keep R
  clear R hb11
  have b0_c := b0.out.2.1
  have b0_d := b0.out.2.2
  have b0_z := b0.out.1
  have bw_c := bw.out.2.1
  have bw_d := bw.out.2.2
  have bw_z := bw.out.1
  have bx0_c := bx0.out.2.1
  have bx0_d := bx0.out.2.2
  have bx0_z := bx0.out.1
  have bg_c := bg.out.2.1
  have bg_d := bg.out.2.2
  have bg_z := bg.out.1
  go_wp2_with fail
  refine (markPB_any _ (w5.heap.size + 1) w6.heap.size rm _ rl (1) (og.out.keep (by (repeat (first | assumption | exact Below.refl _ _ | refine Below.alloc ?_ (by first | omega | (simp; done) | (simp; omega)) _ | refine Below.setCell ?_ (by first | omega | (simp; done) | (simp; omega)) _ | refine below_drewN ?_ _)))) (by omega) (by omega) (by omega)).mono ?_
  rintro e w12 ⟨rfl, o_m, hg12⟩
  clear b0_c b0_d b0_z
  clear bw_c bw_d bw_z
  clear bx0_c bx0_d bx0_z
  clear bg_c bg_d bg_z
  have R : Within (w5.heap.size + 1) w6.heap.size w11 w12 := Within.behind (by (repeat (first | assumption | exact Below.refl _ _ | refine Below.alloc ?_ (by first | omega | (simp; done) | (simp; omega)) _ | refine Below.setCell ?_ (by first | omega | (simp; done) | (simp; omega)) _ | refine below_drewN ?_ _))) hg12
  have s12 : w11.heap.size ≤ w12.heap.size := R.2.2.2.1
  have K12 : Hid (Below w.heap.size w w12) := R.below K11.out (by omega) (by omega)
  replace b0 : Hid (Bx w12 w.heap.size (.int .i64 m0) (.slice A0 xs0.length c0)) := b0.out.within R (by omega)
  replace bw : Hid (Bx w12 w4.heap.size (.int .i64 rm) (.slice A_ow rl.length c_ow)) := bw.out.within R (by omega)
  replace bx0 : Hid (Bx w12 w5.heap.size (.int .i64 m0) (.slice A_x0 xs0.length c_x0)) := bx0.out.within R (by omega)
  replace bg : Hid (Bx w12 w6.heap.size (.int .i64 rm) (.slice A_og rl.length c_og)) := bg.out.within R (by omega)
  replace ow : Hid (OwnP w12 w3.heap.size w4.heap.size (.slice A_ow rl.length c_ow) rl) := ow.out.within R (by omega)
  replace x0 : Hid (OwnP w12 (w4.heap.size + 1) w5.heap.size (.slice A_x0 xs0.length c_x0) (mkP (1) xs0)) := x0.out.within R (by omega)
  clear R hg12
  replace og : Hid (OwnP w12 (w5.heap.size + 1) w6.heap.size (.slice A_og rl.length c_og) (mkP (1) rl)) := o_m
  clear o_m
  have b0_c := b0.out.2.1
  have b0_d := b0.out.2.2
  have b0_z := b0.out.1
  have bw_c := bw.out.2.1
  have bw_d := bw.out.2.2
  have bw_z := bw.out.1
  have bx0_c := bx0.out.2.1
  have bx0_d := bx0.out.2.2
  have bx0_z := bx0.out.1
  have bg_c := bg.out.2.1
  have bg_d := bg.out.2.2
  have bg_z := bg.out.1
  go_wp2_with fail
  refine (heldPB_any _ (w5.heap.size + 1) w6.heap.size rm _ rl (1) (og.out.keep (by (repeat (first | assumption | exact Below.refl _ _ | refine Below.alloc ?_ (by first | omega | (simp; done) | (simp; omega)) _ | refine Below.setCell ?_ (by first | omega | (simp; done) | (simp; omega)) _ | refine below_drewN ?_ _)))) (by omega) (by omega) (by omega)).mono ?_
  rintro e w13 ⟨rfl, hb13⟩
  clear b0_c b0_d b0_z
  clear bw_c bw_d bw_z
  clear bx0_c bx0_d bx0_z
  clear bg_c bg_d bg_z
  have R : Below w12.heap.size w12 w13 := Below.trans (by (repeat (first | assumption | exact Below.refl _ _ | refine Below.alloc ?_ (by first | omega | (simp; done) | (simp; omega)) _ | refine Below.setCell ?_ (by first | omega | (simp; done) | (simp; omega)) _ | refine below_drewN ?_ _))) (hb13.mono (by first | exact Nat.le_refl _ | (simp; done) | (simp; omega)))
  have s13 : w12.heap.size ≤ w13.heap.size := R.size
  have K13 : Hid (Below w.heap.size w w13) := K12.out.trans (R.mono (by omega))
  replace b0 : Hid (Bx w13 w.heap.size (.int .i64 m0) (.slice A0 xs0.length c0)) := b0.out.keep R
  replace bw : Hid (Bx w13 w4.heap.size (.int .i64 rm) (.slice A_ow rl.length c_ow)) := bw.out.keep R
  replace bx0 : Hid (Bx w13 w5.heap.size (.int .i64 m0) (.slice A_x0 xs0.length c_x0)) := bx0.out.keep R
  replace bg : Hid (Bx w13 w6.heap.size (.int .i64 rm) (.slice A_og rl.length c_og)) := bg.out.keep R
  replace ow : Hid (OwnP w13 w3.heap.size w4.heap.size (.slice A_ow rl.length c_ow) rl) := ow.out.keep R
  replace x0 : Hid (OwnP w13 (w4.heap.size + 1) w5.heap.size (.slice A_x0 xs0.length c_x0) (mkP (1) xs0)) := x0.out.keep R
  replace og : Hid (OwnP w13 (w5.heap.size + 1) w6.heap.size (.slice A_og rl.length c_og) (mkP (1) rl)) := og.out.keep R
  clear R hb13
  have b0_c := b0.out.2.1
  have b0_d := b0.out.2.2
  have b0_z := b0.out.1
  have bw_c := bw.out.2.1
  have bw_d := bw.out.2.2
  have bw_z := bw.out.1
  have bx0_c := bx0.out.2.1
  have bx0_d := bx0.out.2.2
  have bx0_z := bx0.out.1
  have bg_c := bg.out.2.1
  have bg_d := bg.out.2.2
  have bg_z := bg.out.1
  go_wp2_with fail
  refine (toP_any _ m0 _ xs0 (hv0.below K13.out) (by omega)).mono ?_
  rintro e w14 ⟨A_y0, c_y0, rfl, o_y0, hb14⟩
  clear b0_c b0_d b0_z
  clear bw_c bw_d bw_z
  clear bx0_c bx0_d bx0_z
  clear bg_c bg_d bg_z
  have o_y0' := (o_y0).mono (show w13.heap.size ≤ _ from by first | exact Nat.le_refl _ | (simp; done) | (simp; omega)) (Nat.le_refl _)
  clear o_y0
  have R : Below w13.heap.size w13 w14 := Below.trans (by (repeat (first | assumption | exact Below.refl _ _ | refine Below.alloc ?_ (by first | omega | (simp; done) | (simp; omega)) _ | refine Below.setCell ?_ (by first | omega | (simp; done) | (simp; omega)) _ | refine below_drewN ?_ _))) (hb14.mono (by first | exact Nat.le_refl _ | (simp; done) | (simp; omega)))
  have s14 : w13.heap.size ≤ w14.heap.size := R.size
  have K14 : Hid (Below w.heap.size w w14) := K13.out.trans (R.mono (by omega))
  replace b0 : Hid (Bx w14 w.heap.size (.int .i64 m0) (.slice A0 xs0.length c0)) := b0.out.keep R
  replace bw : Hid (Bx w14 w4.heap.size (.int .i64 rm) (.slice A_ow rl.length c_ow)) := bw.out.keep R
  replace bx0 : Hid (Bx w14 w5.heap.size (.int .i64 m0) (.slice A_x0 xs0.length c_x0)) := bx0.out.keep R
  replace bg : Hid (Bx w14 w6.heap.size (.int .i64 rm) (.slice A_og rl.length c_og)) := bg.out.keep R
  replace ow : Hid (OwnP w14 w3.heap.size w4.heap.size (.slice A_ow rl.length c_ow) rl) := ow.out.keep R
  replace x0 : Hid (OwnP w14 (w4.heap.size + 1) w5.heap.size (.slice A_x0 xs0.length c_x0) (mkP (1) xs0)) := x0.out.keep R
  replace og : Hid (OwnP w14 (w5.heap.size + 1) w6.heap.size (.slice A_og rl.length c_og) (mkP (1) rl)) := og.out.keep R
  clear R hb14
  have y0 : Hid (OwnP w14 w13.heap.size w14.heap.size (.slice A_y0 xs0.length c_y0) xs0) := o_y0'
  clear o_y0'
  have b0_c := b0.out.2.1
  have b0_d := b0.out.2.2
  have b0_z := b0.out.1
  have bw_c := bw.out.2.1
  have bw_d := bw.out.2.2
  have bw_z := bw.out.1
  have bx0_c := bx0.out.2.1
  have bx0_d := bx0.out.2.2
  have bx0_z := bx0.out.1
  have bg_c := bg.out.2.1
  have bg_d := bg.out.2.2
  have bg_z := bg.out.1
  go_wp2_with fail
  refine (iCutPlaneR_any _ m0 (.slice A_y0 xs0.length c_y0) xs0 a1 w13.heap.size w14.heap.size (y0.out.keep (by (repeat (first | assumption | exact Below.refl _ _ | refine Below.alloc ?_ (by first | omega | (simp; done) | (simp; omega)) _ | refine Below.setCell ?_ (by first | omega | (simp; done) | (simp; omega)) _ | refine below_drewN ?_ _)))) (by omega)).mono ?_
  rintro e w15 h_r
  replace h_r := h_r.of HR
  obtain ⟨A_oh, c_oh, rfl, o_oh, hb15⟩ := h_r
  have o_oh' := (o_oh).mono (show w14.heap.size ≤ _ from by first | exact Nat.le_refl _ | (simp; done) | (simp; omega)) (Nat.le_refl _)
  clear o_oh
  clear b0_c b0_d b0_z
  clear bw_c bw_d bw_z
  clear bx0_c bx0_d bx0_z
  clear bg_c bg_d bg_z
  have R : Below w14.heap.size w14 w15 := Below.trans (by (repeat (first | assumption | exact Below.refl _ _ | refine Below.alloc ?_ (by first | omega | (simp; done) | (simp; omega)) _ | refine Below.setCell ?_ (by first | omega | (simp; done) | (simp; omega)) _ | refine below_drewN ?_ _))) (hb15.mono (by first | exact Nat.le_refl _ | (simp; done) | (simp; omega)))
  have s15 : w14.heap.size ≤ w15.heap.size := R.size
  have K15 : Hid (Below w.heap.size w w15) := K14.out.trans (R.mono (by omega))
  replace b0 : Hid (Bx w15 w.heap.size (.int .i64 m0) (.slice A0 xs0.length c0)) := b0.out.keep R
  replace bw : Hid (Bx w15 w4.heap.size (.int .i64 rm) (.slice A_ow rl.length c_ow)) := bw.out.keep R
  replace bx0 : Hid (Bx w15 w5.heap.size (.int .i64 m0) (.slice A_x0 xs0.length c_x0)) := bx0.out.keep R
  replace bg : Hid (Bx w15 w6.heap.size (.int .i64 rm) (.slice A_og rl.length c_og)) := bg.out.keep R
  replace ow : Hid (OwnP w15 w3.heap.size w4.heap.size (.slice A_ow rl.length c_ow) rl) := ow.out.keep R
  replace x0 : Hid (OwnP w15 (w4.heap.size + 1) w5.heap.size (.slice A_x0 xs0.length c_x0) (mkP (1) xs0)) := x0.out.keep R
  replace og : Hid (OwnP w15 (w5.heap.size + 1) w6.heap.size (.slice A_og rl.length c_og) (mkP (1) rl)) := og.out.keep R
  replace y0 : Hid (OwnP w15 w13.heap.size w14.heap.size (.slice A_y0 xs0.length c_y0) xs0) := y0.out.keep R
  clear R hb15
  have oh : Hid (OwnP w15 w14.heap.size w15.heap.size (.slice A_oh rl.length c_oh) rl) := o_oh'
  clear o_oh'
  have b0_c := b0.out.2.1
  have b0_d := b0.out.2.2
  have b0_z := b0.out.1
  have bw_c := bw.out.2.1
  have bw_d := bw.out.2.2
  have bw_z := bw.out.1
  have bx0_c := bx0.out.2.1
  have bx0_d := bx0.out.2.2
  have bx0_z := bx0.out.1
  have bg_c := bg.out.2.1
  have bg_d := bg.out.2.2
  have bg_z := bg.out.1
  go_wp2_with fail
  refine (eqP_any _ rm rm _ _ _ _ (oh.out.keep (by (repeat (first | assumption | exact Below.refl _ _ | refine Below.alloc ?_ (by first | omega | (simp; done) | (simp; omega)) _ | refine Below.setCell ?_ (by first | omega | (simp; done) | (simp; omega)) _ | refine below_drewN ?_ _)))).rd (ow.out.keep (by (repeat (first | assumption | exact Below.refl _ _ | refine Below.alloc ?_ (by first | omega | (simp; done) | (simp; omega)) _ | refine Below.setCell ?_ (by first | omega | (simp; done) | (simp; omega)) _ | refine below_drewN ?_ _)))).rd).mono ?_
  rintro e w16 ⟨rfl, hb16⟩
  clear b0_c b0_d b0_z
  clear bw_c bw_d bw_z
  clear bx0_c bx0_d bx0_z
  clear bg_c bg_d bg_z
  have R : Below w15.heap.size w15 w16 := Below.trans (by (repeat (first | assumption | exact Below.refl _ _ | refine Below.alloc ?_ (by first | omega | (simp; done) | (simp; omega)) _ | refine Below.setCell ?_ (by first | omega | (simp; done) | (simp; omega)) _ | refine below_drewN ?_ _))) (hb16.mono (by first | exact Nat.le_refl _ | (simp; done) | (simp; omega)))
  have s16 : w15.heap.size ≤ w16.heap.size := R.size
  have K16 : Hid (Below w.heap.size w w16) := K15.out.trans (R.mono (by omega))
  replace b0 : Hid (Bx w16 w.heap.size (.int .i64 m0) (.slice A0 xs0.length c0)) := b0.out.keep R
  replace bw : Hid (Bx w16 w4.heap.size (.int .i64 rm) (.slice A_ow rl.length c_ow)) := bw.out.keep R
  replace bx0 : Hid (Bx w16 w5.heap.size (.int .i64 m0) (.slice A_x0 xs0.length c_x0)) := bx0.out.keep R
  replace bg : Hid (Bx w16 w6.heap.size (.int .i64 rm) (.slice A_og rl.length c_og)) := bg.out.keep R
  replace ow : Hid (OwnP w16 w3.heap.size w4.heap.size (.slice A_ow rl.length c_ow) rl) := ow.out.keep R
  replace x0 : Hid (OwnP w16 (w4.heap.size + 1) w5.heap.size (.slice A_x0 xs0.length c_x0) (mkP (1) xs0)) := x0.out.keep R
  replace og : Hid (OwnP w16 (w5.heap.size + 1) w6.heap.size (.slice A_og rl.length c_og) (mkP (1) rl)) := og.out.keep R
  replace y0 : Hid (OwnP w16 w13.heap.size w14.heap.size (.slice A_y0 xs0.length c_y0) xs0) := y0.out.keep R
  replace oh : Hid (OwnP w16 w14.heap.size w15.heap.size (.slice A_oh rl.length c_oh) rl) := oh.out.keep R
  have bh : Hid (Bx w16 w15.heap.size (.int .i64 rm) (.slice A_oh rl.length c_oh)) := ⟨by have := hb16.size; simp at this; omega, by rw [hb16.cell (by first | (simp; done) | (simp; omega))]; simp, by rw [hb16.cell (by first | (simp; done) | (simp; omega))]; simp⟩
  clear R hb16
  have b0_c := b0.out.2.1
  have b0_d := b0.out.2.2
  have b0_z := b0.out.1
  have bw_c := bw.out.2.1
  have bw_d := bw.out.2.2
  have bw_z := bw.out.1
  have bx0_c := bx0.out.2.1
  have bx0_d := bx0.out.2.2
  have bx0_z := bx0.out.1
  have bg_c := bg.out.2.1
  have bg_d := bg.out.2.2
  have bg_z := bg.out.1
  have bh_c := bh.out.2.1
  have bh_d := bh.out.2.2
  have bh_z := bh.out.1
  go_wp2_with fail
  refine (heldPB_any _ (w5.heap.size + 1) w6.heap.size rm _ rl (1) (og.out.keep (by (repeat (first | assumption | exact Below.refl _ _ | refine Below.alloc ?_ (by first | omega | (simp; done) | (simp; omega)) _ | refine Below.setCell ?_ (by first | omega | (simp; done) | (simp; omega)) _ | refine below_drewN ?_ _)))) (by omega) (by omega) (by omega)).mono ?_
  rintro e w17 ⟨rfl, hb17⟩
  clear b0_c b0_d b0_z
  clear bw_c bw_d bw_z
  clear bx0_c bx0_d bx0_z
  clear bg_c bg_d bg_z
  clear bh_c bh_d bh_z
  have R : Below w16.heap.size w16 w17 := Below.trans (by (repeat (first | assumption | exact Below.refl _ _ | refine Below.alloc ?_ (by first | omega | (simp; done) | (simp; omega)) _ | refine Below.setCell ?_ (by first | omega | (simp; done) | (simp; omega)) _ | refine below_drewN ?_ _))) (hb17.mono (by first | exact Nat.le_refl _ | (simp; done) | (simp; omega)))
  have s17 : w16.heap.size ≤ w17.heap.size := R.size
  have K17 : Hid (Below w.heap.size w w17) := K16.out.trans (R.mono (by omega))
  replace b0 : Hid (Bx w17 w.heap.size (.int .i64 m0) (.slice A0 xs0.length c0)) := b0.out.keep R
  replace bw : Hid (Bx w17 w4.heap.size (.int .i64 rm) (.slice A_ow rl.length c_ow)) := bw.out.keep R
  replace bx0 : Hid (Bx w17 w5.heap.size (.int .i64 m0) (.slice A_x0 xs0.length c_x0)) := bx0.out.keep R
  replace bg : Hid (Bx w17 w6.heap.size (.int .i64 rm) (.slice A_og rl.length c_og)) := bg.out.keep R
  replace bh : Hid (Bx w17 w15.heap.size (.int .i64 rm) (.slice A_oh rl.length c_oh)) := bh.out.keep R
  replace ow : Hid (OwnP w17 w3.heap.size w4.heap.size (.slice A_ow rl.length c_ow) rl) := ow.out.keep R
  replace x0 : Hid (OwnP w17 (w4.heap.size + 1) w5.heap.size (.slice A_x0 xs0.length c_x0) (mkP (1) xs0)) := x0.out.keep R
  replace og : Hid (OwnP w17 (w5.heap.size + 1) w6.heap.size (.slice A_og rl.length c_og) (mkP (1) rl)) := og.out.keep R
  replace y0 : Hid (OwnP w17 w13.heap.size w14.heap.size (.slice A_y0 xs0.length c_y0) xs0) := y0.out.keep R
  replace oh : Hid (OwnP w17 w14.heap.size w15.heap.size (.slice A_oh rl.length c_oh) rl) := oh.out.keep R
  clear R hb17
  have b0_c := b0.out.2.1
  have b0_d := b0.out.2.2
  have b0_z := b0.out.1
  have bw_c := bw.out.2.1
  have bw_d := bw.out.2.2
  have bw_z := bw.out.1
  have bx0_c := bx0.out.2.1
  have bx0_d := bx0.out.2.2
  have bx0_z := bx0.out.1
  have bg_c := bg.out.2.1
  have bg_d := bg.out.2.2
  have bg_z := bg.out.1
  have bh_c := bh.out.2.1
  have bh_d := bh.out.2.2
  have bh_z := bh.out.1
  go_wp2
  go_ret
  exact ⟨rfl, K17.out⟩


end Go.Proofs.Ytenofgofcioffaa
