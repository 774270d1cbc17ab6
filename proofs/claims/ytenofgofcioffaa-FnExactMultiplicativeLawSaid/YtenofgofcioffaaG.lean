/- Contracts over this seat's translation. Condition: each contract's own. -/
import Derived.Test.YtenofgofcioffaaF
import Derived.ProofKit
import Derived.OpenShut
import Derived.Below
import Derived.ChangeSame
import Derived.Deep.Modes
import Derived.Lib.SmallJoins
import Derived.ChangeSlices
import Derived.WalkKit
import Derived.WalkSpells
import Derived.WalkLawsBesides
import Derived.Deep.QuietTactic
import Derived.BigQuiet
import Derived.Deep.RegionHeld3
import Derived.Deep.RegionWith
import Derived.Deep.RegionLaw
import Derived.Deep.AppendLies
import Derived.Laws.CopyOwn
import Derived.Deep.DeepCutAuto
import Derived.Deep.OwnRows
import Derived.Deep.LoopGhost
import Derived.Deep.DeepFit
import Derived.Deep.DeepMust
import Derived.Deep.Draws
import Derived.Deep.CutRange
import Derived.Maps.AppendAt
import Derived.Lib.Hide
import Derived.StillTailTactics
import Derived.Laws.MakeOwn
import Derived.Deep.Matrix
set_option linter.unusedVariables false
open Go Go.RowKit
namespace Go.Proofs.Ytenofgofcioffaa
/-! ### New tables of zeros -/
theorem stepAppendP {W : World} {ops : Array Oper} {o : Oper} {a : Act} {K : Act → World → Prop} {Q : Exit → Act → World → Prop} {E : Prop} (s x : Operand) (lo hi : Nat) (v u : Value) (xss : List (List Int)) (ys : List Int) (n b H : Nat)
    (hgd : o.guard = none) (ho : o.op = .call { callee := .builtin .append, args := #[s, x], argTypes := #[22, 22] })
    (hs : a.eval s = v) (hx : a.eval x = .slice (some ⟨b, 0, none⟩) 1 1) (hv : OwnP W lo hi v xss) (hn : xss.length = n) (hhi : hi ≤ W.heap.size) (hu : OwnI W lo u ys) (hu2 : ∀ g, u.ownBlock = some g → hi ≤ g)
    (hb : W.heap[b]? = some (.cells #[u] 40 (0, 0))) (hl : n ≤ 1000000000000) (hB : lo ≤ W.heap.size) (hH : W.heap.size = H)
    (h : ∀ g c w', OwnP w' lo w'.heap.size (.slice (some ⟨g, 0, none⟩) (n + 1) c) (xss ++ [ys]) → W.grownBy w' v.ownBlock → (v.ownBlock = some g ∨ g = H) → K (a.put o.dst (.slice (some ⟨g, 0, none⟩) (n + 1) c)) w') :
    if Region.wanted o (yielded ops a.tmps) = true then Oper.wp Try.prog o a W K Q else E := by
  subst hn
  obtain ⟨i0, hi0, hz0, hz1, hz2⟩ := info_parts T.infoRow
  obtain ⟨us, h1, h2, h3, h4, h5⟩ := hv
  obtain ⟨Au, cu, eu⟩ := hu.form
  refine step_append_lies W hgd s x 22 ho lo 40 i0 (.slice none 0 0) 1 24 Try.underlying22 hi0 hz0 hz1 hz2 rfl (by decide) v us.length us hs h2 ⟨b, 0, none⟩ 1 1 [u] hx rfl (World.news_of_block (cs := #[u]) hb) (fun q hq => by simp at hq; subst hq; subst eu; rfl) (by decide) (by unfold maxLen; omega) (by omega) hB H hH ?_
  intro g c w' n2 hg hat _
  have hbl : (Value.slice (some ⟨g, 0, none⟩) (us.length + 1) c).ownBlock = v.ownBlock ∨ (Value.slice (some ⟨g, 0, none⟩) (us.length + 1) c).ownBlock = some W.heap.size := by
    rcases hat with h | h
    · exact .inl (by rw [h]; rfl)
    · exact .inr (by rw [h, hH]; rfl)
  have ho' := OwnP.push h1 h2 h3 h4 h5 hhi hu hu2 n2 hg hbl
  rw [h1] at ho' ⊢
  exact h g c w' ho' hg hat
theorem ownP_block_ge {w : World} {lo hi g : Nat} {v : Value} {xss : List (List Int)} (h : OwnP w lo hi v xss) (hg : v.ownBlock = some g) : lo ≤ g := by
  obtain ⟨us, _, h2, _⟩ := h
  exact (ownsRow_block_ge h2 hg).1
theorem below_grownP {B : Nat} {w0 w w' : World} {v : Value} (h : Below B w0 w) (hB : B ≤ w.heap.size) (hg : w.grownBy w' v.ownBlock) (hv : ∀ g, v.ownBlock = some g → B ≤ g) : Below B w0 w' := h.grown hg hB fun b hb => hv b hb
theorem Bf.grown {w w' : World} {b : Nat} {x y : Value} {row : Option Nat} (h : Bf w b x y) (R : w.grownBy w' row) (hne : some b ≠ row) : Bf w' b x y := by
  have e : w'.heap[b]? = w.heap[b]? := R.block b h.1.1 hne
  exact ⟨⟨Nat.lt_of_lt_of_le h.1.1 R.size, (World.cell?_of_block (a := ⟨b, 0, none⟩) e).trans h.1.2.1, (World.cell?_of_block (a := ⟨b, 1, none⟩) e).trans h.1.2.2⟩, (World.frozen?_of_block (a := ⟨b, 0, none⟩) e).trans h.2.1, (World.frozen?_of_block (a := ⟨b, 1, none⟩) e).trans h.2.2⟩
theorem Bf.set1 {w : World} {b : Nat} {x y : Value} (h : Bf w b x y) (y' : Value) : Bf (w.setCell ⟨b, 1, none⟩ y') b x y' := by
  obtain ⟨⟨h1, h2, h3⟩, h4, h5⟩ := h
  exact ⟨⟨by simpa [World.setCell] using h1, (World.cell?_setCell_other _ _ _ _ (by simp)).trans h2, World.cell?_setCell_same _ _ _ h3⟩, by simp [h4], by simp [h5]⟩
def zt (n k : Nat) : List (List Int) := (List.range k).map fun i => List.replicate (n - i) (0 : Int)
theorem length_zt (n k : Nat) : (zt n k).length = k := by simp [zt]
theorem zt_succ (n k : Nat) : zt n (k + 1) = zt n k ++ [List.replicate (n - k) 0] := by simp [zt, List.range_succ]
theorem zt_all (n : Nat) : zt n n = tab n fun _ _ => 0 := by
  unfold zt tab
  apply List.map_congr_left
  intro i _
  exact replicate_lst _
theorem made_own (w : World) (n : Nat) (hn : n ≤ 1000000000000) (lo : Nat) (hlo : lo ≤ w.heap.size) : OwnI (w.alloc (.cells (madeCells #[Value.int .i64 0] n) 2)) lo (.slice (some ⟨w.heap.size, 0, none⟩) n n) (List.replicate n 0) := by
  have h : RowI (w.alloc (.cells (madeCells #[Value.int .i64 0] n) 2)) w.heap.size n (List.replicate n 0) := by
    refine ⟨by simp, by unfold maxLen; omega, _, heap_alloc_new w _, size_madeCells _ _, ?_⟩
    rw [madeCells_zero, List.take_of_length_le (by simp)]
  exact h.own' hlo (by simp)
set_option maxRecDepth 8000 in
set_option maxHeartbeats 1000000 in
theorem l03Zero_any (w : World) (d : Int) (n : Nat) (hd : d + 1 = (n : Int)) (hn : n ≤ 1000000) : Calls Try.prog 61 #[.int .i64 d] w (NewP w (tab n fun _ _ => 0)) := by
  have hd2 : d = (n : Int) - 1 := by omega
  subst hd2
  clear hd
  go_enter Try.func61, Try.ntmps61
  go_wp2
  go_loopw [3, 4] (fun s i wr => ∃ (k : Nat) (A : Option Addr) (c : Nat), k ≤ n ∧ s = .slice A k c ∧ i = .int .i64 k ∧ Hid (OwnP wr w.heap.size wr.heap.size (.slice A k c) (zt n k)) ∧ Hid (Below w.heap.size w wr)) (fun _ i _ => n + 1 - (intOf i).toNat)
  case atStart => exact ⟨0, some ⟨w.heap.size, 0, none⟩, 0, Nat.zero_le _, rfl, rfl, (by unfold Hid; simpa [zt] using OwnP.lit0 w (Nat.le_refl _)), by unfold Hid; (repeat (first | assumption | exact Below.refl _ _ | refine Below.alloc ?_ (by first | omega | (simp; done) | (simp; omega)) _ | refine Below.setCell ?_ (by first | omega | (simp; done) | (simp; omega)) _ | refine below_drewN ?_ _))⟩
  case round =>
    obtain ⟨k, A, c, hk, rfl, rfl, HO, HB⟩ := hrel
    have hz := HB.out.size
    by_cases hlt : k < n
    · have hk1 : (k : Int) ≤ (n : Int) - 1 := by omega
      obtain ⟨r, hr⟩ : ∃ r, r = n - k := ⟨_, rfl⟩
      have hr2 : k + r ≤ n ∧ n ≤ k + r := by omega
      have HS : Hid (zt n (k + 1) = zt n k ++ [List.replicate r 0]) := by rw [hr]; exact zt_succ n k
      clear hr
      have v1 : (n : Int) - 1 - (k : Int) + 1 = (r : Int) := by omega
      go_wp2_with (first | (at_make; refine makeI _ r (by rfl) (by rfl) (by rfl) (by omega) ?_; intro w0 hr0 hb0 hs0; have HS0 := Lib.hid hs0; have HR := Lib.hid hr0; have HB0 := Lib.hid hb0; have hsz : w0.heap.size ≤ wr.heap.size + 1 ∧ wr.heap.size + 1 ≤ w0.heap.size := (by rw [hs0]; omega); clear hs0 hr0 hb0) | (at_builtin; refine appendP _ _ w.heap.size wr.heap.size (.slice A k c) (.slice (some ⟨wr.heap.size, 0, none⟩) r r) (zt n k) (List.replicate r 0) w0.heap.size (by rfl) (by rfl) (by rfl) (by rfl) ((HO.out.keep HB0.out).alloc _) (by simp; omega) ((HR.out.alloc _).own' hz (by simp)) (by intro g hg; simp [Value.ownBlock] at hg; omega) (heap_alloc_new w0 _) (by rw [length_zt]; omega) (by simp; omega) ?_; intro A2 c2 w2 ho2 hg2; rw [length_zt] at ho2 ⊢))
      go_roundw
      case rel => exact ⟨k + 1, A2, c2, by omega, rfl, by go_num, by rw [HS.out]; exact ho2, by unfold Hid; exact below_grownP ((HB.out.trans (HB0.out.mono hz)).alloc (by omega) _) (by simp; omega) hg2 (fun g hg => (ownP_block_ge HO.out hg))⟩
      case measure => simp [intOf]; omega
    · obtain rfl : k = n := by omega
      have hd5 : decide ((k : Int) ≤ (k : Int) - 1) = false := by simp; omega
      have HZ := Lib.hid (zt_all k)
      have HL : Hid ((tab k fun _ _ => 0).length = k) := length_tab _ _
      go_wp2
      go_ret
      exact ⟨A, c, by rw [HL.out]; rfl, by rw [HL.out, ← HZ.out]; exact HO.out, HB.out⟩
theorem heap_two (w : World) (o1 o2 : Obj) : ((w.alloc o1).alloc o2).drew.heap[w.heap.size + 1]? = some o2 := by
  have h : ((w.alloc o1).alloc o2).heap[w.heap.size + 1]? = some o2 := by have := heap_alloc_new (w.alloc o1) o2; simpa using this
  exact h
theorem make64 (n : Nat) (hn : n ≤ 1000000000000) : ∀ w : World, (Instr.makeSlice 40 (.int .i64 (n : Int)) (.int .i64 (n : Int))).run Try.prog w = .ok (.slice (some ⟨w.heap.size, 0, none⟩) n n) (w.alloc (.cells (madeCells #[Value.int .i64 0] n) 2)) :=
  run_make_row' 40 2 (.int .i64 0) 8 Try.underlying40 T.info64 rfl .i64 .i64 n (by omega) (by omega)
set_option maxRecDepth 8000 in
set_option maxHeartbeats 2000000 in
theorem emptyPlane_any (w : World) (m d : Int) (n : Nat) (hd : d + 1 = (n : Int)) (hn : n ≤ 1000000) : Calls Try.prog 95 #[.int .i64 m, .int .i64 d] w (NewPl w m (tab n fun _ _ => 0)) := by
  have hd2 : d = (n : Int) - 1 := by omega
  subst hd2
  clear hd
  go_enter Try.func95, Try.ntmps95
  go_wp2
  go_loopw [11] (fun i wr => ∃ (k : Nat) (A : Option Addr) (c : Nat), k ≤ n ∧ i = .int .i64 k ∧ Hid (OwnP wr (w.heap.size + 2) wr.heap.size (.slice A k c) (zt n k)) ∧ Hid (Bf wr (w.heap.size + 1) (.int .i64 m) (.slice A k c)) ∧ Hid (Bf wr w.heap.size (.int .i64 0) (.slice none 0 0)) ∧ Hid (Below w.heap.size w wr)) (fun i _ => n + 1 - (intOf i).toNat)
  case atStart => exact ⟨0, none, 0, Nat.zero_le _, rfl, (by unfold Hid; simpa [zt] using OwnP.nil_ _ _ _), Bf.q2, (Bf.q1 (w := w) (t := 27)).alloc _, by unfold Hid; (repeat (first | assumption | exact Below.refl _ _ | refine Below.alloc ?_ (by first | omega | (simp; done) | (simp; omega)) _ | refine Below.setCell ?_ (by first | omega | (simp; done) | (simp; omega)) _ | refine below_drewN ?_ _))⟩
  case round =>
    obtain ⟨k, A, c, hk, rfl, HO, HP, HQ, HB⟩ := hrel
    have hz := HB.out.size
    have hzP := HP.out.1.1
    have p2 := HP.out.1.2.2
    by_cases hlt : k < n
    · obtain ⟨r, hr⟩ : ∃ r, r = n - k := ⟨_, rfl⟩
      have hr2 : k + r ≤ n ∧ n ≤ k + r := by omega
      have HS : Hid (zt n (k + 1) = zt n k ++ [List.replicate r 0]) := by rw [hr]; exact zt_succ n k
      clear hr
      have hmk := make64 r (by omega)
      have v0 : IntKind.i64.wrap (n : Int) = (n : Int) := IntWalk.i64_in _ (by omega)
      have v1 : IntKind.i64.wrap ((n : Int) - (k : Int)) = (r : Int) := by rw [show (n : Int) - (k : Int) = (r : Int) by omega]; exact IntWalk.i64_in _ (by omega)
      have hne : some (w.heap.size + 1) ≠ (Value.slice A k c).ownBlock := fun e => by have := ownP_block_ge HO.out e.symm; omega
      have hne2 : some w.heap.size ≠ (Value.slice A k c).ownBlock := fun e => by have := ownP_block_ge HO.out e.symm; omega
      have hm1 := (HP.out.alloc (.cells (madeCells #[Value.int .i64 0] r) 2)).1.2.2
      have hm2 := ((HP.out.alloc (.cells (madeCells #[Value.int .i64 0] r) 2)).alloc (.cells #[.slice (some ⟨wr.heap.size, 0, none⟩) r r] 40)).1.2.2
      go_wp2
      go_region_law (refine stepAppendP _ _ (w.heap.size + 2) wr.heap.size (.slice A k c) (.slice (some ⟨wr.heap.size, 0, none⟩) r r) (zt n k) (List.replicate r 0) k (wr.heap.size + 1) (wr.heap.size + 2) (by rfl) (by rfl) (by rfl) (by rfl) (((HO.out.alloc _).alloc _).drewN 1) (length_zt _ _) (by simp; omega) (((made_own wr r (by omega) (w.heap.size + 2) (by omega)).alloc _).drewN 1) (by intro g hg; simp [Value.ownBlock] at hg; omega) (heap_two _ _ _) (by omega) (by simp; omega) (by simp) ?_; intro gg cap w9 ho9 hg9 hat9; have O9 : Bf w9 (w.heap.size + 1) (.int .i64 m) (.slice A k c) := (((HP.out.alloc _).alloc _).drewN 1).grown hg9 hne; have Q9 : Bf w9 w.heap.size (.int .i64 0) (.slice none 0 0) := (((HQ.out.alloc _).alloc _).drewN 1).grown hg9 hne2; have o9a := O9.1.2.1; have o9b := O9.1.2.2; have o9c := O9.2.1; have o9d := O9.2.2)
      all_goals
        clear v0 v1 hmk hm1 hm2
        go_wp2
        go_roundw
        case rel =>
          refine ⟨k + 1, some ⟨gg, 0, none⟩, cap, by omega, by go_num, ?_, O9.set1 _, Q9.setCell (by simp) _, ?_⟩
          · unfold Hid
            rw [HS.out]
            have h9 := ho9.far (p := ⟨w.heap.size + 1, 1, none⟩) (.inl (by simp)) (.slice (some ⟨gg, 0, none⟩) (k + 1) cap)
            simpa [World.setCell] using h9
          · refine Below.setCell ?_ (by simp) _
            exact below_grownP (below_drew ((HB.out.alloc hz _).alloc (by simp; omega) _)) (by simp; omega) hg9 (fun g hg => by have := ownP_block_ge HO.out hg; omega)
        case measure => simp [intOf]; omega
    · obtain rfl : k = n := by omega
      have hd5 : decide ((k : Int) < (k : Int)) = false := by simp
      have HZ := Lib.hid (zt_all k)
      have HL : Hid ((tab k fun _ _ => 0).length = k) := length_tab _ _
      have p1 := HP.out.1.2.1
      have q1 := HQ.out.1.2.1
      have q2 := HQ.out.1.2.2
      have q3 := HQ.out.2.1
      have q4 := HQ.out.2.2
      go_wp2
      refine bodyPost_ret (v := .agg #[.int .i64 m, .slice A k c]) (by simp [results, Try.results95, go_sem, q1, q2]) rfl ⟨A, c, by rw [HL.out], ?_, ?_⟩
      · rw [HL.out, ← HZ.out]
        have h9 := ((HO.out.far (p := ⟨w.heap.size, 0, none⟩) (.inl (by simp)) (.int .i64 m)).far (p := ⟨w.heap.size, 1, none⟩) (.inl (by simp)) (.slice A k c)).mono (show w.heap.size ≤ w.heap.size + 2 by omega) (Nat.le_refl _)
        simpa [World.setCell] using h9
      · exact (HB.out.setCell (by simp) _).setCell (by simp) _

/-! ### Planes of the program: a number for each coefficient -/
theorem OwnP.rowW {w : World} {lo hi : Nat} {xss : List (List Int)} {g n c : Nat} (h : OwnP w lo hi (.slice (some ⟨g, 0, none⟩) n c) xss) {i : Nat} (hi' : i < xss.length) {A : Option Addr} {l c' : Nat} (hc : w.cell? ⟨g, i, none⟩ = some (.slice A l c')) :
    l = (xss.getD i []).length ∧ l ≤ c' ∧ c' ≤ 2 ^ 63 - 1 ∧ ∀ j, j < l → ∃ gr, A = some ⟨gr, 0, none⟩ ∧ gr ≠ g ∧ lo ≤ gr ∧ gr < hi ∧ gr < w.heap.size ∧ w.cell? ⟨gr, j, none⟩ = some (.int .i64 (co2 xss i j)) ∧ w.frozen? ⟨gr, j, none⟩ = false ∧
      ∀ y : Int, OwnP (w.setCell ⟨gr, j, none⟩ (.int .i64 y)) lo hi (.slice (some ⟨g, 0, none⟩) n c) (xss.set i ((xss.getD i []).set j y)) := by
  obtain ⟨g', c1, Ar, cr, e, h1, h2, h3, hcell, hfr, hown, hblk, hset⟩ := h.row hi'
  simp only [Value.slice.injEq, Option.some.injEq, Addr.mk.injEq] at e
  obtain ⟨⟨rfl, _⟩, _, rfl⟩ := e
  rw [hcell] at hc
  simp only [Option.some.injEq, Value.slice.injEq] at hc
  obtain ⟨rfl, rfl, rfl⟩ := hc
  obtain ⟨A2, cp2, e2, hc3, hc4, hA2⟩ := hown.open_
  simp only [Value.slice.injEq] at e2
  obtain ⟨e3, _, e4⟩ := e2
  subst e3 e4
  refine ⟨rfl, hc3, hc4, fun j hj => ?_⟩
  obtain ⟨gr, hgr, h4, h5, h6, h7⟩ := hA2 j hj
  subst hgr
  have h8 := hblk gr rfl
  refine ⟨gr, rfl, h8.2, h4, h8.1, h5, h6, h7, fun y => ?_⟩
  refine hset _ _ ?_ (grownBy_setCell w ⟨gr, j, none⟩ _)
  rcases hown.row with ⟨h9, _⟩ | ⟨g9, c9, e9, h9, hr9⟩
  · simp at h9
  · simp only [Value.slice.injEq, Option.some.injEq, Addr.mk.injEq] at e9
    obtain ⟨⟨rfl, _⟩, _, rfl⟩ := e9
    exact (hr9.set_ j y).own' h9 (by simp)
/-- The function g, with what it has captured, computes p at the places of a table, in every world in which all that lay in w lies unturned. -/
def Pred2 (w : World) (g : FuncId) (caps : Array Value) (n : Nat) (p : Nat → Nat → Int) : Prop :=
  (∀ args w, (callFunc g args).run Try.prog w = .ok (.enter g args) w) ∧ ∀ (W : World) (i j : Nat), Below w.heap.size w W → i + j < n → Calls Try.prog g (#[.int .i64 (i : Int), .int .i64 (j : Int)] ++ caps) W fun e W' => e = .returned (.int .i64 (p i j)) ∧ ∃ k, W' = W.drewN k
/-- A table in blocks from B on, away from the box bo. -/
def OwnPx (wx : World) (B bo : Nat) (v : Value) (xss : List (List Int)) : Prop := ∃ lo hi, B ≤ lo ∧ (bo < lo ∨ hi ≤ bo) ∧ hi ≤ wx.heap.size ∧ OwnP wx lo hi v xss
theorem OwnPx.of {wx : World} {B bo lo hi : Nat} {v : Value} {xss : List (List Int)} (h : OwnP wx lo hi v xss) (h1 : B ≤ lo) (h2 : bo < lo ∨ hi ≤ bo) (h3 : hi ≤ wx.heap.size) : OwnPx wx B bo v xss := ⟨lo, hi, h1, h2, h3, h⟩
set_option maxRecDepth 8000 in
set_option maxHeartbeats 4000000 in
theorem mapped_any (w : World) (m : Int) (v : Value) (xss : List (List Int)) (n : Nat) (lo0 hi0 : Nat) (hv : OwnP w lo0 hi0 v xss) (hx : xss.length = n) (hm : 2 ≤ m) (hm' : m ≤ 1000000000000000) (hn1 : 1 ≤ n) (hn : n ≤ 1000) (g0 : FuncId) (caps : Array Value) (p : Nat → Nat → Int) (hp : Pred2 w g0 caps n p) (zss : List (List Int)) (hz : (tab n fun i j => p i j % m) = zss) :
    Calls Try.prog 96 #[.agg #[.int .i64 m, v], .func (.func g0) #[] caps] w (NewPl w m zss) := by
  obtain ⟨A, cp, rfl, _, _⟩ := hv.form
  rw [hx] at *
  clear hv
  have HX := Lib.hid hx
  have HZ := Lib.hid hz
  have HPR := Lib.hid hp
  have eg := hp.1
  clear hx hp hz
  go_enter Try.func96, Try.ntmps96
  go_upto_region 1 with fail
  go_cut [5] from 9 to 14 (fun s wx => ∃ (bo : Nat) (A' : Option Addr) (c' : Nat), s = .pointer (some ⟨bo, 0, none⟩) ∧ w.heap.size + 2 ≤ bo ∧ bo < wx.heap.size ∧ Hid (Bf wx bo (.int .i64 m) (.slice A' n c')) ∧ Hid (OwnPx wx (w.heap.size + 2) bo (.slice A' n c') (tab n fun _ _ => 0)) ∧ Hid (Bf wx w.heap.size (.int .i64 m) (.slice A n cp)) ∧ Hid (Bf wx (w.heap.size + 1) (.int .i64 0) (.slice none 0 0)) ∧ Hid (Below w.heap.size w wx))
  case first =>
    go_region_held3 (fun w' => w'.cell? ⟨w.heap.size, 0, none⟩ = some (.int .i64 m) ∧ w'.cell? ⟨w.heap.size, 1, none⟩ = some (.slice A n cp))
      (first | exact ⟨p2a, p2b⟩ | exact ⟨p1a, p1b⟩ | go_keep | (refine (fun (h : Bf _ w.heap.size (.int .i64 m) (.slice A n cp)) => ⟨h.1.2.1, h.1.2.2⟩) ((Bf.alloc1 w _ _ 27).keep ?_); (repeat (first | assumption | exact Below.refl _ _ | (refine Below.alloc ?_ ?_ _; rotate_left; (focus (first | exact Nat.le_refl _ | omega | (simp; done) | (simp; omega)))) | (refine Below.setCell ?_ ?_ _; rotate_left; (focus (first | exact Nat.le_refl _ | omega | (simp; done) | (simp; omega)))) | refine below_drew ?_ | refine below_drewN ?_ _ | (refine Below.trans ?_ (Below.mono hb2 ?_); rotate_left; (focus (first | exact Nat.le_refl _ | omega | (simp; done) | (simp; omega)))) | (refine Below.trans ?_ (Below.mono hb1 ?_); rotate_left; (focus (first | exact Nat.le_refl _ | omega | (simp; done) | (simp; omega))))))))
      (first | (go_at_call 54; refine (pDegree_any m A n cp _ (by omega)).mono ?_; rintro e w1 ⟨rfl, hb1⟩; have P1 : Bf w1 w.heap.size (.int .i64 m) (.slice A n cp) := ((Bf.alloc1 w _ _ 27).keep (by (repeat (first | assumption | exact Below.refl _ _ | (refine Below.alloc ?_ ?_ _; rotate_left; (focus (first | exact Nat.le_refl _ | omega | (simp; done) | (simp; omega)))) | (refine Below.setCell ?_ ?_ _; rotate_left; (focus (first | exact Nat.le_refl _ | omega | (simp; done) | (simp; omega)))) | refine below_drew ?_ | refine below_drewN ?_ _ | (refine Below.trans ?_ (Below.mono hb1 ?_); rotate_left; (focus (first | exact Nat.le_refl _ | omega | (simp; done) | (simp; omega)))))))); have p1a := P1.1.2.1; have p1b := P1.1.2.2; obtain ⟨hc1, hf1⟩ := bcell hb1; have z1 := hb1.size; (try simp at z1); have z1p : w.heap.size < w1.heap.size := (by omega); (first | (have y1 : w.heap.size + 2 < w1.heap.size := (by omega)) | skip)) | (go_at_call 95; refine (emptyPlane_any _ m _ n (by omega) (by omega)).mono ?_; rintro e w2 ⟨A9, c9, rfl, hr2, hb2⟩; rw [length_tab] at hr2 ⊢; have P2 : Bf w2 w.heap.size (.int .i64 m) (.slice A n cp) := ((Bf.alloc1 w _ _ 27).keep (by (repeat (first | assumption | exact Below.refl _ _ | (refine Below.alloc ?_ ?_ _; rotate_left; (focus (first | exact Nat.le_refl _ | omega | (simp; done) | (simp; omega)))) | (refine Below.setCell ?_ ?_ _; rotate_left; (focus (first | exact Nat.le_refl _ | omega | (simp; done) | (simp; omega)))) | refine below_drew ?_ | refine below_drewN ?_ _ | (refine Below.trans ?_ (Below.mono hb2 ?_); rotate_left; (focus (first | exact Nat.le_refl _ | omega | (simp; done) | (simp; omega)))) | (refine Below.trans ?_ (Below.mono hb1 ?_); rotate_left; (focus (first | exact Nat.le_refl _ | omega | (simp; done) | (simp; omega)))))))); have p2a := P2.1.2.1; have p2b := P2.1.2.2; obtain ⟨hc2, hf2⟩ := bcell hb2; have z2 := hb2.size; (try simp at z2); have z2p : w.heap.size < w2.heap.size := (by omega)))
    all_goals
      go_wp2_with fail
      go_meet
      have KK : Hid (Below w.heap.size w w2) := by (repeat (first | assumption | exact Below.refl _ _ | (refine Below.alloc ?_ ?_ _; rotate_left; (focus (first | exact Nat.le_refl _ | omega | (simp; done) | (simp; omega)))) | (refine Below.setCell ?_ ?_ _; rotate_left; (focus (first | exact Nat.le_refl _ | omega | (simp; done) | (simp; omega)))) | refine below_drew ?_ | refine below_drewN ?_ _ | (refine Below.trans ?_ (Below.mono hb2 ?_); rotate_left; (focus (first | exact Nat.le_refl _ | omega | (simp; done) | (simp; omega)))) | (refine Below.trans ?_ (Below.mono hb1 ?_); rotate_left; (focus (first | exact Nat.le_refl _ | omega | (simp; done) | (simp; omega))))))
      refine ⟨_, A9, c9, rfl, ?_, ?_, ?_, ?_, ?_, ?_, ?_⟩
      · first | omega | (simp; done) | (simp; omega)
      · first | omega | (simp; done) | (simp; omega) | (simp [World.setCell]; omega)
      · unfold Hid
        first | exact Bf.alloc1 w2 _ _ _ | exact ((Bf.alloc1 w1 _ _ _).keep hb2).store2 | exact (((Bf.q3 (w := w)).keep (below_undrew hb1)).keep hb2).store2
      · unfold Hid
        first | (refine OwnPx.of (hr2.alloc _) ?_ ?_ ?_ <;> (first | omega | (simp; done) | (simp; omega) | (right; omega) | (right; simp; done) | (right; simp; omega) | (left; omega) | (left; simp; done) | (left; simp; omega) | (simp [World.setCell]; done) | (simp [World.setCell]; omega)); done) | (refine OwnPx.of ((hr2.far ?_ _).far ?_ _) ?_ ?_ ?_ <;> (first | omega | (simp; done) | (simp; omega) | (right; omega) | (right; simp; done) | (right; simp; omega) | (left; omega) | (left; simp; done) | (left; simp; omega) | (simp [World.setCell]; done) | (simp [World.setCell]; omega)); done)
      · exact (Bf.q1 (w := w) (t := 27)).keep (by (repeat (first | assumption | exact Below.refl _ _ | (refine Below.alloc ?_ ?_ _; rotate_left; (focus (first | exact Nat.le_refl _ | omega | (simp; done) | (simp; omega)))) | (refine Below.setCell ?_ ?_ _; rotate_left; (focus (first | exact Nat.le_refl _ | omega | (simp; done) | (simp; omega)))) | refine below_drew ?_ | refine below_drewN ?_ _ | (refine Below.trans ?_ (Below.mono hb2 ?_); rotate_left; (focus (first | exact Nat.le_refl _ | omega | (simp; done) | (simp; omega)))) | (refine Below.trans ?_ (Below.mono hb1 ?_); rotate_left; (focus (first | exact Nat.le_refl _ | omega | (simp; done) | (simp; omega)))))))
      · exact (Bf.q2 (w := w) (t := 27) (t' := 27)).keep (by (repeat (first | assumption | exact Below.refl _ _ | (refine Below.alloc ?_ ?_ _; rotate_left; (focus (first | exact Nat.le_refl _ | omega | (simp; done) | (simp; omega)))) | (refine Below.setCell ?_ ?_ _; rotate_left; (focus (first | exact Nat.le_refl _ | omega | (simp; done) | (simp; omega)))) | refine below_drew ?_ | refine below_drewN ?_ _ | (refine Below.trans ?_ (Below.mono hb2 ?_); rotate_left; (focus (first | exact Nat.le_refl _ | omega | (simp; done) | (simp; omega)))) | (refine Below.trans ?_ (Below.mono hb1 ?_); rotate_left; (focus (first | exact Nat.le_refl _ | omega | (simp; done) | (simp; omega)))))))
      · (repeat (first | assumption | exact Below.refl _ _ | (refine Below.alloc ?_ ?_ _; rotate_left; (focus (first | exact Nat.le_refl _ | omega | (simp; done) | (simp; omega)))) | (refine Below.setCell ?_ ?_ _; rotate_left; (focus (first | exact Nat.le_refl _ | omega | (simp; done) | (simp; omega)))) | refine below_drew ?_ | refine below_drewN ?_ _ | (refine Below.trans ?_ (Below.mono hb2 ?_); rotate_left; (focus (first | exact Nat.le_refl _ | omega | (simp; done) | (simp; omega)))) | (refine Below.trans ?_ (Below.mono hb1 ?_); rotate_left; (focus (first | exact Nat.le_refl _ | omega | (simp; done) | (simp; omega))))))
  case rest =>
    obtain ⟨bo, A', c', rfl, hbo1, hbo2, HO, HT, HP, HQ, HB⟩ := hcut
    obtain ⟨lo, hi, hlo, hbo3, hhi, ht⟩ := HT.out
    obtain ⟨g, c2, _, _, e0, hg1, hg2, hg3, _⟩ := ht.row (k := 0) (by rw [length_tab]; omega)
    rw [length_tab] at e0
    simp only [Value.slice.injEq] at e0
    obtain ⟨rfl, _, rfl⟩ := e0
    rw [fil2_zero (fun i j => p i j % m)] at ht
    have HT2 := Lib.hid ht
    have HZL : Hid (zss.length = n) := by unfold Hid; rw [← HZ.out, length_tab]
    have o1 := HO.out.1.2.1
    have o2 := HO.out.1.2.2
    clear ht HT
    go_wp2
    go_loopw [17] (fun i wr => ∃ k : Nat, k ≤ n ∧ i = .int .i64 k ∧ Hid (Bf wr bo (.int .i64 m) (.slice (some ⟨g, 0, none⟩) n c')) ∧ Hid (OwnP wr lo hi (.slice (some ⟨g, 0, none⟩) n c') (tab n (fil2 (fun i j => p i j % m) k 0))) ∧ Hid (Bf wr w.heap.size (.int .i64 m) (.slice A n cp)) ∧ Hid (Bf wr (w.heap.size + 1) (.int .i64 0) (.slice none 0 0)) ∧ Hid (Below w.heap.size w wr)) (fun i _ => n - (intOf i).toNat)
    case atStart => exact ⟨0, Nat.zero_le _, rfl, HO, HT2, HP, HQ, HB⟩
    case round =>
      clear HO HT2 HP HQ HB o1 o2
      obtain ⟨k, hk, rfl, HO, HT, HP, HQ, HB⟩ := hrel
      have o1 := HO.out.1.2.1
      have o2 := HO.out.1.2.2
      have q1 := HQ.out.1.2.1
      have q2 := HQ.out.1.2.2
      have q3 := HQ.out.2.1
      have q4 := HQ.out.2.2
      by_cases hlt : k < n
      · obtain ⟨Ar, cr, hcell⟩ := HT.out.cell (k := k) (by rw [length_tab]; exact hlt)
        rw [getD_tab _ hlt, length_lst] at hcell
        obtain ⟨r, hr⟩ : ∃ r, r = n - k := ⟨_, rfl⟩
        rw [← hr] at hcell
        have HR := Lib.hid hr
        have hr2 : k + r ≤ n ∧ n ≤ k + r := by omega
        have HC := Lib.hid hcell
        clear hr
        have hk0 : (0 : Int) ≤ (k : Int) := by omega
        have hk1 : (k : Int) < (n : Int) := by omega
        go_wp2
        clear hcell
        go_loopw [24] (fun s w2 => ∃ j : Nat, j ≤ r ∧ s = .int .i64 j ∧ Hid (w2.cell? ⟨g, k, none⟩ = some (.slice Ar r cr)) ∧ Hid (Bf w2 bo (.int .i64 m) (.slice (some ⟨g, 0, none⟩) n c')) ∧ Hid (OwnP w2 lo hi (.slice (some ⟨g, 0, none⟩) n c') (tab n (fil2 (fun i j => p i j % m) k j))) ∧ Hid (Bf w2 w.heap.size (.int .i64 m) (.slice A n cp)) ∧ Hid (Bf w2 (w.heap.size + 1) (.int .i64 0) (.slice none 0 0)) ∧ Hid (Below w.heap.size w w2)) (fun s _ => r - (intOf s).toNat)
        case atStart => exact ⟨0, Nat.zero_le _, rfl, HC, HO, HT, HP, HQ, HB⟩
        case round =>
          clear HO HT HP HQ HB o1 o2 q1 q2 q3 q4 HC
          obtain ⟨j, hj, rfl, HC, HO, HT, HP, HQ, HB⟩ := hrel
          have p1 := HP.out.1.2.1
          have zO := HO.out.1.1
          have zP := HP.out.1.1
          by_cases hlt2 : j < r
          · obtain ⟨hl1, hl2, hl3, hw⟩ := HT.out.rowW (i := k) (by rw [length_tab]; exact hlt) HC.out
            obtain ⟨gr, rfl, hne, hgl, hgh, hgz, hd0, hf0, hset⟩ := hw j hlt2
            have HSET := Lib.hid hset
            have HST : Hid (tab n (upd2 (fil2 (fun i j => p i j % m) k j) k j (p k j % m)) = tab n (fil2 (fun i j => p i j % m) k (j + 1))) := fil2_step (fun i j => p i j % m) n k j
            generalize co2 (tab n (fil2 (fun i j => p i j % m) k j)) k j = y0 at hd0
            clear hset hw hl1
            have hj0 : (0 : Int) ≤ (j : Int) := by omega
            have hj1 : (j : Int) < (r : Int) := by omega
            have ne1 : (⟨gr, j, none⟩ : Addr) ≠ ⟨w.heap.size, 0, none⟩ := by first | (simp; done) | (simp; omega)
            go_wp2
            go_region_held3 (fun w' => w'.cell? ⟨w.heap.size, 0, none⟩ = some (.int .i64 m))
              (first | exact p1 | exact (World.cell?_setCell_other _ _ _ _ ne1).trans p1 | go_keep)
              (first | (go_at_call 114; refine (mod_any (p k j) m _ (by omega) (by omega)).mono ?_; rintro e w8 ⟨rfl, k8, rfl⟩) | (refine (HPR.out.2 _ k j (below_drew HB.out) (by omega)).mono ?_; rintro e w7 ⟨rfl, k7, rfl⟩))
            go_wp2
            go_roundw
            case rel =>
              refine ⟨j + 1, by omega, by go_num, ?_, HO.out.setCell (by simp; omega) _, ?_, HP.out.setCell (by simp; omega) _, HQ.out.setCell (by simp; omega) _, ?_⟩
              · unfold Hid
                exact (World.cell?_setCell_other _ _ _ _ (by first | (simp; done) | (simp; omega))).trans HC.out
              · unfold Hid
                rw [← HST.out, ← set_tab' _ _ _ _ _ hlt]
                exact HSET.out (p k j % m)
              · exact Below.setCell (below_drewN HB.out _) (by simp; omega) _
            case measure => simp [intOf]; omega
          · have hjr : j = r := by omega
            have hT9 := HT.out
            rw [hjr, HR.out, fil2_row] at hT9
            have HT' := Lib.hid hT9
            clear hT9
            clear hjr
            go_wp2
            go_roundw
            case rel => exact ⟨k + 1, by omega, by go_num, HO, HT', HP, HQ, HB⟩
            case measure => simp [intOf]; omega
      · obtain rfl : k = n := by omega
        have hT : Hid (OwnP wr lo hi (.slice (some ⟨g, 0, none⟩) k c') zss) := by
          unfold Hid
          rw [← HZ.out, ← fil2_all]
          exact HT.out
        have hd5 : decide ((k : Int) < (k : Int)) = false := by simp
        go_wp2
        refine bodyPost_ret (v := .agg #[.int .i64 m, .slice (some ⟨g, 0, none⟩) k c']) (by simp [results, Try.results96, go_sem, q1, q2]) rfl ⟨some ⟨g, 0, none⟩, c', by rw [HZL.out], ?_, ?_⟩
        · rw [HZL.out]
          have h9 := (((hT.out.hi_le.far (p := ⟨w.heap.size + 1, 0, none⟩) (.inl (by simp; omega)) (.int .i64 m)).far (p := ⟨w.heap.size + 1, 1, none⟩) (.inl (by simp; omega)) (.slice (some ⟨g, 0, none⟩) k c'))).mono (show w.heap.size ≤ lo by omega) (Nat.le_refl _)
          simpa [World.setCell] using h9
        · exact (HB.out.setCell (by simp) _).setCell (by simp) _

/-! ### Exchanged variables -/
theorem OwnP.at2 {w : World} {lo hi : Nat} {A : Option Addr} {n c : Nat} {xss : List (List Int)} (h : OwnP w lo hi (.slice A n c) xss) {i j : Nat} (hi' : i < xss.length) (hj : j < (xss.getD i []).length) :
    ∃ g gr cr, A = some ⟨g, 0, none⟩ ∧ g < w.heap.size ∧ w.cell? ⟨g, i, none⟩ = some (.slice (some ⟨gr, 0, none⟩) (xss.getD i []).length cr) ∧ gr < w.heap.size ∧ w.cell? ⟨gr, j, none⟩ = some (.int .i64 (co2 xss i j)) ∧ (xss.getD i []).length ≤ cr := by
  obtain ⟨g, c2, Ar, cr, e, _, _, h3, hcell, _, hown, _, _⟩ := h.row hi'
  simp only [Value.slice.injEq] at e
  obtain ⟨rfl, _, _⟩ := e
  obtain ⟨A2, cp2, e2, hc3, hc4, hA2⟩ := hown.open_
  simp only [Value.slice.injEq] at e2
  obtain ⟨e3, _, e4⟩ := e2
  subst e3 e4
  obtain ⟨gr, rfl, _, h5, h6, _⟩ := hA2 j hj
  exact ⟨g, gr, cr, rfl, h3, hcell, h5, h6, hc3⟩
/-- The rows have the lengths of a plane's. -/
def Tri (n : Nat) (xss : List (List Int)) : Prop := xss.length = n ∧ ∀ i, i < n → (xss.getD i []).length = n - i
theorem Tri.tab (n : Nat) (f : Nat → Nat → Int) : Tri n (tab n f) := ⟨length_tab n f, fun i hi => by rw [getD_tab f hi, length_lst]⟩
theorem isPl_tri {m : Int} {xss : List (List Int)} (h : isPl m xss = true) : Tri xss.length xss := ⟨rfl, fun _ hi => isPl_len h hi⟩
/-- All numbers lie from 0 to below m. -/
def Num2 (m : Int) (xss : List (List Int)) : Prop := ∀ i j, 0 ≤ co2 xss i j ∧ co2 xss i j < m
theorem isPl_num2 {m : Int} {xss : List (List Int)} (h : isPl m xss = true) : Num2 m xss := isPl_num h
theorem RetPI.zero {w w' : World} {k : Int} (h : Below w.heap.size w w') : RetPI w ((0, []), k) (.returned (.tuple #[.agg #[.int .i64 0, .slice none 0 0], .int .i64 k])) w' := ⟨none, 0, rfl, OwnP.nil_ _ _ _, h⟩
theorem RetPI.mk {w w' : World} {m : Int} {n : Nat} {A : Option Addr} {c lo hi : Nat} {xss : List (List Int)} {k : Int} (h : OwnP w' lo hi (.slice A n c) xss) (hn : xss.length = n) (hlo : w.heap.size ≤ lo) (hb : Below w.heap.size w w') : RetPI w ((m, xss), k) (.returned (.tuple #[.agg #[.int .i64 m, .slice A n c], .int .i64 k])) w' := by
  subst hn
  exact ⟨A, c, rfl, h.hi_le.mono hlo (Nat.le_refl _), hb⟩
theorem OwnP.far2 {w : World} {lo hi b : Nat} {v x y : Value} {xss : List (List Int)} (h : OwnP w lo hi v xss) (hp : b < lo ∨ hi ≤ b) : OwnP ((w.setCell ⟨b, 0, none⟩ x).setCell ⟨b, 1, none⟩ y) lo hi v xss := (h.far hp x).far hp y
theorem turned1_pred (w : World) (b : Nat) (A : Option Addr) (n c lo hi : Nat) (xss : List (List Int)) (hb : w.cell? ⟨b, 1, none⟩ = some (.slice A n c)) (hb' : b < w.heap.size) (hv : OwnP w lo hi (.slice A n c) xss) (ht : Tri n xss) (hn : n ≤ 1000) : Pred2 w 108 #[.pointer (some ⟨b, 0, none⟩)] n (fun i j => co2 xss j i) := by
  refine ⟨Try.call108, fun W i j hW hij => ?_⟩
  have hc := (hW.cell (p := ⟨b, 1, none⟩) hb').trans hb
  obtain ⟨g, gr, cr, rfl, h1, h2, h3, h4, _⟩ := hv.at2 (i := j) (j := i) (by rw [ht.1]; omega) (by rw [ht.2 j (by omega)]; omega)
  have h2' := (hW.cell (p := ⟨g, j, none⟩) h1).trans h2
  have h4' := (hW.cell (p := ⟨gr, i, none⟩) h3).trans h4
  rw [ht.2 j (by omega)] at h2'
  obtain ⟨r, hr⟩ : ∃ r, r = n - j := ⟨_, rfl⟩
  rw [← hr] at h2'
  have hj0 : (0 : Int) ≤ (j : Int) := by omega
  have hj1 : (j : Int) < (n : Int) := by omega
  have hi0 : (0 : Int) ≤ (i : Int) := by omega
  have hi1 : (i : Int) < (r : Int) := by omega
  have hi2 : i < r := by omega
  have hj2 : j < n := by omega
  obtain ⟨x, hx⟩ : ∃ x, x = co2 xss j i := ⟨_, rfl⟩
  rw [← hx] at h4'
  have HX : Hid (co2 xss j i = x) := hx.symm
  clear hW hb h2 h4 hr hv ht hx
  go_enter Try.func108, Try.ntmps108
  go_wp2
  go_ret
  exact ⟨by show _ = Ending.returned (.int .i64 (co2 xss j i)); rw [HX.out]; rfl, 0, rfl⟩
set_option maxHeartbeats 1000000 in
theorem turned_any (w : World) (m : Int) (v : Value) (xss zss : List (List Int)) (n : Nat) (lo hi : Nat) (hv : OwnP w lo hi v xss) (ht : Tri n xss) (hq : Num2 m xss) (hm : 2 ≤ m) (hm' : m ≤ 1000000000000000) (hn1 : 1 ≤ n) (hn : n ≤ 1000) (hz : (tab n fun i j => co2 xss j i) = zss) :
    Calls Try.prog 91 #[.agg #[.int .i64 m, v]] w (NewPl w m zss) := by
  obtain ⟨A, cp, rfl, -, -⟩ := hv.form
  have HZ : Hid ((tab n fun i j => co2 xss j i % m) = zss) := by
    unfold Hid
    rw [← hz]
    exact tab_congr fun i j _ => Int.emod_eq_of_lt (hq j i).1 (hq j i).2
  have hx := ht.1
  subst hx
  have HT := Lib.hid ht
  clear hz ht hq
  go_enter Try.func91, Try.ntmps91
  go_wp2_with fail
  refine (mapped_any _ m _ xss xss.length lo hi ((hv.alloc _).alloc _) rfl hm hm' hn1 hn _ _ _ (turned1_pred _ w.heap.size A xss.length cp lo hi xss (by simp) (by simp; omega) ((hv.alloc _).alloc _) HT.out hn) zss HZ.out).mono ?_
  rintro e w1 ⟨A1, c1, rfl, o1, hb1⟩
  have HZL : Hid (zss.length = xss.length) := by unfold Hid; rw [← HZ.out, length_tab]
  obtain ⟨P1, Q1, K1⟩ := Bf.first2 hb1; have p1a := P1.1.2.1; have p1b := P1.1.2.2; have z1 := P1.1.1; have q1a := Q1.1.2.1; have q1b := Q1.1.2.2; have q1c := Q1.2.1; have q1d := Q1.2.2; have y1 := Q1.1.1
  rw [HZL.out] at o1 ⊢
  go_wp2
  refine bodyPost_ret (v := .agg #[.int .i64 m, .slice A1 xss.length c1]) (by simp [results, Try.results91, go_sem, q1a, q1b]) rfl ⟨A1, c1, by rw [HZL.out], ?_, ?_⟩
  · rw [HZL.out]
    have h9 := OwnP.mono (lo' := w.heap.size) (o1.far2 (b := w.heap.size + 1) (x := .int .i64 m) (y := .slice A1 xss.length c1) (.inl (by first | (simp; done) | (simp; omega)))) (by first | (simp; done) | (simp; omega)) (Nat.le_refl _)
    simpa [World.setCell] using h9
  · exact (K1.setCell (by simp) _).setCell (by simp) _
theorem l03Make_any (w : World) (m : Int) (A : Option Addr) (n c : Nat) : Calls Try.prog 62 #[.int .i64 m, .slice A n c] w fun e w' => e = .returned (.agg #[.int .i64 m, .slice A n c]) ∧ Below w.heap.size w w' := by
  go_enter Try.func62, Try.ntmps62
  go_wp2
  exact bodyPost_ret (v := .agg #[.int .i64 m, .slice A n c]) (by simp [results, Try.results62, go_sem]) rfl ⟨rfl, by (repeat (first | assumption | exact Below.refl _ _ | refine Below.alloc ?_ (by first | omega | (simp; done) | (simp; omega)) _ | refine Below.setCell ?_ (by first | omega | (simp; done) | (simp; omega)) _ | refine below_drewN ?_ _))⟩
/-- Column by column. -/
def col2 (F : Nat → Nat → Int) (i j : Nat) : Nat → Nat → Int := fun b a => fil2 (fun a b => F b a) i j a b
theorem col2_zero (F : Nat → Nat → Int) (n : Nat) : tab n (fun _ _ => 0) = tab n (col2 F 0 0) := tab_congr fun a b _ => by simp [col2, fil2]
theorem col2_step (F : Nat → Nat → Int) (n i j : Nat) : tab n (upd2 (col2 F i j) j i (F j i)) = tab n (col2 F i (j + 1)) := tab_congr fun b a _ => by
  unfold upd2 col2 fil2
  by_cases h : b = j ∧ a = i
  · obtain ⟨rfl, rfl⟩ := h
    simp
  · rw [if_neg h]
    by_cases h2 : a < i ∨ (a = i ∧ b < j)
    · rw [if_pos h2, if_pos (by omega)]
    · rw [if_neg h2, if_neg (by omega)]
theorem col2_row (F : Nat → Nat → Int) (n i : Nat) : tab n (col2 F i (n - i)) = tab n (col2 F (i + 1) 0) := tab_congr fun b a hab => by
  unfold col2 fil2
  by_cases h2 : a < i + 1 ∨ (a = i + 1 ∧ b < 0)
  · rw [if_pos h2, if_pos (by omega)]
  · rw [if_neg h2, if_neg (by omega)]
theorem col2_all (F : Nat → Nat → Int) (n : Nat) : tab n (col2 F n 0) = tab n F := tab_congr fun b a hab => by
  unfold col2 fil2
  rw [if_pos (by omega)]
set_option maxRecDepth 8000 in
set_option maxHeartbeats 4000000 in
theorem l03Turn_any (w : World) (v : Value) (xss zss : List (List Int)) (n : Nat) (lo0 hi0 : Nat) (hv : OwnP w lo0 hi0 v xss) (ht : Tri n xss) (hn1 : 1 ≤ n) (hn : n ≤ 1000) (hz : (tab n fun i j => co2 xss j i) = zss) :
    Calls Try.prog 83 #[v] w (NewP w zss) := by
  obtain ⟨A, cp, rfl, -, -⟩ := hv.form
  have hx := ht.1
  subst hx
  have HV := Lib.hid hv
  have HT := Lib.hid ht
  have HZ := Lib.hid hz
  obtain ⟨gs, _, _, _, e0, -, -, hgs, -⟩ := hv.row (k := 0) (by omega)
  simp only [Value.slice.injEq] at e0
  obtain ⟨rfl, -, -⟩ := e0
  clear hz ht hv
  go_enter Try.func83, Try.ntmps83
  go_wp2_with (go_at_call 61; refine (l03Zero_any _ _ xss.length (by omega) (by omega)).mono ?_; rintro e w1 ⟨A', c', rfl, o1, hb1⟩; rw [length_tab] at o1 ⊢; have O1 := Lib.hid o1; clear o1)
  obtain ⟨g, _, _, _, e0, hg1, hg2, hg3, -⟩ := O1.out.row (k := 0) (by rw [length_tab]; omega)
  rw [length_tab] at e0
  simp only [Value.slice.injEq] at e0
  obtain ⟨rfl, -, rfl⟩ := e0
  have o2 := O1.out
  rw [col2_zero (fun i j => co2 xss j i)] at o2
  have O2 := Lib.hid o2
  clear o2 O1
  go_loopw [4] (fun i wr => ∃ k : Nat, k ≤ xss.length ∧ i = .int .i64 k ∧ Hid (OwnP wr w.heap.size w1.heap.size (.slice (some ⟨g, 0, none⟩) xss.length c') (tab xss.length (col2 (fun i j => co2 xss j i) k 0))) ∧ Hid (Below w.heap.size w wr)) (fun i _ => xss.length - (intOf i).toNat)
  case atStart => exact ⟨0, Nat.zero_le _, rfl, O2, hb1⟩
  case round =>
    clear O2 hb1
    obtain ⟨k, hk, rfl, HO, HB⟩ := hrel
    by_cases hlt : k < xss.length
    · obtain ⟨r, hr⟩ : ∃ r, r = xss.length - k := ⟨_, rfl⟩
      have HR := Lib.hid hr
      have hr2 : k + r ≤ xss.length ∧ xss.length ≤ k + r := by omega
      obtain ⟨gx, grx, crx, e1, hx1, hx2, hx3, -, hx5⟩ := HV.out.at2 (i := k) (j := 0) hlt (by rw [HT.out.2 k hlt]; omega)
      simp only [Option.some.injEq, Addr.mk.injEq] at e1
      obtain ⟨rfl, -⟩ := e1
      rw [HT.out.2 k hlt, ← hr] at hx2 hx5
      clear hr
      have hk0 : (0 : Int) ≤ (k : Int) := by omega
      have hk1 : (k : Int) < (xss.length : Int) := by omega
      go_wp2
      go_loopw [5] (fun s w2 => ∃ j : Nat, j ≤ r ∧ s = .int .i64 j ∧ Hid (OwnP w2 w.heap.size w1.heap.size (.slice (some ⟨g, 0, none⟩) xss.length c') (tab xss.length (col2 (fun i j => co2 xss j i) k j))) ∧ Hid (Below w.heap.size w w2)) (fun s _ => r - (intOf s).toNat)
      case atStart => exact ⟨0, Nat.zero_le _, rfl, HO, HB⟩
      case round =>
        clear HO HB
        obtain ⟨j, hj, rfl, HO, HB⟩ := hrel
        have hc1 := (HB.out.cell (p := ⟨gs, k, none⟩) hx1).trans hx2
        by_cases hlt2 : j < r
        · obtain ⟨gx2, grx2, crx2, e1, -, hy2, hy3, hy4, -⟩ := HV.out.at2 (i := k) (j := j) hlt (by rw [HT.out.2 k hlt, ← HR.out]; exact hlt2)
          simp only [Option.some.injEq, Addr.mk.injEq] at e1
          obtain ⟨rfl, -⟩ := e1
          rw [hx2] at hy2
          simp only [Option.some.injEq, Value.slice.injEq, Addr.mk.injEq] at hy2
          obtain ⟨⟨rfl, -⟩, -, -⟩ := hy2
          have hc2 := (HB.out.cell (p := ⟨grx, j, none⟩) hy3).trans hy4
          obtain ⟨Ar, cr, hcell⟩ := HO.out.cell (k := j) (by rw [length_tab]; omega)
          rw [getD_tab _ (by omega), length_lst] at hcell
          obtain ⟨q, hq⟩ : ∃ q, q = xss.length - j := ⟨_, rfl⟩
          rw [← hq] at hcell
          obtain ⟨hl1, hl2, hl3, hw⟩ := HO.out.rowW (i := j) (by rw [length_tab]; omega) hcell
          obtain ⟨gr, rfl, hne, hgl, hgh, hgz, hd0, hf0, hset⟩ := hw k (by omega)
          have HSET := Lib.hid hset
          have HST : Hid (tab xss.length (upd2 (col2 (fun i j => co2 xss j i) k j) j k (co2 xss k j)) = tab xss.length (col2 (fun i j => co2 xss j i) k (j + 1))) := col2_step (fun i j => co2 xss j i) xss.length k j
          generalize co2 (tab xss.length (col2 (fun i j => co2 xss j i) k j)) j k = y0 at hd0
          obtain ⟨x, hx⟩ : ∃ x, x = co2 xss k j := ⟨_, rfl⟩
          rw [← hx] at hc2 HST
          have hj0 : (0 : Int) ≤ (j : Int) := by omega
          have hj1 : (j : Int) < (r : Int) := by omega
          have hj2 : (j : Int) < (xss.length : Int) := by omega
          have hj3 : (k : Int) < (q : Int) := by omega
          clear hset hw hl1 hx hq hy4
          go_wp2
          go_roundw
          case rel =>
            refine ⟨j + 1, by omega, by go_num, ?_, ?_⟩
            · unfold Hid
              rw [← HST.out, ← set_tab' _ _ _ _ _ (by omega)]
              exact HSET.out x
            · exact Below.setCell HB.out (by simp; omega) _
          case measure => simp [intOf]; omega
        · have hjr : j = r := by omega
          have hT9 := HO.out
          rw [hjr, HR.out, col2_row] at hT9
          have HT' := Lib.hid hT9
          clear hjr hT9
          go_wp2
          go_roundw
          case rel => exact ⟨k + 1, by omega, by go_num, HT', HB⟩
          case measure => simp [intOf]; omega
    · have hkn : k = xss.length := by omega
      have hT := HO.out
      rw [hkn, col2_all, HZ.out] at hT
      have hd5 : decide ((k : Int) < (xss.length : Int)) = false := by simp; omega
      have HZL : Hid (zss.length = xss.length) := by unfold Hid; rw [← HZ.out, length_tab]
      clear hkn
      go_wp2
      go_ret
      exact ⟨some ⟨g, 0, none⟩, c', by rw [HZL.out]; rfl, by rw [HZL.out]; exact hT.hi_le, HB.out⟩
def TurnPlaneR (m : Int) (xss : List (List Int)) : (Int × List (List Int)) × Int := if isPl m xss = false then ((0, []), 1) else ((m, tab xss.length fun i j => co2 xss j i), 0)
theorem cntP_tab_le (n : Nat) (f : Nat → Nat → Int) : cntP (tab n f) ≤ n * n := by
  have h : ∀ k, k ≤ n → cntP ((tab n f).take k) ≤ k * n := by
    intro k
    induction k with
    | zero => simp [cntP]
    | succ k ih =>
      intro hk
      rw [cntP_take_succ _ _ (by rw [length_tab]; omega), getD_tab f (by omega), length_lst]
      have := ih (by omega)
      rw [Nat.succ_mul]
      omega
  have := h n (Nat.le_refl _)
  rwa [List.take_of_length_le (by rw [length_tab]; exact Nat.le_refl _)] at this
theorem cntP_tab_100 {n : Nat} (f : Nat → Nat → Int) (hn : n ≤ 12) : cntP (tab n f) ≤ 200 := by
  have := cntP_tab_le n f
  have h : n * n ≤ 12 * 12 := Nat.mul_le_mul hn hn
  omega
theorem TurnPlaneR_len (m : Int) (xss : List (List Int)) : cntP (TurnPlaneR m xss).1.2 ≤ 200 := by
  unfold TurnPlaneR
  cases h : isPl m xss
  · simp [cntP]
  · have := (isPl_true h).2.1
    exact cntP_tab_100 _ (by omega)
set_option maxHeartbeats 1000000 in
theorem iTurnPlaneR_any (w : World) (m : Int) (v : Value) (xss : List (List Int)) (lo hi : Nat) (hv : OwnP w lo hi v xss) (hl : szP xss ≤ 2000000) : Calls Try.prog 42 #[.agg #[.int .i64 m, v]] w (RetPI w (TurnPlaneR m xss)) := by
  obtain ⟨A, c, rfl, -, -⟩ := hv.form
  cases hs : isPl m xss
  · have HF : TurnPlaneR m xss = ((0, []), 1) := by simp [TurnPlaneR, hs]
    rw [HF]
    clear HF
    have HS := Lib.hid hs
    clear hs
    go_enter Try.func42, Try.ntmps42
    go_wp2_with (go_at_call 18; refine (iIsPlane_any _ m _ xss lo hi (OwnP.keep hv (by (repeat (first | assumption | exact Below.refl _ _ | refine Below.alloc ?_ (by first | omega | (simp; done) | (simp; omega)) _ | refine Below.setCell ?_ (by first | omega | (simp; done) | (simp; omega)) _ | refine below_drewN ?_ _)))) hl).mono ?_; rintro e w1 ⟨rfl, hb1⟩; rw [HS.out]; obtain ⟨P1, Q1, K1⟩ := Bf.first2 hb1; have p1a := P1.1.2.1; have p1b := P1.1.2.2; have z1 := P1.1.1; have q1a := Q1.1.2.1; have q1b := Q1.1.2.2; have q1c := Q1.2.1; have q1d := Q1.2.2; have y1 := Q1.1.1)
    exact bodyPost_ret (v := .tuple #[.agg #[.int .i64 0, .slice none 0 0], .int .i64 1]) (by simp [results, Try.results42, go_sem, q1a, q1b]) rfl (RetPI.zero (by (repeat (first | assumption | exact Below.refl _ _ | refine Below.alloc ?_ (by first | omega | (simp; done) | (simp; omega)) _ | refine Below.setCell ?_ (by first | omega | (simp; done) | (simp; omega)) _ | refine below_drewN ?_ _))))
  · have hm := isModB_true (isPl_true hs).1
    have hlen := (isPl_true hs).2.1
    have HT := Lib.hid (isPl_tri hs)
    have HN := Lib.hid (isPl_num2 hs)
    obtain ⟨ys, hy⟩ : ∃ ys, (tab xss.length fun i j => co2 xss j i) = ys := ⟨_, rfl⟩
    have HF : TurnPlaneR m xss = ((m, ys), 0) := by simp [TurnPlaneR, hs, hy]
    have HYL : Hid (ys.length = xss.length) := by unfold Hid; rw [← hy, length_tab]
    rw [HF]
    clear HF
    have HY := Lib.hid hy
    have HS := Lib.hid hs
    clear hs hy
    go_enter Try.func42, Try.ntmps42
    go_wp2_with (go_at_call 18; refine (iIsPlane_any _ m _ xss lo hi (OwnP.keep hv (by (repeat (first | assumption | exact Below.refl _ _ | refine Below.alloc ?_ (by first | omega | (simp; done) | (simp; omega)) _ | refine Below.setCell ?_ (by first | omega | (simp; done) | (simp; omega)) _ | refine below_drewN ?_ _)))) hl).mono ?_; rintro e w1 ⟨rfl, hb1⟩; rw [HS.out]; obtain ⟨P1, Q1, K1⟩ := Bf.first2 hb1; have p1a := P1.1.2.1; have p1b := P1.1.2.2; have z1 := P1.1.1; have q1a := Q1.1.2.1; have q1b := Q1.1.2.2; have q1c := Q1.2.1; have q1d := Q1.2.2; have y1 := Q1.1.1)
    refine (turned_any _ m _ xss ys xss.length lo hi (hv.keep K1) HT.out HN.out (by omega) (by omega) (by omega) (by omega) HY.out).mono ?_
    rintro e w2 ⟨A2, c2, rfl, o2, hb2⟩
    rw [HYL.out] at o2 ⊢
    have R2 : Below w1.heap.size w1 w2 := (Below.trans (by (repeat (first | assumption | exact Below.refl _ _ | refine Below.alloc ?_ (by first | omega | (simp; done) | (simp; omega)) _ | refine Below.setCell ?_ (by first | omega | (simp; done) | (simp; omega)) _ | refine below_drewN ?_ _))) (hb2.mono (by first | exact Nat.le_refl _ | (simp; done) | (simp; omega)))); have s2 := R2.size; have K2 : Below w.heap.size w w2 := K1.trans (R2.mono K1.size); have P2 := P1.keep R2; have Q2 := Q1.keep R2; have p2a := P2.1.2.1; have p2b := P2.1.2.2; have z2 := P2.1.1; have q2a := Q2.1.2.1; have q2b := Q2.1.2.2; have q2c := Q2.2.1; have q2d := Q2.2.2; have y2 := Q2.1.1
    go_wp2
    exact bodyPost_ret (v := .tuple #[.agg #[.int .i64 m, .slice A2 xss.length c2], .int .i64 0]) (by simp [results, Try.results42, go_sem, q2a, q2b]) rfl (RetPI.mk (o2.far2 (.inl (by show _ < w1.heap.size; exact y1))) HYL.out (by show w.heap.size ≤ w1.heap.size; omega) (by (repeat (first | assumption | exact Below.refl _ _ | refine Below.alloc ?_ (by first | omega | (simp; done) | (simp; omega)) _ | refine Below.setCell ?_ (by first | omega | (simp; done) | (simp; omega)) _ | refine below_drewN ?_ _))))
set_option maxHeartbeats 1000000 in
theorem sTurnPlaneR_any (w : World) (m : Int) (v : Value) (xss : List (List Int)) (lo hi : Nat) (hv : OwnP w lo hi v xss) (hl : szP xss ≤ 2000000) : Calls Try.prog 41 #[.agg #[.int .i64 m, v]] w (RetPI w (TurnPlaneR m xss)) := by
  obtain ⟨A, c, rfl, -, -⟩ := hv.form
  cases hs : isPl m xss
  · have HF : TurnPlaneR m xss = ((0, []), 1) := by simp [TurnPlaneR, hs]
    rw [HF]
    clear HF
    have HS := Lib.hid hs
    clear hs
    go_enter Try.func41, Try.ntmps41
    go_wp2_with (go_at_call 50; refine (l03Is_any _ m _ xss lo hi (OwnP.keep hv (by (repeat (first | assumption | exact Below.refl _ _ | refine Below.alloc ?_ (by first | omega | (simp; done) | (simp; omega)) _ | refine Below.setCell ?_ (by first | omega | (simp; done) | (simp; omega)) _ | refine below_drewN ?_ _)))) hl).mono ?_; rintro e w1 ⟨rfl, hb1⟩; rw [HS.out]; obtain ⟨P1, Q1, K1⟩ := Bf.first2 hb1; have p1a := P1.1.2.1; have p1b := P1.1.2.2; have z1 := P1.1.1; have q1a := Q1.1.2.1; have q1b := Q1.1.2.2; have q1c := Q1.2.1; have q1d := Q1.2.2; have y1 := Q1.1.1)
    exact bodyPost_ret (v := .tuple #[.agg #[.int .i64 0, .slice none 0 0], .int .i64 1]) (by simp [results, Try.results41, go_sem, q1a, q1b]) rfl (RetPI.zero (by (repeat (first | assumption | exact Below.refl _ _ | refine Below.alloc ?_ (by first | omega | (simp; done) | (simp; omega)) _ | refine Below.setCell ?_ (by first | omega | (simp; done) | (simp; omega)) _ | refine below_drewN ?_ _))))
  · have hm := isModB_true (isPl_true hs).1
    have hlen := (isPl_true hs).2.1
    have HT := Lib.hid (isPl_tri hs)
    obtain ⟨ys, hy⟩ : ∃ ys, (tab xss.length fun i j => co2 xss j i) = ys := ⟨_, rfl⟩
    have HF : TurnPlaneR m xss = ((m, ys), 0) := by simp [TurnPlaneR, hs, hy]
    have HYL : Hid (ys.length = xss.length) := by unfold Hid; rw [← hy, length_tab]
    rw [HF]
    clear HF
    have HY := Lib.hid hy
    have HS := Lib.hid hs
    clear hs hy
    go_enter Try.func41, Try.ntmps41
    go_wp2_with (go_at_call 50; refine (l03Is_any _ m _ xss lo hi (OwnP.keep hv (by (repeat (first | assumption | exact Below.refl _ _ | refine Below.alloc ?_ (by first | omega | (simp; done) | (simp; omega)) _ | refine Below.setCell ?_ (by first | omega | (simp; done) | (simp; omega)) _ | refine below_drewN ?_ _)))) hl).mono ?_; rintro e w1 ⟨rfl, hb1⟩; rw [HS.out]; obtain ⟨P1, Q1, K1⟩ := Bf.first2 hb1; have p1a := P1.1.2.1; have p1b := P1.1.2.2; have z1 := P1.1.1; have q1a := Q1.1.2.1; have q1b := Q1.1.2.2; have q1c := Q1.2.1; have q1d := Q1.2.2; have y1 := Q1.1.1)
    have HV := Lib.hid (hv.keep K1)
    go_region_held3 (fun w' => w'.cell? ⟨w.heap.size, 0, none⟩ = some (.int .i64 m) ∧ w'.cell? ⟨w.heap.size, 1, none⟩ = some (.slice A xss.length c)) (first | exact ⟨p1a, p1b⟩ | exact ⟨p2a, p2b⟩ | exact ⟨p3a, p3b⟩ | exact ⟨cell_store2 p3a (by omega), cell_store2 p3b (by omega)⟩ | go_keep)
      (first | (go_at_call 83; refine (l03Turn_any _ _ xss ys xss.length lo hi (HV.out.drewN 1) HT.out (by omega) (by omega) HY.out).mono ?_; rintro e w2 ⟨A2, c2, rfl, o2, hb2⟩; rw [HYL.out] at o2 ⊢; have R2 : Below w1.heap.size w1 w2 := (Below.trans (by (repeat (first | assumption | exact Below.refl _ _ | refine Below.alloc ?_ (by first | omega | (simp; done) | (simp; omega)) _ | refine Below.setCell ?_ (by first | omega | (simp; done) | (simp; omega)) _ | refine below_drewN ?_ _))) (hb2.mono (by first | exact Nat.le_refl _ | (simp; done) | (simp; omega)))); have s2 := R2.size; have K2 : Below w.heap.size w w2 := K1.trans (R2.mono K1.size); have P2 := P1.keep R2; have Q2 := Q1.keep R2; have p2a := P2.1.2.1; have p2b := P2.1.2.2; have z2 := P2.1.1; have q2a := Q2.1.2.1; have q2b := Q2.1.2.2; have q2c := Q2.2.1; have q2d := Q2.2.2; have y2 := Q2.1.1) | (go_at_call 62; refine (l03Make_any _ m A2 xss.length c2).mono ?_; rintro e w3 ⟨rfl, hb3⟩; have R3 : Below w2.heap.size w2 w3 := (Below.trans (by (repeat (first | assumption | exact Below.refl _ _ | refine Below.alloc ?_ (by first | omega | (simp; done) | (simp; omega)) _ | refine Below.setCell ?_ (by first | omega | (simp; done) | (simp; omega)) _ | refine below_drewN ?_ _))) (hb3.mono (by first | exact Nat.le_refl _ | (simp; done) | (simp; omega)))); have s3 := R3.size; have K3 : Below w.heap.size w w3 := K2.trans (R3.mono K2.size); have P3 := P2.keep R3; have Q3 := Q2.keep R3; have p3a := P3.1.2.1; have p3b := P3.1.2.2; have z3 := P3.1.1; have q3a := Q3.1.2.1; have q3b := Q3.1.2.2; have q3c := Q3.2.1; have q3d := Q3.2.2; have y3 := Q3.1.1))
    go_wp2
    exact bodyPost_ret (v := .tuple #[.agg #[.int .i64 m, .slice A2 xss.length c2], .int .i64 0]) (by simp [results, Try.results41, go_sem, q3a, q3b]) rfl (RetPI.mk ((o2.keep R3).far2 (.inl (by show _ < w1.heap.size; exact y1))) HYL.out (by show w.heap.size ≤ w1.heap.size; omega) (by (repeat (first | assumption | exact Below.refl _ _ | refine Below.alloc ?_ (by first | omega | (simp; done) | (simp; omega)) _ | refine Below.setCell ?_ (by first | omega | (simp; done) | (simp; omega)) _ | refine below_drewN ?_ _))))

/-! ### The laws' walks, printed by genlaw2.py -/
set_option maxHeartbeats 4000000 in
theorem FnExactTurnPlane_walk (w : World) (m0 : Int) (v0 : Value) (xs0 : List (List Int)) (hv0 : RdP w v0 xs0) : Calls Try.prog 11 #[.agg #[.int .i64 m0, v0]] w fun e w' => e = .returned (.bool true) ∧ Below w.heap.size w w' := by
  obtain ⟨A0, c0, e0⟩ := hv0.form
  subst e0
  obtain ⟨r0, HR⟩ : ∃ r0, Hid (TurnPlaneR m0 xs0 = r0) := ⟨_, rfl⟩
  obtain ⟨⟨rm, rl⟩, rc⟩ := r0
  have hlen := TurnPlaneR_len m0 xs0
  rw [HR.out] at hlen
  simp only at hlen
  by_cases hz0 : 1048576 < ((szP xs0) : Int)
  · skip
    have HZ0 := Lib.hid (szN_lt hz0)
    go_enter Try.func11, Try.ntmps11
    go_wp2_with fail
    refine (szP_any _ m0 _ xs0 (1048576) (hv0.below (by (repeat (first | assumption | exact Below.refl _ _ | refine Below.alloc ?_ (by first | omega | (simp; done) | (simp; omega)) _ | refine Below.setCell ?_ (by first | omega | (simp; done) | (simp; omega)) _ | refine below_drewN ?_ _)))) (by omega) (by omega)).mono ?_
    rintro e w1 ⟨rfl, hb1⟩
    rw [HZ0.out]
    have R : Below w.heap.size w w1 := Below.trans (by (repeat (first | assumption | exact Below.refl _ _ | refine Below.alloc ?_ (by first | omega | (simp; done) | (simp; omega)) _ | refine Below.setCell ?_ (by first | omega | (simp; done) | (simp; omega)) _ | refine below_drewN ?_ _))) (hb1.mono (by first | exact Nat.le_refl _ | (simp; done) | (simp; omega)))
    have s1 : w.heap.size ≤ w1.heap.size := R.size
    have K1 : Hid (Below w.heap.size w w1) := R
    have b0 : Hid (Bx w1 w.heap.size (.int .i64 m0) (.slice A0 xs0.length c0)) := ⟨by have := hb1.size; simp at this; omega, by rw [hb1.cell (by first | (simp; done) | (simp; omega))]; simp, by rw [hb1.cell (by first | (simp; done) | (simp; omega))]; simp⟩
    clear R hb1
    have b0_c := b0.out.2.1
    have b0_d := b0.out.2.2
    have b0_z := b0.out.1
    go_wp2
    go_ret
    exact ⟨rfl, K1.out⟩
  have HZ0 := Lib.hid (szN_ge hz0)
  have hl0 : ((szP xs0) : Int) ≤ 1048576 := by omega
  clear hz0
  have hq0 := cntP_le_szP xs0
  have hq0' := length_le_szP xs0
  go_enter Try.func11, Try.ntmps11
  go_wp2_with fail
  refine (szP_any _ m0 _ xs0 (1048576) (hv0.below (by (repeat (first | assumption | exact Below.refl _ _ | refine Below.alloc ?_ (by first | omega | (simp; done) | (simp; omega)) _ | refine Below.setCell ?_ (by first | omega | (simp; done) | (simp; omega)) _ | refine below_drewN ?_ _)))) (by omega) (by omega)).mono ?_
  rintro e w2 ⟨rfl, hb2⟩
  rw [HZ0.out]
  have R : Below w.heap.size w w2 := Below.trans (by (repeat (first | assumption | exact Below.refl _ _ | refine Below.alloc ?_ (by first | omega | (simp; done) | (simp; omega)) _ | refine Below.setCell ?_ (by first | omega | (simp; done) | (simp; omega)) _ | refine below_drewN ?_ _))) (hb2.mono (by first | exact Nat.le_refl _ | (simp; done) | (simp; omega)))
  have s2 : w.heap.size ≤ w2.heap.size := R.size
  have K2 : Hid (Below w.heap.size w w2) := R
  have b0 : Hid (Bx w2 w.heap.size (.int .i64 m0) (.slice A0 xs0.length c0)) := ⟨by have := hb2.size; simp at this; omega, by rw [hb2.cell (by first | (simp; done) | (simp; omega))]; simp, by rw [hb2.cell (by first | (simp; done) | (simp; omega))]; simp⟩
  clear R hb2
  have b0_c := b0.out.2.1
  have b0_d := b0.out.2.2
  have b0_z := b0.out.1
  go_wp2_with fail
  refine (toP_any _ m0 _ xs0 (hv0.below K2.out) (by omega)).mono ?_
  rintro e w3 ⟨A_p0, c_p0, rfl, o_p0, hb3⟩
  clear b0_c b0_d b0_z
  have o_p0' := (o_p0).mono (show w2.heap.size ≤ _ from by first | exact Nat.le_refl _ | (simp; done) | (simp; omega)) (Nat.le_refl _)
  clear o_p0
  have R : Below w2.heap.size w2 w3 := Below.trans (by (repeat (first | assumption | exact Below.refl _ _ | refine Below.alloc ?_ (by first | omega | (simp; done) | (simp; omega)) _ | refine Below.setCell ?_ (by first | omega | (simp; done) | (simp; omega)) _ | refine below_drewN ?_ _))) (hb3.mono (by first | exact Nat.le_refl _ | (simp; done) | (simp; omega)))
  have s3 : w2.heap.size ≤ w3.heap.size := R.size
  have K3 : Hid (Below w.heap.size w w3) := K2.out.trans (R.mono (by omega))
  replace b0 : Hid (Bx w3 w.heap.size (.int .i64 m0) (.slice A0 xs0.length c0)) := b0.out.keep R
  clear R hb3
  have p0 : Hid (OwnP w3 w2.heap.size w3.heap.size (.slice A_p0 xs0.length c_p0) xs0) := o_p0'
  clear o_p0'
  have b0_c := b0.out.2.1
  have b0_d := b0.out.2.2
  have b0_z := b0.out.1
  go_wp2_with fail
  refine (sTurnPlaneR_any _ m0 (.slice A_p0 xs0.length c_p0) xs0 w2.heap.size w3.heap.size (p0.out.keep (by (repeat (first | assumption | exact Below.refl _ _ | refine Below.alloc ?_ (by first | omega | (simp; done) | (simp; omega)) _ | refine Below.setCell ?_ (by first | omega | (simp; done) | (simp; omega)) _ | refine below_drewN ?_ _)))) (by omega)).mono ?_
  rintro e w4 h_r
  replace h_r := h_r.of HR
  obtain ⟨A_ow, c_ow, rfl, o_ow, hb4⟩ := h_r
  have o_ow' := (o_ow).mono (show w3.heap.size ≤ _ from by first | exact Nat.le_refl _ | (simp; done) | (simp; omega)) (Nat.le_refl _)
  clear o_ow
  clear b0_c b0_d b0_z
  have R : Below w3.heap.size w3 w4 := Below.trans (by (repeat (first | assumption | exact Below.refl _ _ | refine Below.alloc ?_ (by first | omega | (simp; done) | (simp; omega)) _ | refine Below.setCell ?_ (by first | omega | (simp; done) | (simp; omega)) _ | refine below_drewN ?_ _))) (hb4.mono (by first | exact Nat.le_refl _ | (simp; done) | (simp; omega)))
  have s4 : w3.heap.size ≤ w4.heap.size := R.size
  have K4 : Hid (Below w.heap.size w w4) := K3.out.trans (R.mono (by omega))
  replace b0 : Hid (Bx w4 w.heap.size (.int .i64 m0) (.slice A0 xs0.length c0)) := b0.out.keep R
  replace p0 : Hid (OwnP w4 w2.heap.size w3.heap.size (.slice A_p0 xs0.length c_p0) xs0) := p0.out.keep R
  clear R hb4
  have ow : Hid (OwnP w4 w3.heap.size w4.heap.size (.slice A_ow rl.length c_ow) rl) := o_ow'
  clear o_ow'
  clear p0
  have b0_c := b0.out.2.1
  have b0_d := b0.out.2.2
  have b0_z := b0.out.1
  go_wp2_with fail
  refine (toP_any _ m0 _ xs0 (hv0.below (K4.out.trans (Below.mono (by (repeat (first | assumption | exact Below.refl _ _ | refine Below.alloc ?_ (by first | omega | (simp; done) | (simp; omega)) _ | refine Below.setCell ?_ (by first | omega | (simp; done) | (simp; omega)) _ | refine below_drewN ?_ _))) (by omega)))) (by omega)).mono ?_
  rintro e w5 ⟨A_x0, c_x0, rfl, o_x0, hb5⟩
  clear b0_c b0_d b0_z
  have o_x0' := (o_x0).mono (show (w4.heap.size + 1) ≤ _ from by first | exact Nat.le_refl _ | (simp; done) | (simp; omega)) (Nat.le_refl _)
  clear o_x0
  have R : Below w4.heap.size w4 w5 := Below.trans (by (repeat (first | assumption | exact Below.refl _ _ | refine Below.alloc ?_ (by first | omega | (simp; done) | (simp; omega)) _ | refine Below.setCell ?_ (by first | omega | (simp; done) | (simp; omega)) _ | refine below_drewN ?_ _))) (hb5.mono (by first | exact Nat.le_refl _ | (simp; done) | (simp; omega)))
  have s5 : w4.heap.size ≤ w5.heap.size := R.size
  have K5 : Hid (Below w.heap.size w w5) := K4.out.trans (R.mono (by omega))
  replace b0 : Hid (Bx w5 w.heap.size (.int .i64 m0) (.slice A0 xs0.length c0)) := b0.out.keep R
  replace ow : Hid (OwnP w5 w3.heap.size w4.heap.size (.slice A_ow rl.length c_ow) rl) := ow.out.keep R
  have bw : Hid (Bx w5 w4.heap.size (.int .i64 rm) (.slice A_ow rl.length c_ow)) := ⟨by have := hb5.size; simp at this; omega, by rw [hb5.cell (by first | (simp; done) | (simp; omega))]; simp, by rw [hb5.cell (by first | (simp; done) | (simp; omega))]; simp⟩
  clear R hb5
  have x0 : Hid (OwnP w5 (w4.heap.size + 1) w5.heap.size (.slice A_x0 xs0.length c_x0) xs0) := o_x0'
  clear o_x0'
  have b0_c := b0.out.2.1
  have b0_d := b0.out.2.2
  have b0_z := b0.out.1
  have bw_c := bw.out.2.1
  have bw_d := bw.out.2.2
  have bw_z := bw.out.1
  go_wp2_with fail
  refine (iTurnPlaneR_any _ m0 (.slice A_x0 xs0.length c_x0) xs0 (w4.heap.size + 1) w5.heap.size (x0.out.keep (by (repeat (first | assumption | exact Below.refl _ _ | refine Below.alloc ?_ (by first | omega | (simp; done) | (simp; omega)) _ | refine Below.setCell ?_ (by first | omega | (simp; done) | (simp; omega)) _ | refine below_drewN ?_ _)))) (by omega)).mono ?_
  rintro e w6 h_r
  replace h_r := h_r.of HR
  obtain ⟨A_og, c_og, rfl, o_og, hb6⟩ := h_r
  have o_og' := (o_og).mono (show (w5.heap.size + 1) ≤ _ from by first | exact Nat.le_refl _ | (simp; done) | (simp; omega)) (Nat.le_refl _)
  clear o_og
  clear b0_c b0_d b0_z
  clear bw_c bw_d bw_z
  have R : Below w5.heap.size w5 w6 := Below.trans (by (repeat (first | assumption | exact Below.refl _ _ | refine Below.alloc ?_ (by first | omega | (simp; done) | (simp; omega)) _ | refine Below.setCell ?_ (by first | omega | (simp; done) | (simp; omega)) _ | refine below_drewN ?_ _))) (hb6.mono (by first | exact Nat.le_refl _ | (simp; done) | (simp; omega)))
  have s6 : w5.heap.size ≤ w6.heap.size := R.size
  have K6 : Hid (Below w.heap.size w w6) := K5.out.trans (R.mono (by omega))
  replace b0 : Hid (Bx w6 w.heap.size (.int .i64 m0) (.slice A0 xs0.length c0)) := b0.out.keep R
  replace bw : Hid (Bx w6 w4.heap.size (.int .i64 rm) (.slice A_ow rl.length c_ow)) := bw.out.keep R
  replace ow : Hid (OwnP w6 w3.heap.size w4.heap.size (.slice A_ow rl.length c_ow) rl) := ow.out.keep R
  replace x0 : Hid (OwnP w6 (w4.heap.size + 1) w5.heap.size (.slice A_x0 xs0.length c_x0) xs0) := x0.out.keep R
  have bx0 : Hid (Bx w6 w5.heap.size (.int .i64 m0) (.slice A_x0 xs0.length c_x0)) := ⟨by have := hb6.size; simp at this; omega, by rw [hb6.cell (by first | (simp; done) | (simp; omega))]; simp, by rw [hb6.cell (by first | (simp; done) | (simp; omega))]; simp⟩
  clear R hb6
  have og : Hid (OwnP w6 (w5.heap.size + 1) w6.heap.size (.slice A_og rl.length c_og) rl) := o_og'
  clear o_og'
  have b0_c := b0.out.2.1
  have b0_d := b0.out.2.2
  have b0_z := b0.out.1
  have bw_c := bw.out.2.1
  have bw_d := bw.out.2.2
  have bw_z := bw.out.1
  have bx0_c := bx0.out.2.1
  have bx0_d := bx0.out.2.2
  have bx0_z := bx0.out.1
  go_wp2_with fail
  refine (eqP_any _ rm rm _ _ _ _ (og.out.keep (by (repeat (first | assumption | exact Below.refl _ _ | refine Below.alloc ?_ (by first | omega | (simp; done) | (simp; omega)) _ | refine Below.setCell ?_ (by first | omega | (simp; done) | (simp; omega)) _ | refine below_drewN ?_ _)))).rd (ow.out.keep (by (repeat (first | assumption | exact Below.refl _ _ | refine Below.alloc ?_ (by first | omega | (simp; done) | (simp; omega)) _ | refine Below.setCell ?_ (by first | omega | (simp; done) | (simp; omega)) _ | refine below_drewN ?_ _)))).rd).mono ?_
  rintro e w7 ⟨rfl, hb7⟩
  clear b0_c b0_d b0_z
  clear bw_c bw_d bw_z
  clear bx0_c bx0_d bx0_z
  have R : Below w6.heap.size w6 w7 := Below.trans (by (repeat (first | assumption | exact Below.refl _ _ | refine Below.alloc ?_ (by first | omega | (simp; done) | (simp; omega)) _ | refine Below.setCell ?_ (by first | omega | (simp; done) | (simp; omega)) _ | refine below_drewN ?_ _))) (hb7.mono (by first | exact Nat.le_refl _ | (simp; done) | (simp; omega)))
  have s7 : w6.heap.size ≤ w7.heap.size := R.size
  have K7 : Hid (Below w.heap.size w w7) := K6.out.trans (R.mono (by omega))
  replace b0 : Hid (Bx w7 w.heap.size (.int .i64 m0) (.slice A0 xs0.length c0)) := b0.out.keep R
  replace bw : Hid (Bx w7 w4.heap.size (.int .i64 rm) (.slice A_ow rl.length c_ow)) := bw.out.keep R
  replace bx0 : Hid (Bx w7 w5.heap.size (.int .i64 m0) (.slice A_x0 xs0.length c_x0)) := bx0.out.keep R
  replace ow : Hid (OwnP w7 w3.heap.size w4.heap.size (.slice A_ow rl.length c_ow) rl) := ow.out.keep R
  replace x0 : Hid (OwnP w7 (w4.heap.size + 1) w5.heap.size (.slice A_x0 xs0.length c_x0) xs0) := x0.out.keep R
  replace og : Hid (OwnP w7 (w5.heap.size + 1) w6.heap.size (.slice A_og rl.length c_og) rl) := og.out.keep R
  have bg : Hid (Bx w7 w6.heap.size (.int .i64 rm) (.slice A_og rl.length c_og)) := ⟨by have := hb7.size; simp at this; omega, by rw [hb7.cell (by first | (simp; done) | (simp; omega))]; simp, by rw [hb7.cell (by first | (simp; done) | (simp; omega))]; simp⟩
  clear R hb7
  have b0_c := b0.out.2.1
  have b0_d := b0.out.2.2
  have b0_z := b0.out.1
  have bw_c := bw.out.2.1
  have bw_d := bw.out.2.2
  have bw_z := bw.out.1
  have bx0_c := bx0.out.2.1
  have bx0_d := bx0.out.2.2
  have bx0_z := bx0.out.1
  have bg_c := bg.out.2.1
  have bg_d := bg.out.2.2
  have bg_z := bg.out.1
  go_wp2
  clear b0_c b0_d b0_z
  clear bw_c bw_d bw_z
  clear bx0_c bx0_d bx0_z
  clear bg_c bg_d bg_z
  have L0 : Below w.heap.size w w7.drew := below_drew K7.out
  have T0 : Hid (Bx w7.drew w.heap.size (.int .i64 m0) (.slice A0 xs0.length c0) ∧ Bx w7.drew w4.heap.size (.int .i64 rm) (.slice A_ow rl.length c_ow) ∧ Bx w7.drew w5.heap.size (.int .i64 m0) (.slice A_x0 xs0.length c_x0) ∧ Bx w7.drew w6.heap.size (.int .i64 rm) (.slice A_og rl.length c_og) ∧ OwnP w7.drew w3.heap.size w4.heap.size (.slice A_ow rl.length c_ow) rl ∧ OwnP w7.drew (w4.heap.size + 1) w5.heap.size (.slice A_x0 xs0.length c_x0) xs0 ∧ OwnP w7.drew (w5.heap.size + 1) w6.heap.size (.slice A_og rl.length c_og) rl ∧ Below w.heap.size w w7.drew ∧ w7.heap.size ≤ w7.drew.heap.size) := ⟨b0.out, bw.out, bx0.out, bg.out, ow.out, x0.out, og.out, L0, Nat.le_refl _⟩
  go_region_held3 (fun w' => w'.cell? ⟨w.heap.size, 0, none⟩ = some (.int .i64 m0) ∧ w'.cell? ⟨w.heap.size, 1, none⟩ = some (.slice A0 xs0.length c0) ∧ w'.cell? ⟨w4.heap.size, 0, none⟩ = some (.int .i64 rm) ∧ w'.cell? ⟨w4.heap.size, 1, none⟩ = some (.slice A_ow rl.length c_ow) ∧ w'.cell? ⟨w5.heap.size, 0, none⟩ = some (.int .i64 m0) ∧ w'.cell? ⟨w5.heap.size, 1, none⟩ = some (.slice A_x0 xs0.length c_x0) ∧ w'.cell? ⟨w6.heap.size, 0, none⟩ = some (.int .i64 rm) ∧ w'.cell? ⟨w6.heap.size, 1, none⟩ = some (.slice A_og rl.length c_og) ∧ Hid (Bx w' w.heap.size (.int .i64 m0) (.slice A0 xs0.length c0) ∧ Bx w' w4.heap.size (.int .i64 rm) (.slice A_ow rl.length c_ow) ∧ Bx w' w5.heap.size (.int .i64 m0) (.slice A_x0 xs0.length c_x0) ∧ Bx w' w6.heap.size (.int .i64 rm) (.slice A_og rl.length c_og) ∧ OwnP w' w3.heap.size w4.heap.size (.slice A_ow rl.length c_ow) rl ∧ OwnP w' (w4.heap.size + 1) w5.heap.size (.slice A_x0 xs0.length c_x0) xs0 ∧ OwnP w' (w5.heap.size + 1) w6.heap.size (.slice A_og rl.length c_og) rl ∧ Below w.heap.size w w' ∧ w7.heap.size ≤ w'.heap.size))
    (first | exact ⟨(T0.out.1).2.1, (T0.out.1).2.2, (T0.out.2.1).2.1, (T0.out.2.1).2.2, (T0.out.2.2.1).2.1, (T0.out.2.2.1).2.2, (T0.out.2.2.2.1).2.1, (T0.out.2.2.2.1).2.2, T0⟩ | exact ⟨(T1.out.1).2.1, (T1.out.1).2.2, (T1.out.2.1).2.1, (T1.out.2.1).2.2, (T1.out.2.2.1).2.1, (T1.out.2.2.1).2.2, (T1.out.2.2.2.1).2.1, (T1.out.2.2.2.1).2.2, T1⟩ | exact ⟨(T2.out.1).2.1, (T2.out.1).2.2, (T2.out.2.1).2.1, (T2.out.2.1).2.2, (T2.out.2.2.1).2.1, (T2.out.2.2.1).2.2, (T2.out.2.2.2.1).2.1, (T2.out.2.2.2.1).2.2, T2⟩)
    (first
      | (go_at_call 17; refine (toP_any _ m0 _ xs0 (hv0.below L0) (by omega)).mono ?_; rintro e w8 ⟨A_t, c_t, rfl, o_t, hbA⟩; have T1 : Hid (Bx w8 w.heap.size (.int .i64 m0) (.slice A0 xs0.length c0) ∧ Bx w8 w4.heap.size (.int .i64 rm) (.slice A_ow rl.length c_ow) ∧ Bx w8 w5.heap.size (.int .i64 m0) (.slice A_x0 xs0.length c_x0) ∧ Bx w8 w6.heap.size (.int .i64 rm) (.slice A_og rl.length c_og) ∧ OwnP w8 w3.heap.size w4.heap.size (.slice A_ow rl.length c_ow) rl ∧ OwnP w8 (w4.heap.size + 1) w5.heap.size (.slice A_x0 xs0.length c_x0) xs0 ∧ OwnP w8 (w5.heap.size + 1) w6.heap.size (.slice A_og rl.length c_og) rl ∧ Below w.heap.size w w8 ∧ w7.heap.size ≤ w8.heap.size) := ⟨(T0.out.1).keep hbA, (T0.out.2.1).keep hbA, (T0.out.2.2.1).keep hbA, (T0.out.2.2.2.1).keep hbA, (T0.out.2.2.2.2.1).keep hbA, (T0.out.2.2.2.2.2.1).keep hbA, (T0.out.2.2.2.2.2.2.1).keep hbA, (T0.out.2.2.2.2.2.2.2.1).trans (hbA.mono (Nat.le_trans (show w.heap.size ≤ w7.heap.size from by omega) (T0.out.2.2.2.2.2.2.2.2))), Nat.le_trans (T0.out.2.2.2.2.2.2.2.2) hbA.size⟩)
      | (go_at_call 19; refine (eqP_any _ m0 m0 _ _ xs0 xs0 (T1.out.2.2.2.2.2.1).rd o_t.rd).mono ?_; rintro e w9 ⟨rfl, hbB⟩; have T2 : Hid (Bx w9 w.heap.size (.int .i64 m0) (.slice A0 xs0.length c0) ∧ Bx w9 w4.heap.size (.int .i64 rm) (.slice A_ow rl.length c_ow) ∧ Bx w9 w5.heap.size (.int .i64 m0) (.slice A_x0 xs0.length c_x0) ∧ Bx w9 w6.heap.size (.int .i64 rm) (.slice A_og rl.length c_og) ∧ OwnP w9 w3.heap.size w4.heap.size (.slice A_ow rl.length c_ow) rl ∧ OwnP w9 (w4.heap.size + 1) w5.heap.size (.slice A_x0 xs0.length c_x0) xs0 ∧ OwnP w9 (w5.heap.size + 1) w6.heap.size (.slice A_og rl.length c_og) rl ∧ Below w.heap.size w w9 ∧ w7.heap.size ≤ w9.heap.size) := ⟨(T1.out.1).keep hbB, (T1.out.2.1).keep hbB, (T1.out.2.2.1).keep hbB, (T1.out.2.2.2.1).keep hbB, (T1.out.2.2.2.2.1).keep hbB, (T1.out.2.2.2.2.2.1).keep hbB, (T1.out.2.2.2.2.2.2.1).keep hbB, (T1.out.2.2.2.2.2.2.2.1).trans (hbB.mono (Nat.le_trans (show w.heap.size ≤ w7.heap.size from by omega) (T1.out.2.2.2.2.2.2.2.2))), Nat.le_trans (T1.out.2.2.2.2.2.2.2.2) hbB.size⟩))
  have s9 : w7.heap.size ≤ w9.heap.size := T2.out.2.2.2.2.2.2.2.2
  have K9 : Hid (Below w.heap.size w w9) := T2.out.2.2.2.2.2.2.2.1
  replace b0 : Hid (Bx w9 w.heap.size (.int .i64 m0) (.slice A0 xs0.length c0)) := T2.out.1
  replace bw : Hid (Bx w9 w4.heap.size (.int .i64 rm) (.slice A_ow rl.length c_ow)) := T2.out.2.1
  replace bx0 : Hid (Bx w9 w5.heap.size (.int .i64 m0) (.slice A_x0 xs0.length c_x0)) := T2.out.2.2.1
  replace bg : Hid (Bx w9 w6.heap.size (.int .i64 rm) (.slice A_og rl.length c_og)) := T2.out.2.2.2.1
  replace ow : Hid (OwnP w9 w3.heap.size w4.heap.size (.slice A_ow rl.length c_ow) rl) := T2.out.2.2.2.2.1
  replace x0 : Hid (OwnP w9 (w4.heap.size + 1) w5.heap.size (.slice A_x0 xs0.length c_x0) xs0) := T2.out.2.2.2.2.2.1
  replace og : Hid (OwnP w9 (w5.heap.size + 1) w6.heap.size (.slice A_og rl.length c_og) rl) := T2.out.2.2.2.2.2.2.1
  clear T0 T1 T2 L0 o_t
  have b0_c := b0.out.2.1
  have b0_d := b0.out.2.2
  have b0_z := b0.out.1
  have bw_c := bw.out.2.1
  have bw_d := bw.out.2.2
  have bw_z := bw.out.1
  have bx0_c := bx0.out.2.1
  have bx0_d := bx0.out.2.2
  have bx0_z := bx0.out.1
  have bg_c := bg.out.2.1
  have bg_d := bg.out.2.2
  have bg_z := bg.out.1
  go_wp2_with fail
  refine (markPB_any _ (w4.heap.size + 1) w5.heap.size m0 _ xs0 (1) (x0.out.keep (by (repeat (first | assumption | exact Below.refl _ _ | refine Below.alloc ?_ (by first | omega | (simp; done) | (simp; omega)) _ | refine Below.setCell ?_ (by first | omega | (simp; done) | (simp; omega)) _ | refine below_drewN ?_ _)))) (by omega) (by omega) (by omega)).mono ?_
  rintro e w10 ⟨rfl, o_m, hg10⟩
  clear b0_c b0_d b0_z
  clear bw_c bw_d bw_z
  clear bx0_c bx0_d bx0_z
  clear bg_c bg_d bg_z
  have R : Within (w4.heap.size + 1) w5.heap.size w9 w10 := Within.behind (by (repeat (first | assumption | exact Below.refl _ _ | refine Below.alloc ?_ (by first | omega | (simp; done) | (simp; omega)) _ | refine Below.setCell ?_ (by first | omega | (simp; done) | (simp; omega)) _ | refine below_drewN ?_ _))) hg10
  have s10 : w9.heap.size ≤ w10.heap.size := R.2.2.2.1
  have K10 : Hid (Below w.heap.size w w10) := R.below K9.out (by omega) (by omega)
  replace b0 : Hid (Bx w10 w.heap.size (.int .i64 m0) (.slice A0 xs0.length c0)) := b0.out.within R (by omega)
  replace bw : Hid (Bx w10 w4.heap.size (.int .i64 rm) (.slice A_ow rl.length c_ow)) := bw.out.within R (by omega)
  replace bx0 : Hid (Bx w10 w5.heap.size (.int .i64 m0) (.slice A_x0 xs0.length c_x0)) := bx0.out.within R (by omega)
  replace bg : Hid (Bx w10 w6.heap.size (.int .i64 rm) (.slice A_og rl.length c_og)) := bg.out.within R (by omega)
  replace ow : Hid (OwnP w10 w3.heap.size w4.heap.size (.slice A_ow rl.length c_ow) rl) := ow.out.within R (by omega)
  replace og : Hid (OwnP w10 (w5.heap.size + 1) w6.heap.size (.slice A_og rl.length c_og) rl) := og.out.within R (by omega)
  clear R hg10
  replace x0 : Hid (OwnP w10 (w4.heap.size + 1) w5.heap.size (.slice A_x0 xs0.length c_x0) (mkP (1) xs0)) := o_m
  clear o_m
  have b0_c := b0.out.2.1
  have b0_d := b0.out.2.2
  have b0_z := b0.out.1
  have bw_c := bw.out.2.1
  have bw_d := bw.out.2.2
  have bw_z := bw.out.1
  have bx0_c := bx0.out.2.1
  have bx0_d := bx0.out.2.2
  have bx0_z := bx0.out.1
  have bg_c := bg.out.2.1
  have bg_d := bg.out.2.2
  have bg_z := bg.out.1
  go_wp2_with fail
  refine (eqP_any _ rm rm _ _ _ _ (og.out.keep (by (repeat (first | assumption | exact Below.refl _ _ | refine Below.alloc ?_ (by first | omega | (simp; done) | (simp; omega)) _ | refine Below.setCell ?_ (by first | omega | (simp; done) | (simp; omega)) _ | refine below_drewN ?_ _)))).rd (ow.out.keep (by (repeat (first | assumption | exact Below.refl _ _ | refine Below.alloc ?_ (by first | omega | (simp; done) | (simp; omega)) _ | refine Below.setCell ?_ (by first | omega | (simp; done) | (simp; omega)) _ | refine below_drewN ?_ _)))).rd).mono ?_
  rintro e w11 ⟨rfl, hb11⟩
  clear b0_c b0_d b0_z
  clear bw_c bw_d bw_z
  clear bx0_c bx0_d bx0_z
  clear bg_c bg_d bg_z
  have R : Below w10.heap.size w10 w11 := Below.trans (by (repeat (first | assumption | exact Below.refl _ _ | refine Below.alloc ?_ (by first | omega | (simp; done) | (simp; omega)) _ | refine Below.setCell ?_ (by first | omega | (simp; done) | (simp; omega)) _ | refine below_drewN ?_ _))) (hb11.mono (by first | exact Nat.le_refl _ | (simp; done) | (simp; omega)))
  have s11 : w10.heap.size ≤ w11.heap.size := R.size
  have K11 : Hid (Below w.heap.size w w11) := K10.out.trans (R.mono (by omega))
  replace b0 : Hid (Bx w11 w.heap.size (.int .i64 m0) (.slice A0 xs0.length c0)) := b0.out.keep R
  replace bw : Hid (Bx w11 w4.heap.size (.int .i64 rm) (.slice A_ow rl.length c_ow)) := bw.out.keep R
  replace bx0 : Hid (Bx w11 w5.heap.size (.int .i64 m0) (.slice A_x0 xs0.length c_x0)) := bx0.out.keep R
  replace bg : Hid (Bx w11 w6.heap.size (.int .i64 rm) (.slice A_og rl.length c_og)) := bg.out.keep R
  replace ow : Hid (OwnP w11 w3.heap.size w4.heap.size (.slice A_ow rl.length c_ow) rl) := ow.out.keep R
  replace x0 : Hid (OwnP w11 (w4.heap.size + 1) w5.heap.size (.slice A_x0 xs0.length c_x0) (mkP (1) xs0)) := x0.out.keep R
  replace og : Hid (OwnP w11 (w5.heap.size + 1) w6.heap.size (.slice A_og rl.length c_og) rl) := og.out.keep R
  clear R hb11
  have b0_c := b0.out.2.1
  have b0_d := b0.out.2.2
  have b0_z := b0.out.1
  have bw_c := bw.out.2.1
  have bw_d := bw.out.2.2
  have bw_z := bw.out.1
  have bx0_c := bx0.out.2.1
  have bx0_d := bx0.out.2.2
  have bx0_z := bx0.out.1
  have bg_c := bg.out.2.1
  have bg_d := bg.out.2.2
  have bg_z := bg.out.1
  go_wp2_with fail
  refine (markPB_any _ (w5.heap.size + 1) w6.heap.size rm _ rl (1) (og.out.keep (by (repeat (first | assumption | exact Below.refl _ _ | refine Below.alloc ?_ (by first | omega | (simp; done) | (simp; omega)) _ | refine Below.setCell ?_ (by first | omega | (simp; done) | (simp; omega)) _ | refine below_drewN ?_ _)))) (by omega) (by omega) (by omega)).mono ?_
  rintro e w12 ⟨rfl, o_m, hg12⟩
  clear b0_c b0_d b0_z
  clear bw_c bw_d bw_z
  clear bx0_c bx0_d bx0_z
  clear bg_c bg_d bg_z
  have R : Within (w5.heap.size + 1) w6.heap.size w11 w12 := Within.behind (by (repeat (first | assumption | exact Below.refl _ _ | refine Below.alloc ?_ (by first | omega | (simp; done) | (simp; omega)) _ | refine Below.setCell ?_ (by first | omega | (simp; done) | (simp; omega)) _ | refine below_drewN ?_ _))) hg12
  have s12 : w11.heap.size ≤ w12.heap.size := R.2.2.2.1
  have K12 : Hid (Below w.heap.size w w12) := R.below K11.out (by omega) (by omega)
  replace b0 : Hid (Bx w12 w.heap.size (.int .i64 m0) (.slice A0 xs0.length c0)) := b0.out.within R (by omega)
  replace bw : Hid (Bx w12 w4.heap.size (.int .i64 rm) (.slice A_ow rl.length c_ow)) := bw.out.within R (by omega)
  replace bx0 : Hid (Bx w12 w5.heap.size (.int .i64 m0) (.slice A_x0 xs0.length c_x0)) := bx0.out.within R (by omega)
  replace bg : Hid (Bx w12 w6.heap.size (.int .i64 rm) (.slice A_og rl.length c_og)) := bg.out.within R (by omega)
  replace ow : Hid (OwnP w12 w3.heap.size w4.heap.size (.slice A_ow rl.length c_ow) rl) := ow.out.within R (by omega)
  replace x0 : Hid (OwnP w12 (w4.heap.size + 1) w5.heap.size (.slice A_x0 xs0.length c_x0) (mkP (1) xs0)) := x0.out.within R (by omega)
  clear R hg12
  replace og : Hid (OwnP w12 (w5.heap.size + 1) w6.heap.size (.slice A_og rl.length c_og) (mkP (1) rl)) := o_m
  clear o_m
  have b0_c := b0.out.2.1
  have b0_d := b0.out.2.2
  have b0_z := b0.out.1
  have bw_c := bw.out.2.1
  have bw_d := bw.out.2.2
  have bw_z := bw.out.1
  have bx0_c := bx0.out.2.1
  have bx0_d := bx0.out.2.2
  have bx0_z := bx0.out.1
  have bg_c := bg.out.2.1
  have bg_d := bg.out.2.2
  have bg_z := bg.out.1
  go_wp2_with fail
  refine (heldPB_any _ (w5.heap.size + 1) w6.heap.size rm _ rl (1) (og.out.keep (by (repeat (first | assumption | exact Below.refl _ _ | refine Below.alloc ?_ (by first | omega | (simp; done) | (simp; omega)) _ | refine Below.setCell ?_ (by first | omega | (simp; done) | (simp; omega)) _ | refine below_drewN ?_ _)))) (by omega) (by omega) (by omega)).mono ?_
  rintro e w13 ⟨rfl, hb13⟩
  clear b0_c b0_d b0_z
  clear bw_c bw_d bw_z
  clear bx0_c bx0_d bx0_z
  clear bg_c bg_d bg_z
  have R : Below w12.heap.size w12 w13 := Below.trans (by (repeat (first | assumption | exact Below.refl _ _ | refine Below.alloc ?_ (by first | omega | (simp; done) | (simp; omega)) _ | refine Below.setCell ?_ (by first | omega | (simp; done) | (simp; omega)) _ | refine below_drewN ?_ _))) (hb13.mono (by first | exact Nat.le_refl _ | (simp; done) | (simp; omega)))
  have s13 : w12.heap.size ≤ w13.heap.size := R.size
  have K13 : Hid (Below w.heap.size w w13) := K12.out.trans (R.mono (by omega))
  replace b0 : Hid (Bx w13 w.heap.size (.int .i64 m0) (.slice A0 xs0.length c0)) := b0.out.keep R
  replace bw : Hid (Bx w13 w4.heap.size (.int .i64 rm) (.slice A_ow rl.length c_ow)) := bw.out.keep R
  replace bx0 : Hid (Bx w13 w5.heap.size (.int .i64 m0) (.slice A_x0 xs0.length c_x0)) := bx0.out.keep R
  replace bg : Hid (Bx w13 w6.heap.size (.int .i64 rm) (.slice A_og rl.length c_og)) := bg.out.keep R
  replace ow : Hid (OwnP w13 w3.heap.size w4.heap.size (.slice A_ow rl.length c_ow) rl) := ow.out.keep R
  replace x0 : Hid (OwnP w13 (w4.heap.size + 1) w5.heap.size (.slice A_x0 xs0.length c_x0) (mkP (1) xs0)) := x0.out.keep R
  replace og : Hid (OwnP w13 (w5.heap.size + 1) w6.heap.size (.slice A_og rl.length c_og) (mkP (1) rl)) := og.out.keep R
  clear R hb13
  have b0_c := b0.out.2.1
  have b0_d := b0.out.2.2
  have b0_z := b0.out.1
  have bw_c := bw.out.2.1
  have bw_d := bw.out.2.2
  have bw_z := bw.out.1
  have bx0_c := bx0.out.2.1
  have bx0_d := bx0.out.2.2
  have bx0_z := bx0.out.1
  have bg_c := bg.out.2.1
  have bg_d := bg.out.2.2
  have bg_z := bg.out.1
  go_wp2_with fail
  refine (toP_any _ m0 _ xs0 (hv0.below K13.out) (by omega)).mono ?_
  rintro e w14 ⟨A_y0, c_y0, rfl, o_y0, hb14⟩
  clear b0_c b0_d b0_z
  clear bw_c bw_d bw_z
  clear bx0_c bx0_d bx0_z
  clear bg_c bg_d bg_z
  have o_y0' := (o_y0).mono (show w13.heap.size ≤ _ from by first | exact Nat.le_refl _ | (simp; done) | (simp; omega)) (Nat.le_refl _)
  clear o_y0
  have R : Below w13.heap.size w13 w14 := Below.trans (by (repeat (first | assumption | exact Below.refl _ _ | refine Below.alloc ?_ (by first | omega | (simp; done) | (simp; omega)) _ | refine Below.setCell ?_ (by first | omega | (simp; done) | (simp; omega)) _ | refine below_drewN ?_ _))) (hb14.mono (by first | exact Nat.le_refl _ | (simp; done) | (simp; omega)))
  have s14 : w13.heap.size ≤ w14.heap.size := R.size
  have K14 : Hid (Below w.heap.size w w14) := K13.out.trans (R.mono (by omega))
  replace b0 : Hid (Bx w14 w.heap.size (.int .i64 m0) (.slice A0 xs0.length c0)) := b0.out.keep R
  replace bw : Hid (Bx w14 w4.heap.size (.int .i64 rm) (.slice A_ow rl.length c_ow)) := bw.out.keep R
  replace bx0 : Hid (Bx w14 w5.heap.size (.int .i64 m0) (.slice A_x0 xs0.length c_x0)) := bx0.out.keep R
  replace bg : Hid (Bx w14 w6.heap.size (.int .i64 rm) (.slice A_og rl.length c_og)) := bg.out.keep R
  replace ow : Hid (OwnP w14 w3.heap.size w4.heap.size (.slice A_ow rl.length c_ow) rl) := ow.out.keep R
  replace x0 : Hid (OwnP w14 (w4.heap.size + 1) w5.heap.size (.slice A_x0 xs0.length c_x0) (mkP (1) xs0)) := x0.out.keep R
  replace og : Hid (OwnP w14 (w5.heap.size + 1) w6.heap.size (.slice A_og rl.length c_og) (mkP (1) rl)) := og.out.keep R
  clear R hb14
  have y0 : Hid (OwnP w14 w13.heap.size w14.heap.size (.slice A_y0 xs0.length c_y0) xs0) := o_y0'
  clear o_y0'
  have b0_c := b0.out.2.1
  have b0_d := b0.out.2.2
  have b0_z := b0.out.1
  have bw_c := bw.out.2.1
  have bw_d := bw.out.2.2
  have bw_z := bw.out.1
  have bx0_c := bx0.out.2.1
  have bx0_d := bx0.out.2.2
  have bx0_z := bx0.out.1
  have bg_c := bg.out.2.1
  have bg_d := bg.out.2.2
  have bg_z := bg.out.1
  go_wp2_with fail
  refine (iTurnPlaneR_any _ m0 (.slice A_y0 xs0.length c_y0) xs0 w13.heap.size w14.heap.size (y0.out.keep (by (repeat (first | assumption | exact Below.refl _ _ | refine Below.alloc ?_ (by first | omega | (simp; done) | (simp; omega)) _ | refine Below.setCell ?_ (by first | omega | (simp; done) | (simp; omega)) _ | refine below_drewN ?_ _)))) (by omega)).mono ?_
  rintro e w15 h_r
  replace h_r := h_r.of HR
  obtain ⟨A_oh, c_oh, rfl, o_oh, hb15⟩ := h_r
  have o_oh' := (o_oh).mono (show w14.heap.size ≤ _ from by first | exact Nat.le_refl _ | (simp; done) | (simp; omega)) (Nat.le_refl _)
  clear o_oh
  clear b0_c b0_d b0_z
  clear bw_c bw_d bw_z
  clear bx0_c bx0_d bx0_z
  clear bg_c bg_d bg_z
  have R : Below w14.heap.size w14 w15 := Below.trans (by (repeat (first | assumption | exact Below.refl _ _ | refine Below.alloc ?_ (by first | omega | (simp; done) | (simp; omega)) _ | refine Below.setCell ?_ (by first | omega | (simp; done) | (simp; omega)) _ | refine below_drewN ?_ _))) (hb15.mono (by first | exact Nat.le_refl _ | (simp; done) | (simp; omega)))
  have s15 : w14.heap.size ≤ w15.heap.size := R.size
  have K15 : Hid (Below w.heap.size w w15) := K14.out.trans (R.mono (by omega))
  replace b0 : Hid (Bx w15 w.heap.size (.int .i64 m0) (.slice A0 xs0.length c0)) := b0.out.keep R
  replace bw : Hid (Bx w15 w4.heap.size (.int .i64 rm) (.slice A_ow rl.length c_ow)) := bw.out.keep R
  replace bx0 : Hid (Bx w15 w5.heap.size (.int .i64 m0) (.slice A_x0 xs0.length c_x0)) := bx0.out.keep R
  replace bg : Hid (Bx w15 w6.heap.size (.int .i64 rm) (.slice A_og rl.length c_og)) := bg.out.keep R
  replace ow : Hid (OwnP w15 w3.heap.size w4.heap.size (.slice A_ow rl.length c_ow) rl) := ow.out.keep R
  replace x0 : Hid (OwnP w15 (w4.heap.size + 1) w5.heap.size (.slice A_x0 xs0.length c_x0) (mkP (1) xs0)) := x0.out.keep R
  replace og : Hid (OwnP w15 (w5.heap.size + 1) w6.heap.size (.slice A_og rl.length c_og) (mkP (1) rl)) := og.out.keep R
  replace y0 : Hid (OwnP w15 w13.heap.size w14.heap.size (.slice A_y0 xs0.length c_y0) xs0) := y0.out.keep R
  clear R hb15
  have oh : Hid (OwnP w15 w14.heap.size w15.heap.size (.slice A_oh rl.length c_oh) rl) := o_oh'
  clear o_oh'
  have b0_c := b0.out.2.1
  have b0_d := b0.out.2.2
  have b0_z := b0.out.1
  have bw_c := bw.out.2.1
  have bw_d := bw.out.2.2
  have bw_z := bw.out.1
  have bx0_c := bx0.out.2.1
  have bx0_d := bx0.out.2.2
  have bx0_z := bx0.out.1
  have bg_c := bg.out.2.1
  have bg_d := bg.out.2.2
  have bg_z := bg.out.1
  go_wp2_with fail
  refine (eqP_any _ rm rm _ _ _ _ (oh.out.keep (by (repeat (first | assumption | exact Below.refl _ _ | refine Below.alloc ?_ (by first | omega | (simp; done) | (simp; omega)) _ | refine Below.setCell ?_ (by first | omega | (simp; done) | (simp; omega)) _ | refine below_drewN ?_ _)))).rd (ow.out.keep (by (repeat (first | assumption | exact Below.refl _ _ | refine Below.alloc ?_ (by first | omega | (simp; done) | (simp; omega)) _ | refine Below.setCell ?_ (by first | omega | (simp; done) | (simp; omega)) _ | refine below_drewN ?_ _)))).rd).mono ?_
  rintro e w16 ⟨rfl, hb16⟩
  clear b0_c b0_d b0_z
  clear bw_c bw_d bw_z
  clear bx0_c bx0_d bx0_z
  clear bg_c bg_d bg_z
  have R : Below w15.heap.size w15 w16 := Below.trans (by (repeat (first | assumption | exact Below.refl _ _ | refine Below.alloc ?_ (by first | omega | (simp; done) | (simp; omega)) _ | refine Below.setCell ?_ (by first | omega | (simp; done) | (simp; omega)) _ | refine below_drewN ?_ _))) (hb16.mono (by first | exact Nat.le_refl _ | (simp; done) | (simp; omega)))
  have s16 : w15.heap.size ≤ w16.heap.size := R.size
  have K16 : Hid (Below w.heap.size w w16) := K15.out.trans (R.mono (by omega))
  replace b0 : Hid (Bx w16 w.heap.size (.int .i64 m0) (.slice A0 xs0.length c0)) := b0.out.keep R
  replace bw : Hid (Bx w16 w4.heap.size (.int .i64 rm) (.slice A_ow rl.length c_ow)) := bw.out.keep R
  replace bx0 : Hid (Bx w16 w5.heap.size (.int .i64 m0) (.slice A_x0 xs0.length c_x0)) := bx0.out.keep R
  replace bg : Hid (Bx w16 w6.heap.size (.int .i64 rm) (.slice A_og rl.length c_og)) := bg.out.keep R
  replace ow : Hid (OwnP w16 w3.heap.size w4.heap.size (.slice A_ow rl.length c_ow) rl) := ow.out.keep R
  replace x0 : Hid (OwnP w16 (w4.heap.size + 1) w5.heap.size (.slice A_x0 xs0.length c_x0) (mkP (1) xs0)) := x0.out.keep R
  replace og : Hid (OwnP w16 (w5.heap.size + 1) w6.heap.size (.slice A_og rl.length c_og) (mkP (1) rl)) := og.out.keep R
  replace y0 : Hid (OwnP w16 w13.heap.size w14.heap.size (.slice A_y0 xs0.length c_y0) xs0) := y0.out.keep R
  replace oh : Hid (OwnP w16 w14.heap.size w15.heap.size (.slice A_oh rl.length c_oh) rl) := oh.out.keep R
  have bh : Hid (Bx w16 w15.heap.size (.int .i64 rm) (.slice A_oh rl.length c_oh)) := ⟨by have := hb16.size; simp at this; omega, by rw [hb16.cell (by first | (simp; done) | (simp; omega))]; simp, by rw [hb16.cell (by first | (simp; done) | (simp; omega))]; simp⟩
  clear R hb16
  have b0_c := b0.out.2.1
  have b0_d := b0.out.2.2
  have b0_z := b0.out.1
  have bw_c := bw.out.2.1
  have bw_d := bw.out.2.2
  have bw_z := bw.out.1
  have bx0_c := bx0.out.2.1
  have bx0_d := bx0.out.2.2
  have bx0_z := bx0.out.1
  have bg_c := bg.out.2.1
  have bg_d := bg.out.2.2
  have bg_z := bg.out.1
  have bh_c := bh.out.2.1
  have bh_d := bh.out.2.2
  have bh_z := bh.out.1
  go_wp2_with fail
  refine (heldPB_any _ (w5.heap.size + 1) w6.heap.size rm _ rl (1) (og.out.keep (by (repeat (first | assumption | exact Below.refl _ _ | refine Below.alloc ?_ (by first | omega | (simp; done) | (simp; omega)) _ | refine Below.setCell ?_ (by first | omega | (simp; done) | (simp; omega)) _ | refine below_drewN ?_ _)))) (by omega) (by omega) (by omega)).mono ?_
  rintro e w17 ⟨rfl, hb17⟩
  clear b0_c b0_d b0_z
  clear bw_c bw_d bw_z
  clear bx0_c bx0_d bx0_z
  clear bg_c bg_d bg_z
  clear bh_c bh_d bh_z
  have R : Below w16.heap.size w16 w17 := Below.trans (by (repeat (first | assumption | exact Below.refl _ _ | refine Below.alloc ?_ (by first | omega | (simp; done) | (simp; omega)) _ | refine Below.setCell ?_ (by first | omega | (simp; done) | (simp; omega)) _ | refine below_drewN ?_ _))) (hb17.mono (by first | exact Nat.le_refl _ | (simp; done) | (simp; omega)))
  have s17 : w16.heap.size ≤ w17.heap.size := R.size
  have K17 : Hid (Below w.heap.size w w17) := K16.out.trans (R.mono (by omega))
  replace b0 : Hid (Bx w17 w.heap.size (.int .i64 m0) (.slice A0 xs0.length c0)) := b0.out.keep R
  replace bw : Hid (Bx w17 w4.heap.size (.int .i64 rm) (.slice A_ow rl.length c_ow)) := bw.out.keep R
  replace bx0 : Hid (Bx w17 w5.heap.size (.int .i64 m0) (.slice A_x0 xs0.length c_x0)) := bx0.out.keep R
  replace bg : Hid (Bx w17 w6.heap.size (.int .i64 rm) (.slice A_og rl.length c_og)) := bg.out.keep R
  replace bh : Hid (Bx w17 w15.heap.size (.int .i64 rm) (.slice A_oh rl.length c_oh)) := bh.out.keep R
  replace ow : Hid (OwnP w17 w3.heap.size w4.heap.size (.slice A_ow rl.length c_ow) rl) := ow.out.keep R
  replace x0 : Hid (OwnP w17 (w4.heap.size + 1) w5.heap.size (.slice A_x0 xs0.length c_x0) (mkP (1) xs0)) := x0.out.keep R
  replace og : Hid (OwnP w17 (w5.heap.size + 1) w6.heap.size (.slice A_og rl.length c_og) (mkP (1) rl)) := og.out.keep R
  replace y0 : Hid (OwnP w17 w13.heap.size w14.heap.size (.slice A_y0 xs0.length c_y0) xs0) := y0.out.keep R
  replace oh : Hid (OwnP w17 w14.heap.size w15.heap.size (.slice A_oh rl.length c_oh) rl) := oh.out.keep R
  clear R hb17
  have b0_c := b0.out.2.1
  have b0_d := b0.out.2.2
  have b0_z := b0.out.1
  have bw_c := bw.out.2.1
  have bw_d := bw.out.2.2
  have bw_z := bw.out.1
  have bx0_c := bx0.out.2.1
  have bx0_d := bx0.out.2.2
  have bx0_z := bx0.out.1
  have bg_c := bg.out.2.1
  have bg_d := bg.out.2.2
  have bg_z := bg.out.1
  have bh_c := bh.out.2.1
  have bh_d := bh.out.2.2
  have bh_z := bh.out.1
  go_wp2
  go_ret
  exact ⟨rfl, K17.out⟩


end Go.Proofs.Ytenofgofcioffaa
