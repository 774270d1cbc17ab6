/- Contracts over this seat's translation. Condition: each contract's own. -/
import Derived.Test.YtglbccikdglcgaaGreatDoorS
import Derived.ProofKit
import Derived.Laws.Bits64b
import Derived.Lib.Mul64
import Derived.OpenShut
import Derived.Below
import Derived.ChangeSame
import Derived.Deep.Modes
import Derived.Lib.SmallJoins
import Derived.ChangeSlices
import Derived.WalkKit
import Derived.WalkSpells
import Derived.WalkLawsBesides
import Derived.Deep.QuietTactic
import Derived.BigQuiet
import Derived.Deep.RegionHeld3
import Derived.Deep.RegionWith
import Derived.Deep.RegionLaw
import Derived.Deep.AppendLies
import Derived.Laws.CopyOwn
import Derived.Deep.DeepCutAuto
import Derived.Deep.OwnRows
import Derived.Deep.LoopGhost
import Derived.Deep.DeepFit
import Derived.Deep.DeepMust
import Derived.Deep.Draws
import Derived.Deep.CutRange
import Derived.Maps.AppendAt
import Derived.Lib.Hide
import Derived.StillTailTactics
import Derived.Laws.MakeOwn
import Derived.Deep.Matrix
import Derived.ChangeAgain
import Derived.SizedLaws
import Derived.Handed
import Derived.Lib.SplitLaws
import Derived.Lib.ParseIntB
import Derived.Lib.ItoaMem
import Derived.Lib.ItoaLen
import Derived.Laws.BytesArg
import Derived.Lib.Join
import Derived.Lib.IndexBytes
set_option linter.unusedVariables false
open Go Go.RowKit
namespace Go.Proofs.YtglbccikdglcgaaGreatDoor
/-! ### Two small facts, also for a seat without the laws' copies -/
theorem eq_of_getD {xs ys : List Int} (hl : xs.length = ys.length) (h : ∀ k, k < xs.length → xs.getD k 0 = ys.getD k 0) : xs = ys := by
  apply List.ext_getElem hl
  intro i h1 h2
  have := h i h1
  rwa [List.getD_eq_getElem?_getD, List.getD_eq_getElem?_getD, List.getElem?_eq_getElem h1, List.getElem?_eq_getElem h2] at this
theorem grownBy_setCell (w : World) (p : Addr) (u : Value) : w.grownBy (w.setCell p u) (some p.block) :=
  ⟨by simp [World.setCell], by simp [World.setCell], by simp [World.setCell], by simp [World.setCell], fun k _ hne => Below.heap_setCell w p u k (by rintro rfl; exact hne rfl)⟩

/-! ### The laws' own comparisons of lists -/
theorem likeInts_any (w : World) (v u : Value) (xs ys : List Int) (hv : RdI w v xs) (hu : RdI w u ys) : Calls Tryz.prog 34 #[v, u] w fun e w' => e = .returned (.bool (xs == ys)) ∧ ∃ n, w' = w.drewN n := by
  obtain ⟨A, c, rfl, hc1, hc2, hA⟩ := hv
  obtain ⟨A', c', rfl, hc1', hc2', hA'⟩ := hu
  unfold maxLen at hc2 hc2'
  by_cases hl : xs.length = ys.length
  · have hnl : (xs.length != ys.length) = false := by simpa using hl
    have hnl' : ((xs.length : Int) != (ys.length : Int)) = false := by rw [hl]; simp
    have HL := Lib.hid hl
    clear hl
    go_enter Tryz.func34, Tryz.ntmps34
    go_wp2
    go_loopw [5] (fun i wr => ∃ k : Nat, k ≤ xs.length ∧ i = .int .i64 k ∧ Hid (∀ j, j < k → xs.getD j 0 = ys.getD j 0) ∧ ∃ n, wr = w.drewN n) (fun i _ => xs.length - (intOf i).toNat)
    case atStart => exact ⟨0, Nat.zero_le _, rfl, (fun j hj => by omega), 0, rfl⟩
    case round =>
      obtain ⟨k, hk, rfl, hp, n, rfl⟩ := hrel
      by_cases hlt : k < xs.length
      · obtain ⟨b, off, rfl, hb1, hcell⟩ := hA k hlt
        have hlt' : k < ys.length := by rw [← HL.out]; exact hlt
        obtain ⟨b', off', rfl, hb1', hcell'⟩ := hA' k hlt'
        clear hA hA'
        obtain ⟨x, hx⟩ : ∃ x, x = xs.getD k 0 := ⟨_, rfl⟩
        obtain ⟨y, hy⟩ : ∃ y, y = ys.getD k 0 := ⟨_, rfl⟩
        rw [← hx] at hcell
        rw [← hy] at hcell'
        have HX := Lib.hid hx
        have HY := Lib.hid hy
        clear hx hy
        have hi0 : (0 : Int) ≤ (k : Int) := by omega
        have hi1 : (k : Int) < (xs.length : Int) := by omega
        have hi2 : (k : Int) < (ys.length : Int) := by omega
        by_cases hxy : x = y
        · have hne : (x != y) = false := by simpa using hxy
          have HXY := Lib.hid hxy
          clear hxy
          go_wp2
          go_quiet (fail)
          go_wp2
          go_roundw
          case rel =>
            refine ⟨k + 1, by omega, by go_num, fun j hj => ?_, n + nq, by first | rfl | rw [World.drewN_drewN]⟩
            rcases Nat.lt_or_ge j k with h | h
            · exact hp.out j h
            · obtain rfl : j = k := by omega
              rw [← HX.out, ← HY.out]; exact HXY.out
          case measure => simp [intOf]; omega
        · have hne : (x != y) = true := by simpa using hxy
          have HF : Hid ((xs == ys) = false) := by
            unfold Hid
            rw [beq_eq_false_iff_ne]
            intro h
            apply hxy
            rw [HX.out, HY.out, h]
          clear hxy
          go_wp2
          go_quiet (fail)
          go_wp2
          go_ret
          exact ⟨by rw [HF.out]; rfl, n + nq, by first | rfl | rw [World.drewN_drewN]⟩
      · have HF : Hid ((xs == ys) = true) := by
          unfold Hid
          rw [beq_iff_eq]
          exact eq_of_getD HL.out fun j hj => hp.out j (by omega)
        go_wp2
        go_ret
        exact ⟨by rw [HF.out]; rfl, n, rfl⟩
  · have hnl : (xs.length != ys.length) = true := by simpa using hl
    have hnl' : ((xs.length : Int) != (ys.length : Int)) = true := by simp; omega
    have HF : Hid ((xs == ys) = false) := by
      unfold Hid
      rw [beq_eq_false_iff_ne]
      intro h
      exact hl (by rw [h])
    clear hl
    go_enter Tryz.func34, Tryz.ntmps34
    go_wp2
    go_ret
    exact ⟨by rw [HF.out]; rfl, 0, rfl⟩
theorem likeL_any (w : World) (v u : Value) (xs ys : List Int) (hv : RdI w v xs) (hu : RdI w u ys) : Calls Tryz.prog 34 #[v, u] w fun e w' => e = .returned (.bool (xs == ys)) ∧ Below w.heap.size w w' :=
  (likeInts_any w v u xs ys hv hu).mono fun e w' h => by obtain ⟨h1, k, rfl⟩ := h; exact ⟨h1, below_drewN (Below.refl _ _) k⟩
theorem rows5_any (w : World) (v u : Value) (xss yss : List (List Int)) (hv : RdP w v xss) (hu : RdP w u yss) : Calls Tryz.prog 53 #[v, u] w fun e w' => e = .returned (.bool (xss == yss)) ∧ Below w.heap.size w w' := by
  obtain ⟨A, c, rfl, hc1, hc2, hA⟩ := hv
  obtain ⟨A', c', rfl, hc1', hc2', hA'⟩ := hu
  unfold maxLen at hc2 hc2'
  by_cases hl : xss.length = yss.length
  · have hnl : (xss.length != yss.length) = false := by simpa using hl
    have hnl' : ((xss.length : Int) != (yss.length : Int)) = false := by rw [hl]; simp
    have HL := Lib.hid hl
    clear hl
    go_enter Tryz.func53, Tryz.ntmps53
    go_wp2
    go_loopw [5] (fun i wr => ∃ k : Nat, k ≤ xss.length ∧ i = .int .i64 k ∧ Hid (∀ j, j < k → xss.getD j [] = yss.getD j []) ∧ Below w.heap.size w wr) (fun i _ => xss.length - (intOf i).toNat)
    case atStart => exact ⟨0, Nat.zero_le _, rfl, (fun j hj => by omega), Below.refl _ _⟩
    case round =>
      obtain ⟨k, hk, rfl, hp, hb⟩ := hrel
      by_cases hlt : k < xss.length
      · obtain ⟨b, off, u, rfl, hb1, hcell, hr⟩ := hA k hlt
        have hlt' : k < yss.length := by rw [← HL.out]; exact hlt
        obtain ⟨b', off', u', rfl, hb1', hcell', hr'⟩ := hA' k hlt'
        clear hA hA'
        have hc0 : wr.cell? ⟨b, off + k, none⟩ = some u := (hb.cell (p := ⟨b, off + k, none⟩) hb1).trans hcell
        have hc0' : wr.cell? ⟨b', off' + k, none⟩ = some u' := (hb.cell (p := ⟨b', off' + k, none⟩) hb1').trans hcell'
        have hr2 := hr.below hb
        have hr2' := hr'.below hb
        obtain ⟨A1, c1, e1⟩ := hr2.form
        obtain ⟨A2, c2, e2⟩ := hr2'.form
        subst e1 e2
        clear hcell hcell' hr hr'
        have hi0 : (0 : Int) ≤ (k : Int) := by omega
        have hi1 : (k : Int) < (xss.length : Int) := by omega
        have hbz : b < wr.heap.size := Nat.lt_of_lt_of_le hb1 hb.size
        have hbz' : b' < wr.heap.size := Nat.lt_of_lt_of_le hb1' hb.size
        have hi2 : (k : Int) < (yss.length : Int) := by omega
        obtain ⟨x, hx⟩ : ∃ x, x = xss.getD k [] := ⟨_, rfl⟩
        obtain ⟨y, hy⟩ : ∃ y, y = yss.getD k [] := ⟨_, rfl⟩
        rw [← hx] at hc0 hr2
        rw [← hy] at hc0' hr2'
        have HX := Lib.hid hx
        have HY := Lib.hid hy
        clear hx hy
        cases hxy : (x == y)
        · have HF : Hid ((xss == yss) = false) := by
            unfold Hid
            rw [beq_eq_false_iff_ne] at hxy ⊢
            intro h
            apply hxy
            rw [HX.out, HY.out, h]
          have HXY := Lib.hid hxy
          clear hxy
          go_wp2
          go_region_held3 (fun w' => w'.cell? ⟨b, off + k, none⟩ = some (.slice A1 x.length c1) ∧ w'.cell? ⟨b', off' + k, none⟩ = some (.slice A2 y.length c2))
            (first | exact ⟨hc0, hc0'⟩ | exact ⟨(hb2.cell (p := ⟨b, off + k, none⟩) hbz).trans hc0, (hb2.cell (p := ⟨b', off' + k, none⟩) hbz').trans hc0'⟩)
            (first | (go_at_call 34; refine (likeL_any _ _ _ x y (hr2.below (below_drew (Below.refl _ _))) (hr2'.below (below_drew (Below.refl _ _)))).mono ?_; rintro e w2 ⟨rfl, hb2⟩; rw [HXY.out]; have K2 : Below w.heap.size w w2 := (below_drew hb).trans (hb2.mono hb.size)))
          go_wp2
          go_ret
          exact ⟨by rw [HF.out]; rfl, K2⟩
        · have HXY := Lib.hid hxy
          clear hxy
          go_wp2
          go_region_held3 (fun w' => w'.cell? ⟨b, off + k, none⟩ = some (.slice A1 x.length c1) ∧ w'.cell? ⟨b', off' + k, none⟩ = some (.slice A2 y.length c2))
            (first | exact ⟨hc0, hc0'⟩ | exact ⟨(hb2.cell (p := ⟨b, off + k, none⟩) hbz).trans hc0, (hb2.cell (p := ⟨b', off' + k, none⟩) hbz').trans hc0'⟩)
            (first | (go_at_call 34; refine (likeL_any _ _ _ x y (hr2.below (below_drew (Below.refl _ _))) (hr2'.below (below_drew (Below.refl _ _)))).mono ?_; rintro e w2 ⟨rfl, hb2⟩; rw [HXY.out]; have K2 : Below w.heap.size w w2 := (below_drew hb).trans (hb2.mono hb.size)))
          go_wp2
          go_roundw
          case rel =>
            refine ⟨k + 1, by omega, by go_num, fun j hj => ?_, K2⟩
            rcases Nat.lt_or_ge j k with h | h
            · exact hp.out j h
            · obtain rfl : j = k := by omega
              rw [← HX.out, ← HY.out]; exact beq_iff_eq.1 HXY.out
          case measure => simp [intOf]; omega
      · have HF : Hid ((xss == yss) = true) := by
          unfold Hid
          rw [beq_iff_eq]
          apply List.ext_getElem HL.out
          intro i h1 h2
          have := hp.out i (by omega)
          rwa [List.getD_eq_getElem?_getD, List.getD_eq_getElem?_getD, List.getElem?_eq_getElem h1, List.getElem?_eq_getElem h2] at this
        go_wp2
        go_ret
        exact ⟨by rw [HF.out]; rfl, hb⟩
  · have hnl : (xss.length != yss.length) = true := by simpa using hl
    have hnl' : ((xss.length : Int) != (yss.length : Int)) = true := by simp; omega
    have HF : Hid ((xss == yss) = false) := by
      unfold Hid
      rw [beq_eq_false_iff_ne]
      intro h
      exact hl (by rw [h])
    clear hl
    go_enter Tryz.func53, Tryz.ntmps53
    go_wp2
    go_ret
    exact ⟨by rw [HF.out]; rfl, Below.refl _ _⟩

/-! ### Planes of the program: a number for each coefficient -/
theorem OwnP.rowW {w : World} {lo hi : Nat} {xss : List (List Int)} {g n c : Nat} (h : OwnP w lo hi (.slice (some ⟨g, 0, none⟩) n c) xss) {i : Nat} (hi' : i < xss.length) {A : Option Addr} {l c' : Nat} (hc : w.cell? ⟨g, i, none⟩ = some (.slice A l c')) :
    l = (xss.getD i []).length ∧ l ≤ c' ∧ c' ≤ 2 ^ 63 - 1 ∧ ∀ j, j < l → ∃ gr, A = some ⟨gr, 0, none⟩ ∧ gr ≠ g ∧ lo ≤ gr ∧ gr < hi ∧ gr < w.heap.size ∧ w.cell? ⟨gr, j, none⟩ = some (.int .i64 (co2 xss i j)) ∧ w.frozen? ⟨gr, j, none⟩ = false ∧
      ∀ y : Int, OwnP (w.setCell ⟨gr, j, none⟩ (.int .i64 y)) lo hi (.slice (some ⟨g, 0, none⟩) n c) (xss.set i ((xss.getD i []).set j y)) := by
  obtain ⟨g', c1, Ar, cr, e, h1, h2, h3, hcell, hfr, hown, hblk, hset⟩ := h.row hi'
  simp only [Value.slice.injEq, Option.some.injEq, Addr.mk.injEq] at e
  obtain ⟨⟨rfl, _⟩, _, rfl⟩ := e
  rw [hcell] at hc
  simp only [Option.some.injEq, Value.slice.injEq] at hc
  obtain ⟨rfl, rfl, rfl⟩ := hc
  obtain ⟨A2, cp2, e2, hc3, hc4, hA2⟩ := hown.open_
  simp only [Value.slice.injEq] at e2
  obtain ⟨e3, _, e4⟩ := e2
  subst e3 e4
  refine ⟨rfl, hc3, hc4, fun j hj => ?_⟩
  obtain ⟨gr, hgr, h4, h5, h6, h7⟩ := hA2 j hj
  subst hgr
  have h8 := hblk gr rfl
  refine ⟨gr, rfl, h8.2, h4, h8.1, h5, h6, h7, fun y => ?_⟩
  refine hset _ _ ?_ (grownBy_setCell w ⟨gr, j, none⟩ _)
  rcases hown.row with ⟨h9, _⟩ | ⟨g9, c9, e9, h9, hr9⟩
  · simp at h9
  · simp only [Value.slice.injEq, Option.some.injEq, Addr.mk.injEq] at e9
    obtain ⟨⟨rfl, _⟩, _, rfl⟩ := e9
    exact (hr9.set_ j y).own' h9 (by simp)
/-- The function g, with what it has captured, computes p at the places of a table, in every world in which all that lay in w lies unturned. -/
def Pred2 (w : World) (g : FuncId) (caps : Array Value) (n : Nat) (p : Nat → Nat → Int) : Prop :=
  (∀ args w, (callFunc g args).run Tryz.prog w = .ok (.enter g args) w) ∧ ∀ (W : World) (i j : Nat), Below w.heap.size w W → i + j < n → Calls Tryz.prog g (#[.int .i64 (i : Int), .int .i64 (j : Int)] ++ caps) W fun e W' => e = .returned (.int .i64 (p i j)) ∧ ∃ k, W' = W.drewN k
/-- A table in blocks from B on, away from the box bo. -/
def OwnPx (wx : World) (B bo : Nat) (v : Value) (xss : List (List Int)) : Prop := ∃ lo hi, B ≤ lo ∧ (bo < lo ∨ hi ≤ bo) ∧ hi ≤ wx.heap.size ∧ OwnP wx lo hi v xss
theorem OwnPx.of {wx : World} {B bo lo hi : Nat} {v : Value} {xss : List (List Int)} (h : OwnP wx lo hi v xss) (h1 : B ≤ lo) (h2 : bo < lo ∨ hi ≤ bo) (h3 : hi ≤ wx.heap.size) : OwnPx wx B bo v xss := ⟨lo, hi, h1, h2, h3, h⟩

/-! ### append of zeros, and of nothing -/
section
variable {P : Program} (w : World)
theorem zeroCells_rep (z : Value) (n : Nat) : Builtin.zeroCells #[z] n = (List.replicate n z).toArray := by
  apply Array.ext'
  simp [Builtin.zeroCells, Nat.mod_one, List.map_const']
theorem run_append_zeros (base : Nat) (t tx ty e : TypeId) (k : IntKind) (i : TypeInfo) (z : Value) (ht : P.underlying t = some (.slice e)) (hx : P.underlying tx = some (.int k)) (hi : P.info? e = some i) (hz : i.zero = some z)
    (hsize : i.size = 1) (hby : i.bytes = 8) (hzc : z.cells = #[z]) (h1z : z.oneCell' = true)
    (v : Value) (n : Nat) (xs : List Value) (hown : w.ownsRow base e 1 v n xs) (m : Nat) (kx : IntKind) (hm : (m : Int) ≤ 1000000) (hn : n ≤ 1000000) (hbase : base ≤ w.heap.size) :
    ∃ v' w', (Builtin.append_ #[t, tx] ty #[v, .int kx (m : Int)]).run P w = .ok v' w' ∧ w'.ownsRow base e 1 v' (n + m) (xs ++ List.replicate m z) ∧ w.grownBy w' v.ownBlock := by
  have hwrap : IntKind.i64.wrap (m : Int) = (m : Int) := IntWalk.i64_in _ (by omega)
  have hneg : ¬ ((m : Int) < 0) := by omega
  have h48 : ¬ ((281474976710656 : Int) < (m : Int) * 8) := by omega
  have hxl := hown.1
  have h63 : ¬ (9223372036854775807 < ((n : Int) + (m : Int))) := by omega
  have grown : ∀ (old : Nat), old < n + m → ∀ (row : Option Nat),
      (w.drew.alloc (.cells (xs.toArray ++ (List.replicate m z).toArray ++ Builtin.zeroCells z.cells (grownCap w (n + m) old e - (n + m))) e)).ownsRow base e 1
        (.slice (some ⟨w.heap.size, 0, none⟩) (n + m) (grownCap w (n + m) old e)) (n + m) (xs ++ List.replicate m z) ∧
      w.grownBy (w.drew.alloc (.cells (xs.toArray ++ (List.replicate m z).toArray ++ Builtin.zeroCells z.cells (grownCap w (n + m) old e - (n + m))) e)) row := by
    intro old ho row
    have hge := grownCap_ge w (n + m) old e
    have hcm : grownCap w (n + m) old e ≤ maxLen := grownCap_le_maxLen w (n + m) old e (by simp only [maxLen]; omega)
    refine ⟨⟨by simp [hxl], .inr ⟨w.heap.size, _, _, rfl, hbase, heap_alloc_new w.drew _, hge, hcm, ?_, ?_⟩⟩, ⟨rfl, rfl, rfl, by simp, fun k hk _ => by first | exact heap_alloc_old w.drew _ hk | exact heap_alloc_old w.drew _ _ hk⟩⟩
    · simp only [Array.size_append, List.size_toArray, size_zeroCells, hzc, hxl, List.length_replicate]
      simp; omega
    · simp only [Array.toList_append, List.append_assoc]
      rw [← List.append_assoc]
      have : (n + m) * 1 = (xs ++ List.replicate m z).length := by simp [hxl]
      rw [this]
      exact List.take_left
  have hA : ∀ w' : World, (asIntOf (.int kx (m : Int))).run P w' = .ok (kx, (m : Int)) w' := fun w' => rfl
  by_cases hm0 : m = 0
  · subst hm0
    refine ⟨v, w, ?_, by simpa using hown, ⟨rfl, rfl, rfl, Nat.le_refl _, fun _ _ _ => rfl⟩⟩
    have hw0 : IntKind.i64.wrap 0 = 0 := by decide
    have hA0 : ∀ w' : World, (asIntOf (.int kx 0)).run P w' = .ok (kx, 0) w' := fun w' => rfl
    rcases hown.2 with ⟨rfl, rfl⟩ | ⟨g, cap, cur, rfl, hbg, hg, hnc, hcm, hcs, htake⟩
    · simp [Builtin.append_, run_underlying ht, run_underlying hx, sizeOf, typeInfo, hi, asInt, hby, hA0, hw0]
    · simp [Builtin.append_, run_underlying ht, run_underlying hx, sizeOf, typeInfo, hi, asInt, hby, hA0, hw0, hnc, storeCells]
  · have hle0 : ¬ ((m : Int) ≤ 0) := by omega
    have hlt0 : ¬ (m ≤ 0) := by omega
    rcases hown.2 with ⟨rfl, rfl⟩ | ⟨g, cap, cur, rfl, hbg, hg, hnc, hcm, hcs, htake⟩
    · have hx0 : xs = [] := List.eq_nil_of_length_eq_zero (by simpa using hxl)
      subst hx0
      have hgr := grown 0 (by omega) (Value.ownBlock (.slice none 0 0))
      simp only [Nat.zero_add] at hgr ⊢
      have hfit : ¬ (281474976710656 < Builtin.nextslicecap m 0 * 8) := by rw [nextslicecap_zero (by omega)]; omega
      refine ⟨_, _, ?_, hgr.1, hgr.2⟩
      have h63' : ¬ (9223372036854775807 < (m : Int)) := by omega
      simp [Builtin.append_, run_underlying ht, run_underlying hx, sizeOf, typeInfo, zeroValue, hi, hz, asInt, hA, hsize, hby, hwrap, hneg, h48, hm0, h63', hfit, Question.forced, run_firstCells_none, newRow, grownCap, hzc, zeroCells_rep]
    · by_cases hroom : n + m ≤ cap
      · have hfit : n * 1 + (List.replicate m z).length ≤ cur.size := by rw [List.length_replicate, hcs]; omega
        have hst := run_storeCells_at P g (n * 1) e (List.replicate m z) 0 cur w hg (by simpa using hfit) (fun u hu => by rw [(List.mem_replicate.1 hu).2]; exact h1z)
        simp only [Nat.add_zero] at hst
        have hr : (Builtin.append_ #[t, tx] ty #[.slice (some ⟨g, 0, none⟩) n cap, .int kx (m : Int)]).run P w = .ok (.slice (some ⟨g, 0, none⟩) (n + m) cap) (w.setRow g (cur.toList.take (n * 1) ++ List.replicate m z ++ cur.toList.drop (n * 1 + (List.replicate m z).length)).toArray) := by
          simp [Builtin.append_, run_underlying ht, run_underlying hx, sizeOf, typeInfo, zeroValue, hi, hz, asInt, hA, hsize, hby, hwrap, hneg, h48, hm0, hroom, hzc, zeroCells_rep, Addr.add_lit] at hst ⊢
          rw [hst]; simp
        refine ⟨_, _, hr, ⟨by simp [hxl], .inr ⟨g, cap, _, rfl, hbg, setRow_heap w g cur _ e _ hg, hroom, hcm, ?_, ?_⟩⟩, ⟨rfl, rfl, rfl, by simp, fun k _ hk => setRow_other w g k _ (fun e => hk (by simp [Value.ownBlock, e]))⟩⟩
        · simp only [List.size_toArray, List.length_append, List.length_take, List.length_drop, Array.length_toList]
          omega
        · rw [htake]
          have : (n + m) * 1 = (xs ++ List.replicate m z).length := by simp [hxl]
          rw [this]
          exact List.take_left
      · have holds : ∀ j u, xs[j]? = some u → w.cell? ((⟨g, 0, none⟩ : Addr).add j) = some u := hown.cells (g := g) rfl
        have hgr := grown cap (by omega) (Value.ownBlock (.slice (some ⟨g, 0, none⟩) n cap))
        refine ⟨_, _, ?_, hgr.1, hgr.2⟩
        have hfo := run_firstCells_some (P := P) w.drew 1 n ⟨g, 0, none⟩ n cap xs hxl (by simpa using holds)
        have h48' : ¬ (281474976710656 < Builtin.nextslicecap (n + m) cap * 8) := by
          have := growslice_fits (need := n + m) (old := cap) (bytes := 8) (by omega) (by omega)
          omega
        simp [Builtin.append_, run_underlying ht, run_underlying hx, sizeOf, typeInfo, zeroValue, hi, hz, asInt, hA, hsize, hby, hwrap, hneg, h48, hm0, hroom, h63, h48', Question.forced, hfo, newRow, grownCap, hzc, zeroCells_rep]
theorem run_append_empty (t ty e : TypeId) (i : TypeInfo) (ht : P.underlying t = some (.slice e)) (hi : P.info? e = some i)
    (A : Option Addr) (n cap : Nat) (B : Option Addr) (c : Nat) (h : n ≤ cap) :
    (Builtin.append_ #[t, t] ty #[.slice A n cap, .slice B 0 c]).run P w = .ok (.slice A n cap) w := by
  cases A <;> cases B <;> simp [Builtin.append_, run_underlying ht, sizeOf, typeInfo, hi, Builtin.lenOf, Builtin.firstCells, loadCells, loadCellsFrom, storeCells, h]
end

/-! ### Parameters with those that are missing: the walks -/
theorem appendZeros {w : World} {ops : Array Oper} {rest : List Oper} {o : Oper} {a : Act} {Q : Exit → Act → World → Prop} (s x : Operand) (B : Nat) (v : Value) (xs : List Int) (m : Nat)
    (hgd : o.guard = none) (ho : o.op = .call { callee := .builtin .append, args := #[s, x], argTypes := #[24, 3] })
    (hs : a.eval s = v) (hx : a.eval x = .int .i64 (m : Int)) (hv : OwnI w B v xs) (hm : m ≤ 1000000) (hl : xs.length ≤ 1000000) (hB : B ≤ w.heap.size)
    (h : ∀ v' w', OwnI w' B v' (xs ++ List.replicate m 0) → w.grownBy w' v.ownBlock → wpList Tryz.prog ops Q rest (a.put o.dst v') w') :
    wpList Tryz.prog ops Q (o :: rest) a w := by
  obtain ⟨i0, hi, hz0, hz1, hz2⟩ := info_parts T.info64
  refine wpList_plain hgd fun K hK => ?_
  obtain ⟨v', w', hr, h2, h3⟩ := run_append_zeros (P := Tryz.prog) w B 24 3 o.type 2 .i64 i0 (.int .i64 0) Tryz.underlying24 Tryz.underlying3 hi hz0 hz1 hz2 rfl rfl v xs.length (xs.map (Value.int .i64)) hv m .i64 (by omega) (by omega) hB
  unfold Oper.wp execOp
  simp only [ho, resolve, invoke, builtin, Sem.run_bind, Sem.run_pure, Result.andThen_ok, List.map_toArray, List.map_cons, List.map_nil, hs, hx, hr]
  refine hK _ _ (h v' w' ?_ h3)
  unfold OwnI
  simpa using h2
theorem appendEmpty {w : World} {ops : Array Oper} {rest : List Oper} {o : Oper} {a : Act} {Q : Exit → Act → World → Prop} (s x : Operand) (A : Option Addr) (n cap : Nat) (B : Option Addr) (c : Nat)
    (hgd : o.guard = none) (ho : o.op = .call { callee := .builtin .append, args := #[s, x], argTypes := #[24, 24] })
    (hs : a.eval s = .slice A n cap) (hx : a.eval x = .slice B 0 c) (hn : n ≤ cap)
    (h : wpList Tryz.prog ops Q rest (a.put o.dst (.slice A n cap)) w) :
    wpList Tryz.prog ops Q (o :: rest) a w := by
  obtain ⟨i0, hi, hz0, hz1, hz2⟩ := info_parts T.info64
  refine wpList_plain hgd fun K hK => ?_
  have hr := run_append_empty (P := Tryz.prog) w 24 o.type 2 i0 Tryz.underlying24 hi A n cap B c hn
  unfold Oper.wp execOp
  simp only [ho, resolve, invoke, builtin, Sem.run_bind, Sem.run_pure, Result.andThen_ok, List.map_toArray, List.map_cons, List.map_nil, hs, hx, hr]
  exact hK _ _ h
def lenS : Value → Nat
  | .slice _ n _ => n
  | _ => 0

end Go.Proofs.YtglbccikdglcgaaGreatDoor
