/- Contracts over this seat's translation. Condition: each contract's own. -/
import Derived.Test.YtfdklbimdkaaiaaC
import Derived.ProofKit
import Derived.Laws.Bits64b
import Derived.Lib.Mul64
import Derived.OpenShut
import Derived.Below
import Derived.ChangeSame
import Derived.Deep.Modes
import Derived.Lib.SmallJoins
import Derived.ChangeSlices
import Derived.WalkKit
import Derived.WalkSpells
import Derived.WalkLawsBesides
import Derived.Deep.QuietTactic
import Derived.BigQuiet
import Derived.Deep.RegionHeld3
import Derived.Deep.RegionWith
import Derived.Deep.RegionLaw
import Derived.Deep.AppendLies
import Derived.Laws.CopyOwn
import Derived.Deep.DeepCutAuto
import Derived.Deep.OwnRows
import Derived.Deep.LoopGhost
import Derived.Deep.DeepFit
import Derived.Deep.DeepMust
import Derived.Deep.Draws
import Derived.Deep.CutRange
import Derived.Maps.AppendAt
import Derived.Lib.Hide
import Derived.StillTailTactics
import Derived.Laws.MakeOwn
import Derived.Deep.Matrix
set_option linter.unusedVariables false
open Go Go.RowKit
namespace Go.Proofs.Ytfdklbimdkaaiaa
/-! ### Series of the program: new, scaled -/
theorem Bf.setCell {w : World} {b : Nat} {x y : Value} (h : Bf w b x y) {p : Addr} (hne : p.block ≠ b) (u : Value) : Bf (w.setCell p u) b x y := by
  have e : (w.setCell p u).heap[b]? = w.heap[b]? := Below.heap_setCell w p u b (Ne.symm hne)
  refine ⟨⟨?_, (World.cell?_of_block (a := ⟨b, 0, none⟩) e).trans h.1.2.1, (World.cell?_of_block (a := ⟨b, 1, none⟩) e).trans h.1.2.2⟩, (World.frozen?_of_block (a := ⟨b, 0, none⟩) e).trans h.2.1, (World.frozen?_of_block (a := ⟨b, 1, none⟩) e).trans h.2.2⟩
  have := h.1.1
  simpa [World.setCell] using this
theorem Bf.first2d {w w1 : World} {x y x' y' : Value} {t t' : TypeId} (hb : Below ((w.alloc (.cells #[x, y] t)).alloc (.cells #[x', y'] t')).drew.heap.size ((w.alloc (.cells #[x, y] t)).alloc (.cells #[x', y'] t')).drew w1) :
    Bf w1 w.heap.size x y ∧ Bf w1 (w.heap.size + 1) x' y' ∧ Below w.heap.size w w1 := Bf.first2 (t := t) (t' := t') ⟨hb.os, hb.tape, hb.output, hb.size, hb.block⟩
theorem below_undrew {B : Nat} {a w' : World} (h : Below B a.drew w') : Below B a w' := ⟨h.os, h.tape, h.output, h.size, h.block⟩
theorem Bf.q1 {w : World} {x y : Value} {t : TypeId} : Bf (w.alloc (.cells #[x, y] t)) w.heap.size x y := Bf.alloc1 w x y t
theorem Bf.q2 {w : World} {x y x' y' : Value} {t t' : TypeId} : Bf ((w.alloc (.cells #[x, y] t)).alloc (.cells #[x', y'] t')) (w.heap.size + 1) x' y' := by
  have := Bf.alloc1 (w.alloc (.cells #[x, y] t)) x' y' t'
  simpa using this
theorem Bf.q3 {w : World} {x y x' y' x2 y2 : Value} {t t' t2 : TypeId} : Bf (((w.alloc (.cells #[x, y] t)).alloc (.cells #[x', y'] t')).alloc (.cells #[x2, y2] t2)) (w.heap.size + 2) x2 y2 := by
  have := Bf.alloc1 ((w.alloc (.cells #[x, y] t)).alloc (.cells #[x', y'] t')) x2 y2 t2
  simpa using this
theorem Bf.q4 {w : World} {x y x' y' x2 y2 x3 y3 : Value} {t t' t2 t3 : TypeId} : Bf ((((w.alloc (.cells #[x, y] t)).alloc (.cells #[x', y'] t')).alloc (.cells #[x2, y2] t2)).alloc (.cells #[x3, y3] t3)) (w.heap.size + 3) x3 y3 := by
  have := Bf.alloc1 (((w.alloc (.cells #[x, y] t)).alloc (.cells #[x', y'] t')).alloc (.cells #[x2, y2] t2)) x3 y3 t3
  simpa using this
theorem Bf.store2 {w : World} {b : Nat} {x y x' y' : Value} (h : Bf w b x y) : Bf ((w.setCell ⟨b, 0, none⟩ x').setCell ⟨b, 1, none⟩ y') b x' y' := by
  obtain ⟨⟨h1, h2, h3⟩, h4, h5⟩ := h
  have h3' : (w.setCell ⟨b, 0, none⟩ x').cell? ⟨b, 1, none⟩ = some y := (World.cell?_setCell_other _ _ _ _ (by simp)).trans h3
  refine ⟨⟨by simpa [World.setCell] using h1, (World.cell?_setCell_other _ _ _ _ (by simp)).trans (World.cell?_setCell_same _ _ _ h2), World.cell?_setCell_same _ _ _ h3'⟩, by simp [h4], by simp [h5]⟩
theorem Bf.alloc {w : World} {b : Nat} {x y : Value} (h : Bf w b x y) (o : Obj) : Bf (w.alloc o) b x y := h.keep (below_alloc1 w o)
/-- A new series of zeros: the value, and its block. -/
def NewZ (w : World) (m : Int) (n : Nat) (e : Ending) (w' : World) : Prop := ∃ g, e = .returned (.agg #[.int .i64 m, .slice (some ⟨g, 0, none⟩) n n]) ∧ w.heap.size ≤ g ∧ RowI w' g n (List.replicate n 0) ∧ Below w.heap.size w w'
theorem zero_any (w : World) (m d : Int) (n : Nat) (hd : d + 1 = (n : Int)) (hn : n ≤ 1000000) : Calls Try.prog 60 #[.int .i64 m, .int .i64 d] w (NewZ w m n) := by
  have hd2 : d = (n : Int) - 1 := by omega
  subst hd2
  clear hd
  go_enter Try.func60, Try.ntmps60
  go_wp2_with (at_make; refine makeI _ n (by rfl) (by rfl) (by first | rfl | simp) (by omega) ?_; intro w1 hr1 hb1 hs1; obtain ⟨hc, hf⟩ := bcell hb1; have HS := Lib.hid hs1; clear hs1; have hz := hb1.size; simp at hz)
  have hr2 : RowI w1 (w.heap.size + 1) n (List.replicate n 0) := by simpa using hr1
  have K1 : Below w.heap.size w w1 := (below_alloc1 w _).trans (hb1.mono (by simp))
  exact bodyPost_ret (v := .agg #[.int .i64 m, .slice (some ⟨w.heap.size + 1, 0, none⟩) n n]) (by simp [results, Try.results60, go_sem, hc]) rfl ⟨w.heap.size + 1, rfl, by omega, (hr2.far (by simp) _).far (by simp) _, by (repeat (first | assumption | exact Below.refl _ _ | refine Below.alloc ?_ (by first | omega | (simp; done) | (simp; omega)) _ | refine Below.setCell ?_ (by first | omega | (simp; done) | (simp; omega)) _ | refine below_drewN ?_ _))⟩
theorem NewZ.of_eq {w : World} {m : Int} {n : Nat} {e : Ending} {w' : World} (h : NewZ w m n e w') : ∃ g, e = .returned (.agg #[.int .i64 m, .slice (some ⟨g, 0, none⟩) n n]) ∧ w.heap.size ≤ g ∧ RowI w' g n (List.replicate n 0) ∧ Below w.heap.size w w' := h
/-- The list while it is filled: the first k numbers are laid. -/
def fillF (g : Nat → Int) (k : Nat) : Nat → Int := fun j => if j < k then g j else 0
theorem fill_zero (g : Nat → Int) (n : Nat) : lst n (fillF g 0) = List.replicate n 0 := by rw [replicate_lst]; rfl
theorem fill_step (g : Nat → Int) (n k : Nat) : (lst n (fillF g k)).set k (g k) = lst n (fillF g (k + 1)) := by
  rw [set_lst]
  apply lst_congr
  intro j _
  unfold upd fillF
  by_cases h : j = k
  · subst h; simp
  · by_cases h2 : j < k
    · simp [h, h2, show j < k + 1 by omega]
    · simp [h, h2, show ¬ j < k + 1 by omega]
theorem fill_all (g : Nat → Int) (n : Nat) : lst n (fillF g n) = lst n g := lst_congr fun j hj => by simp [fillF, hj]
theorem fill_getD (g : Nat → Int) (n k j : Nat) (hj : j < n) : (lst n (fillF g k)).getD j 0 = fillF g k j := getD_lst _ _ _ hj
def scaleL (m c : Int) (xs : List Int) : List Int := lst xs.length fun k => c * co xs k % m
theorem length_scaleL (m c : Int) (xs : List Int) : (scaleL m c xs).length = xs.length := length_lst _ _
set_option maxHeartbeats 1000000 in
theorem scaled_any (w : World) (m : Int) (v : Value) (xs ys : List Int) (c : Int) (B : Nat) (hv : OwnI w B v xs) (hm : 2 ≤ m) (hm' : m ≤ 3000000000) (hn : NumL m xs) (hl0 : 1 ≤ xs.length) (hl : xs.length ≤ 1000) (hy : scaleL m (c % m) xs = ys) :
    Calls Try.prog 69 #[.agg #[.int .i64 m, v], .int .i64 c] w (NewS w m ys) := by
  obtain ⟨A, cp, e0, hc1, hc2, hA⟩ := hv.open_
  subst e0
  unfold maxLen at hc2
  have HY := Lib.hid hy
  have HN := Lib.hid hn
  have HV := Lib.hid hv
  clear hy hn hv
  have hcm1 : 0 ≤ c % m := Int.emod_nonneg _ (by omega)
  have hcm2 : c % m < m := Int.emod_lt_of_pos _ (by omega)
  go_enter Try.func69, Try.ntmps69
  go_upto_region 1 with fail
  go_cut [5] from 8 to 12 (fun s wx => ∃ bo g : Nat, s = .pointer (some ⟨bo, 0, none⟩) ∧ w.heap.size + 2 ≤ bo ∧ bo < wx.heap.size ∧ w.heap.size + 2 ≤ g ∧ g < wx.heap.size ∧ bo ≠ g ∧ Hid (Bf wx bo (.int .i64 m) (.slice (some ⟨g, 0, none⟩) xs.length xs.length)) ∧ Hid (RowI wx g xs.length (List.replicate xs.length 0)) ∧ Hid (Bf wx w.heap.size (.int .i64 m) (.slice A xs.length cp)) ∧ Hid (Bf wx (w.heap.size + 1) (.int .i64 0) (.slice none 0 0)) ∧ Hid (Below w.heap.size w wx))
  case first =>
    go_region_held3 (fun w' => w'.cell? ⟨w.heap.size, 0, none⟩ = some (.int .i64 m) ∧ w'.cell? ⟨w.heap.size, 1, none⟩ = some (.slice A xs.length cp))
      (first | go_keep | (refine (fun (h : Bf _ w.heap.size (.int .i64 m) (.slice A xs.length cp)) => ⟨h.1.2.1, h.1.2.2⟩) ((Bf.alloc1 w _ _ 26).keep ?_); (repeat (first | assumption | exact Below.refl _ _ | (refine Below.alloc ?_ ?_ _; rotate_left; (focus (first | exact Nat.le_refl _ | omega | (simp; done) | (simp; omega)))) | (refine Below.setCell ?_ ?_ _; rotate_left; (focus (first | exact Nat.le_refl _ | omega | (simp; done) | (simp; omega)))) | refine below_drew ?_ | refine below_drewN ?_ _ | (refine Below.trans ?_ (Below.mono hb2 ?_); rotate_left; (focus (first | exact Nat.le_refl _ | omega | (simp; done) | (simp; omega)))) | (refine Below.trans ?_ (Below.mono hb1 ?_); rotate_left; (focus (first | exact Nat.le_refl _ | omega | (simp; done) | (simp; omega))))))))
      (first | (go_at_call 54; refine (iDegree_any m A xs.length cp _ (by omega)).mono ?_; rintro e w1 ⟨rfl, hb1⟩; have P1 : Bf w1 w.heap.size (.int .i64 m) (.slice A xs.length cp) := ((Bf.alloc1 w _ _ 26).keep (by (repeat (first | assumption | exact Below.refl _ _ | (refine Below.alloc ?_ ?_ _; rotate_left; (focus (first | exact Nat.le_refl _ | omega | (simp; done) | (simp; omega)))) | (refine Below.setCell ?_ ?_ _; rotate_left; (focus (first | exact Nat.le_refl _ | omega | (simp; done) | (simp; omega)))) | refine below_drew ?_ | refine below_drewN ?_ _ | (refine Below.trans ?_ (Below.mono hb1 ?_); rotate_left; (focus (first | exact Nat.le_refl _ | omega | (simp; done) | (simp; omega)))))))); have p1a := P1.1.2.1; have p1b := P1.1.2.2; obtain ⟨hc1, hf1⟩ := bcell hb1; have z1 := hb1.size; (try simp at z1); have z1p : w.heap.size < w1.heap.size := (by omega); (first | (have y1 : w.heap.size + 2 < w1.heap.size := (by omega)) | skip)) | (go_at_call 60; refine (zero_any _ m _ xs.length (by omega) (by omega)).mono ?_; rintro e w2 ⟨g, rfl, hg, hr2, hb2⟩; have P2 : Bf w2 w.heap.size (.int .i64 m) (.slice A xs.length cp) := ((Bf.alloc1 w _ _ 26).keep (by (repeat (first | assumption | exact Below.refl _ _ | (refine Below.alloc ?_ ?_ _; rotate_left; (focus (first | exact Nat.le_refl _ | omega | (simp; done) | (simp; omega)))) | (refine Below.setCell ?_ ?_ _; rotate_left; (focus (first | exact Nat.le_refl _ | omega | (simp; done) | (simp; omega)))) | refine below_drew ?_ | refine below_drewN ?_ _ | (refine Below.trans ?_ (Below.mono hb2 ?_); rotate_left; (focus (first | exact Nat.le_refl _ | omega | (simp; done) | (simp; omega)))) | (refine Below.trans ?_ (Below.mono hb1 ?_); rotate_left; (focus (first | exact Nat.le_refl _ | omega | (simp; done) | (simp; omega)))))))); have p2a := P2.1.2.1; have p2b := P2.1.2.2; obtain ⟨hc2, hf2⟩ := bcell hb2; have z2 := hb2.size; (try simp at z2); (try simp at hg); have z2p : w.heap.size < w2.heap.size := (by omega)))
    all_goals
      go_wp2_with fail
      go_meet
      have zg := hr2.lt
      have KK : Hid (Below w.heap.size w w2) := by (repeat (first | assumption | exact Below.refl _ _ | (refine Below.alloc ?_ ?_ _; rotate_left; (focus (first | exact Nat.le_refl _ | omega | (simp; done) | (simp; omega)))) | (refine Below.setCell ?_ ?_ _; rotate_left; (focus (first | exact Nat.le_refl _ | omega | (simp; done) | (simp; omega)))) | refine below_drew ?_ | refine below_drewN ?_ _ | (refine Below.trans ?_ (Below.mono hb2 ?_); rotate_left; (focus (first | exact Nat.le_refl _ | omega | (simp; done) | (simp; omega)))) | (refine Below.trans ?_ (Below.mono hb1 ?_); rotate_left; (focus (first | exact Nat.le_refl _ | omega | (simp; done) | (simp; omega))))))
      refine ⟨_, g, rfl, ?_, ?_, ?_, ?_, ?_, ?_, ?_, ?_, ?_,  ?_⟩
      · first | exact Nat.le_refl _ | omega | (simp; done) | (simp; omega)
      · first | omega | (simp; done) | (simp; omega) | (simp [World.setCell]; omega)
      · first | omega | (simp; omega)
      · first | omega | (simp; done) | (simp; omega) | (simp [World.setCell]; omega)
      · first | omega | (simp; omega)
      · first | exact Bf.alloc1 w2 _ _ _ | exact ((Bf.alloc1 w1 _ _ _).keep hb2).store2 | exact (((Bf.q3 (w := w)).keep (below_undrew hb1)).keep hb2).store2
      · first | exact hr2.alloc _ | exact (hr2.far (by first | omega | (simp; omega)) _).far (by first | omega | (simp; omega)) _
      · exact (Bf.q1 (w := w) (t := 26)).keep (by (repeat (first | assumption | exact Below.refl _ _ | (refine Below.alloc ?_ ?_ _; rotate_left; (focus (first | exact Nat.le_refl _ | omega | (simp; done) | (simp; omega)))) | (refine Below.setCell ?_ ?_ _; rotate_left; (focus (first | exact Nat.le_refl _ | omega | (simp; done) | (simp; omega)))) | refine below_drew ?_ | refine below_drewN ?_ _ | (refine Below.trans ?_ (Below.mono hb2 ?_); rotate_left; (focus (first | exact Nat.le_refl _ | omega | (simp; done) | (simp; omega)))) | (refine Below.trans ?_ (Below.mono hb1 ?_); rotate_left; (focus (first | exact Nat.le_refl _ | omega | (simp; done) | (simp; omega)))))))
      · exact (Bf.q2 (w := w) (t := 26) (t' := 26)).keep (by (repeat (first | assumption | exact Below.refl _ _ | (refine Below.alloc ?_ ?_ _; rotate_left; (focus (first | exact Nat.le_refl _ | omega | (simp; done) | (simp; omega)))) | (refine Below.setCell ?_ ?_ _; rotate_left; (focus (first | exact Nat.le_refl _ | omega | (simp; done) | (simp; omega)))) | refine below_drew ?_ | refine below_drewN ?_ _ | (refine Below.trans ?_ (Below.mono hb2 ?_); rotate_left; (focus (first | exact Nat.le_refl _ | omega | (simp; done) | (simp; omega)))) | (refine Below.trans ?_ (Below.mono hb1 ?_); rotate_left; (focus (first | exact Nat.le_refl _ | omega | (simp; done) | (simp; omega)))))))
      · (repeat (first | assumption | exact Below.refl _ _ | (refine Below.alloc ?_ ?_ _; rotate_left; (focus (first | exact Nat.le_refl _ | omega | (simp; done) | (simp; omega)))) | (refine Below.setCell ?_ ?_ _; rotate_left; (focus (first | exact Nat.le_refl _ | omega | (simp; done) | (simp; omega)))) | refine below_drew ?_ | refine below_drewN ?_ _ | (refine Below.trans ?_ (Below.mono hb2 ?_); rotate_left; (focus (first | exact Nat.le_refl _ | omega | (simp; done) | (simp; omega)))) | (refine Below.trans ?_ (Below.mono hb1 ?_); rotate_left; (focus (first | exact Nat.le_refl _ | omega | (simp; done) | (simp; omega))))))
  case rest =>
    obtain ⟨bo, g, rfl, hbo1, hbo2, hg1, hg2, hne, HO, HR, HP, HQ, HB⟩ := hcut
    have hP := HP.out.1
    have p1 := hP.2.1
    have p2 := hP.2.2
    have hO := HO.out.1
    have o1 := hO.2.1
    have o2 := hO.2.2
    clear hP hO
    go_wp2
    go_loopw [16] (fun i wr => ∃ k : Nat, k ≤ xs.length ∧ i = .int .i64 k ∧ Hid (Bf wr bo (.int .i64 m) (.slice (some ⟨g, 0, none⟩) xs.length xs.length)) ∧ Hid (RowI wr g xs.length (lst xs.length (fillF (fun j => c % m * co xs j % m) k))) ∧ Hid (Bf wr w.heap.size (.int .i64 m) (.slice A xs.length cp)) ∧ Hid (Bf wr (w.heap.size + 1) (.int .i64 0) (.slice none 0 0)) ∧ Hid (Below w.heap.size w wr)) (fun i _ => xs.length - (intOf i).toNat)
    case atStart => exact ⟨0, Nat.zero_le _, rfl, HO, (by unfold Hid; rw [fill_zero]; exact HR.out), HP, HQ, HB⟩
    case round =>
      clear HO HR HP HQ HB p1 p2 o1 o2
      obtain ⟨k, hk, rfl, HO, HR, HP, HQ, HB⟩ := hrel
      have hP := HP.out.1
      have p1 := hP.2.1
      have p2 := hP.2.2
      have hO := HO.out.1
      have o1 := hO.2.1
      have o2 := hO.2.2
      have q1 := HQ.out.1.2.1
      have q2 := HQ.out.1.2.2
      have q3 := HQ.out.2.1
      have q4 := HQ.out.2.2
      have hzP := hP.1
      have hzO := hO.1
      clear hP hO
      by_cases hlt : k < xs.length
      · obtain ⟨b, rfl, hb1, hb2, hcell, hfr⟩ := hA k hlt
        clear hA
        have hc0 : wr.cell? ⟨b, k, none⟩ = some (.int .i64 (co xs k)) := (HB.out.cell (p := ⟨b, k, none⟩) hb2).trans hcell
        have hnk : 0 ≤ co xs k ∧ co xs k < m := HN.out k
        have HS := Lib.hid (fill_step (fun j => c % m * co xs j % m) xs.length k)
        have hd0 := HR.out.cell (k := k) (by rw [length_lst]; exact hlt)
        have hf0 := HR.out.free k
        rw [fill_getD _ _ _ _ hlt] at hd0
        generalize fillF (fun j => c % m * co xs j % m) k k = y0 at hd0
        obtain ⟨x, hx⟩ : ∃ x, x = co xs k := ⟨_, rfl⟩
        rw [← hx] at hc0 hnk
        have HX := Lib.hid hx
        clear hx hcell hfr
        have hk0 : (0 : Int) ≤ (k : Int) := by omega
        have hk1 : (k : Int) < (xs.length : Int) := by omega
        have ne1 : (⟨g, k, none⟩ : Addr) ≠ ⟨w.heap.size, 0, none⟩ := by first | (simp; done) | (simp; omega)
        have ne2 : (⟨g, k, none⟩ : Addr) ≠ ⟨bo, 1, none⟩ := by first | (simp; done) | (simp; omega)
        go_wp2
        go_region_held3 (fun w' => w'.cell? ⟨w.heap.size, 0, none⟩ = some (.int .i64 m) ∧ w'.cell? ⟨bo, 1, none⟩ = some (.slice (some ⟨g, 0, none⟩) xs.length xs.length))
          ((first | exact ⟨p1, o2⟩ | exact ⟨(World.cell?_setCell_other _ _ _ _ ne1).trans p1, (World.cell?_setCell_other _ _ _ _ ne2).trans o2⟩ | go_keep))
          (first | (go_at_call 90; refine (mod_any c m _ (by omega) (by omega)).mono ?_; rintro e w1 ⟨rfl, k1, rfl⟩) | (go_at_call 104; refine (mul_any m (c % m) x _ (by omega) (by omega) hcm1 hcm2 hnk.1 hnk.2).mono ?_; rintro e w1 ⟨rfl, rfl⟩))
        go_wp2
        go_roundw
        case rel =>
          refine ⟨k + 1, by omega, by go_num, HO.out.setCell (by simp; omega) _, ?_, HP.out.setCell (by simp; omega) _, HQ.out.setCell (by simp; omega) _, Below.setCell (below_drewN HB.out _) (by simp; omega) _⟩
          unfold Hid
          rw [← HS.out, ← HX.out]
          exact HR.out.set_ k _
        case measure => simp [intOf]; omega
      · obtain rfl : k = xs.length := by omega
        have hR : RowI wr g xs.length ys := by have := HR.out; rw [fill_all] at this; rw [← HY.out]; exact this
        have hly : Hid (ys.length = xs.length) := by unfold Hid; rw [← HY.out, length_scaleL]
        go_wp2
        refine bodyPost_ret (v := .agg #[.int .i64 m, .slice (some ⟨g, 0, none⟩) xs.length xs.length]) (by simp [results, Try.results69, go_sem, q1, q2]) rfl ⟨some ⟨g, 0, none⟩, xs.length, by rw [hly.out], ?_, ?_⟩
        · rw [hly.out]
          have := ((hR.far (p := ⟨w.heap.size + 1, 0, none⟩) (by simp; omega) (.int .i64 m)).far (p := ⟨w.heap.size + 1, 1, none⟩) (by simp; omega) (.slice (some ⟨g, 0, none⟩) xs.length xs.length)).own (B := w.heap.size) (by omega)
          rw [hly.out] at this
          exact this
        · exact (HB.out.setCell (by simp) _).setCell (by simp) _

/-! ### ScaleSeries -/
theorem NewS.of {w : World} {m : Int} {xs ys : List Int} {e : Ending} {w' : World} (h : NewS w m xs e w') (he : Hid (xs = ys)) : NewS w m ys e w' := by rw [← he.out]; exact h
theorem isSer_NumL {m : Int} {xs : List Int} (h : isSer m xs = true) : NumL m xs := isSer_num h
theorem scaleL_step (m c : Int) (xs : List Int) (k : Nat) : lst (k + 1) (fun j => c * co xs j % m) = lst k (fun j => c * co xs j % m) ++ [c * co xs k % m] := lst_succ _ _
theorem l02Scale_any (m c : Int) (w : World) (v : Value) (xs ys : List Int) (B : Nat) (hv : OwnI w B v xs) (hy : scaleL m c xs = ys) (hm : 2 ≤ m) (hm' : m ≤ 3000000000) (hc0 : 0 ≤ c) (hc0' : c < m) (hn : NumL m xs) (hl : xs.length ≤ 1000000) :
    Calls Try.prog 68 #[.int .i64 m, .int .i64 c, v] w (NewI w ys) := by
  obtain ⟨A, cp, e0, hc1, hc2, hA⟩ := hv.open_
  subst e0
  unfold maxLen at hc2
  have HY := Lib.hid hy
  have HN := Lib.hid hn
  clear hy hn
  go_enter Try.func68, Try.ntmps68
  go_wp2
  go_loopw [7, 8] (fun r i wr => ∃ k g c' : Nat, k ≤ xs.length ∧ i = .int .i64 k ∧ r = .slice (some ⟨g, 0, none⟩) k c' ∧ w.heap.size ≤ g ∧ RowI wr g c' (lst k (fun j => c * co xs j % m)) ∧ Below w.heap.size w wr) (fun _ i _ => xs.length - (intOf i).toNat)
  case atStart => exact ⟨0, w.heap.size, 0, Nat.zero_le _, rfl, rfl, Nat.le_refl _, RowI.lit w [] #[] rfl (by simp), by (repeat (first | assumption | exact Below.refl _ _ | refine Below.alloc ?_ (by first | omega | (simp; done) | (simp; omega)) _ | refine Below.setCell ?_ (by first | omega | (simp; done) | (simp; omega)) _ | refine below_drewN ?_ _))⟩
  case round =>
    obtain ⟨k, g, c', hk, rfl, rfl, hg, hrow, hb⟩ := hrel
    have hz := hb.size
    have hglt := hrow.lt
    by_cases hlt : k < xs.length
    · obtain ⟨b, rfl, hb1, hb2, hcell, hfr⟩ := hA k hlt
      clear hA
      have hcell' : wr.cell? ⟨b, k, none⟩ = some (.int .i64 (co xs k)) := (hb.cell (p := ⟨b, k, none⟩) hb2).trans hcell
      clear hcell
      have hnk : 0 ≤ co xs k ∧ co xs k < m := HN.out k
      have HS := Lib.hid (scaleL_step m c xs k)
      have HL : Hid ((lst k (fun j => c * co xs j % m)).length = k) := length_lst _ _
      obtain ⟨x, hx⟩ : ∃ x, x = co xs k := ⟨_, rfl⟩
      rw [← hx] at hcell' hnk HS
      have hp := prod_bd hc0 hc0' hnk.1 hnk.2 hm'
      have hk0 : (0 : Int) ≤ (k : Int) := by omega
      have hk1 : (k : Int) < (xs.length : Int) := by omega
      clear hx
      go_wp2_with (at_builtin; refine wpAppend1 _ _ w.heap.size (.slice (some ⟨g, 0, none⟩) k c') (lst k (fun j => c * co xs j % m)) k (c * x % m) wr.heap.size (wr.heap.size + 1) (by rfl) (by rfl) (by rfl) (by rfl) ((hrow.alloc _).own' hg HL.out) HL.out (RowI.block1 _) (by omega) (by simp; omega) (by simp) ?_; intro gg cap w1 hown1 hge hgrow hat)
      go_roundw
      case rel =>
        refine ⟨k + 1, gg, cap, by omega, by go_num, rfl, hge, by rw [HS.out]; exact hown1, ?_⟩
        refine Below.grown (hb.alloc hz _) hgrow (by simp; omega) fun b hb => ?_
        simp [Value.ownBlock] at hb
        omega
      case measure => simp [intOf]; omega
    · obtain rfl : k = xs.length := by omega
      have hrow' : RowI wr g c' ys := by rw [← HY.out]; exact hrow
      have hly : Hid (ys.length = xs.length) := by unfold Hid; rw [← HY.out, length_scaleL]
      go_wp2
      go_ret
      have ho := hrow'.own hg
      exact ⟨_, _, by rw [hly.out]; rfl, ho, hb⟩
def ScaleSeriesR (m : Int) (xs : List Int) (c : Int) : (Int × List Int) × Int := if isSer m xs = false then ((0, []), 1) else if isNumB c m = false then ((0, []), 2) else ((m, scaleL m c xs), 0)
theorem ScaleSeriesR_len (m : Int) (xs : List Int) (c : Int) : (ScaleSeriesR m xs c).1.2.length ≤ 100 := by
  unfold ScaleSeriesR
  cases h : isSer m xs
  · simp
  · have := (isSer_true h).2.1
    split
    · simp
    · split
      · simp
      · simp only [length_scaleL]; omega
theorem iScaleSeriesR_any (w : World) (m : Int) (v : Value) (xs : List Int) (c : Int) (B : Nat) (hv : OwnI w B v xs) (hl : xs.length ≤ 2000000) : Calls Try.prog 29 #[.agg #[.int .i64 m, v], .int .i64 c] w (RetSI w (ScaleSeriesR m xs c)) := by
  obtain ⟨A, cp, e0⟩ := hv.form
  subst e0
  cases hs : isSer m xs
  · have HF : ScaleSeriesR m xs c = ((0, []), 1) := by simp [ScaleSeriesR, hs]
    rw [HF]
    clear HF
    have HS := Lib.hid hs
    clear hs
    go_enter Try.func29, Try.ntmps29
    go_wp2_with (go_at_call 53; refine (iIsSeries_any m _ _ xs B (OwnI.keep hv (by (repeat (first | assumption | exact Below.refl _ _ | refine Below.alloc ?_ (by first | omega | (simp; done) | (simp; omega)) _ | refine Below.setCell ?_ (by first | omega | (simp; done) | (simp; omega)) _ | refine below_drewN ?_ _))) (Nat.le_refl _)) (by omega)).mono ?_; rintro e w1 ⟨rfl, hb1⟩; rw [HS.out]; obtain ⟨P1, Q1, K1⟩ := Bf.first2 hb1; have p1a := P1.1.2.1; have p1b := P1.1.2.2; have z1 := P1.1.1; have q1a := Q1.1.2.1; have q1b := Q1.1.2.2; have q1c := Q1.2.1; have q1d := Q1.2.2; have y1 := Q1.1.1)
    exact bodyPost_ret (v := .tuple #[.agg #[.int .i64 0, .slice none 0 0], .int .i64 1]) (by simp [results, Try.results29, go_sem, q1a, q1b]) rfl ⟨none, 0, rfl, OwnI.nil_ _ _, by (repeat (first | assumption | exact Below.refl _ _ | refine Below.alloc ?_ (by first | omega | (simp; done) | (simp; omega)) _ | refine Below.setCell ?_ (by first | omega | (simp; done) | (simp; omega)) _ | refine below_drewN ?_ _))⟩
  · obtain ⟨hm, ⟨hl1, hl2⟩, hn⟩ := isSer_true hs
    have hmb := isModB_true hm
    have HM := Lib.hid hm
    cases hd : isNumB c m
    · have HF : ScaleSeriesR m xs c = ((0, []), 2) := by simp [ScaleSeriesR, hs, hd]
      rw [HF]
      clear HF
      have HS := Lib.hid hs
      have HD := Lib.hid hd
      clear hs hd hm hn
      go_enter Try.func29, Try.ntmps29
      go_wp2_with (first | (go_at_call 53; refine (iIsSeries_any m _ _ xs B (OwnI.keep hv (by (repeat (first | assumption | exact Below.refl _ _ | refine Below.alloc ?_ (by first | omega | (simp; done) | (simp; omega)) _ | refine Below.setCell ?_ (by first | omega | (simp; done) | (simp; omega)) _ | refine below_drewN ?_ _))) (Nat.le_refl _)) (by omega)).mono ?_; rintro e w1 ⟨rfl, hb1⟩; rw [HS.out]; obtain ⟨P1, Q1, K1⟩ := Bf.first2 hb1; have p1a := P1.1.2.1; have p1b := P1.1.2.2; have z1 := P1.1.1; have q1a := Q1.1.2.1; have q1b := Q1.1.2.2; have q1c := Q1.2.1; have q1d := Q1.2.2; have y1 := Q1.1.1) | (go_at_call 59; refine (isNumber_any _ _ _ HM.out).mono ?_; rintro e w2 ⟨rfl, k2, rfl⟩; rw [HD.out]))
      exact bodyPost_ret (v := .tuple #[.agg #[.int .i64 0, .slice none 0 0], .int .i64 2]) (by simp [results, Try.results29, go_sem, q1a, q1b]) rfl ⟨none, 0, rfl, OwnI.nil_ _ _, by (repeat (first | assumption | exact Below.refl _ _ | refine Below.alloc ?_ (by first | omega | (simp; done) | (simp; omega)) _ | refine Below.setCell ?_ (by first | omega | (simp; done) | (simp; omega)) _ | refine below_drewN ?_ _))⟩
    · obtain ⟨hd1, hd2⟩ := isNumB_true hd
      obtain ⟨ys, hy⟩ : ∃ ys, scaleL m c xs = ys := ⟨_, rfl⟩
      have HF : ScaleSeriesR m xs c = ((m, ys), 0) := by simp only [ScaleSeriesR, hs, hd, hy]; simp
      rw [HF]
      clear HF
      have HC : Hid (c % m = c) := Int.emod_eq_of_lt hd1 hd2
      have HNL := Lib.hid (isSer_NumL hs)
      have HS := Lib.hid hs
      have HD := Lib.hid hd
      have HY := Lib.hid hy
      clear hs hd hm hn hy
      go_enter Try.func29, Try.ntmps29
      go_wp2_with (first | (go_at_call 53; refine (iIsSeries_any m _ _ xs B (OwnI.keep hv (by (repeat (first | assumption | exact Below.refl _ _ | refine Below.alloc ?_ (by first | omega | (simp; done) | (simp; omega)) _ | refine Below.setCell ?_ (by first | omega | (simp; done) | (simp; omega)) _ | refine below_drewN ?_ _))) (Nat.le_refl _)) (by omega)).mono ?_; rintro e w1 ⟨rfl, hb1⟩; rw [HS.out]; obtain ⟨P1, Q1, K1⟩ := Bf.first2 hb1; have p1a := P1.1.2.1; have p1b := P1.1.2.2; have z1 := P1.1.1; have q1a := Q1.1.2.1; have q1b := Q1.1.2.2; have q1c := Q1.2.1; have q1d := Q1.2.2; have y1 := Q1.1.1) | (go_at_call 59; refine (isNumber_any _ _ _ HM.out).mono ?_; rintro e w2 ⟨rfl, k2, rfl⟩; rw [HD.out]))
      refine (scaled_any _ m _ xs ys c B (OwnI.drewN (hv.keep K1 (Nat.le_refl _)) _) (by omega) (by omega) HNL.out (by omega) (by omega) (by rw [HC.out]; exact HY.out)).mono ?_
      rintro e w3 ⟨A3, c3, rfl, o3, hb3⟩
      have R3 : Below w1.heap.size w1 w3 := (Below.trans (by (repeat (first | assumption | exact Below.refl _ _ | refine Below.alloc ?_ (by first | omega | (simp; done) | (simp; omega)) _ | refine Below.setCell ?_ (by first | omega | (simp; done) | (simp; omega)) _ | refine below_drewN ?_ _))) (hb3.mono (by first | exact Nat.le_refl _ | (simp; done) | (simp; omega)))); have s3 := R3.size; have K3 : Below w.heap.size w w3 := K1.trans (R3.mono K1.size); have P3 := P1.keep R3; have Q3 := Q1.keep R3; have p3a := P3.1.2.1; have p3b := P3.1.2.2; have z3 := P3.1.1; have q3a := Q3.1.2.1; have q3b := Q3.1.2.2; have q3c := Q3.2.1; have q3d := Q3.2.2; have y3 := Q3.1.1
      go_wp2
      exact bodyPost_ret (v := .tuple #[.agg #[.int .i64 m, .slice A3 ys.length c3], .int .i64 0]) (by simp [results, Try.results29, go_sem, q3a, q3b]) rfl ⟨A3, c3, rfl, ((o3.setCell_lt (by show _ < w1.heap.size; exact y1) _).setCell_lt (by show _ < w1.heap.size; exact y1) _).mono (by show w.heap.size ≤ w1.heap.size; omega), by (repeat (first | assumption | exact Below.refl _ _ | refine Below.alloc ?_ (by first | omega | (simp; done) | (simp; omega)) _ | refine Below.setCell ?_ (by first | omega | (simp; done) | (simp; omega)) _ | refine below_drewN ?_ _))⟩
theorem sScaleSeriesR_any (w : World) (m : Int) (v : Value) (xs : List Int) (c : Int) (B : Nat) (hv : OwnI w B v xs) (hl : xs.length ≤ 2000000) : Calls Try.prog 28 #[.agg #[.int .i64 m, v], .int .i64 c] w (RetSI w (ScaleSeriesR m xs c)) := by
  obtain ⟨A, cp, e0⟩ := hv.form
  subst e0
  cases hs : isSer m xs
  · have HF : ScaleSeriesR m xs c = ((0, []), 1) := by simp [ScaleSeriesR, hs]
    rw [HF]
    clear HF
    have HS := Lib.hid hs
    clear hs
    go_enter Try.func28, Try.ntmps28
    go_wp2_with (go_at_call 49; refine (l02Is_any m _ _ xs B (OwnI.keep hv (by (repeat (first | assumption | exact Below.refl _ _ | refine Below.alloc ?_ (by first | omega | (simp; done) | (simp; omega)) _ | refine Below.setCell ?_ (by first | omega | (simp; done) | (simp; omega)) _ | refine below_drewN ?_ _))) (Nat.le_refl _)) (by omega)).mono ?_; rintro e w1 ⟨rfl, hb1⟩; rw [HS.out]; obtain ⟨P1, Q1, K1⟩ := Bf.first2 hb1; have p1a := P1.1.2.1; have p1b := P1.1.2.2; have z1 := P1.1.1; have q1a := Q1.1.2.1; have q1b := Q1.1.2.2; have q1c := Q1.2.1; have q1d := Q1.2.2; have y1 := Q1.1.1)
    exact bodyPost_ret (v := .tuple #[.agg #[.int .i64 0, .slice none 0 0], .int .i64 1]) (by simp [results, Try.results28, go_sem, q1a, q1b]) rfl ⟨none, 0, rfl, OwnI.nil_ _ _, by (repeat (first | assumption | exact Below.refl _ _ | refine Below.alloc ?_ (by first | omega | (simp; done) | (simp; omega)) _ | refine Below.setCell ?_ (by first | omega | (simp; done) | (simp; omega)) _ | refine below_drewN ?_ _))⟩
  · obtain ⟨hm, ⟨hl1, hl2⟩, hn⟩ := isSer_true hs
    have hmb := isModB_true hm
    cases hd : isNumB c m
    · have HF : ScaleSeriesR m xs c = ((0, []), 2) := by simp [ScaleSeriesR, hs, hd]
      rw [HF]
      clear HF
      have HS := Lib.hid hs
      have HD : Hid (inB c 0 (m - 1) = false) := hd
      clear hs hd hm hn
      go_enter Try.func28, Try.ntmps28
      go_wp2_with (first | (go_at_call 49; refine (l02Is_any m _ _ xs B (OwnI.keep hv (by (repeat (first | assumption | exact Below.refl _ _ | refine Below.alloc ?_ (by first | omega | (simp; done) | (simp; omega)) _ | refine Below.setCell ?_ (by first | omega | (simp; done) | (simp; omega)) _ | refine below_drewN ?_ _))) (Nat.le_refl _)) (by omega)).mono ?_; rintro e w1 ⟨rfl, hb1⟩; rw [HS.out]; obtain ⟨P1, Q1, K1⟩ := Bf.first2 hb1; have p1a := P1.1.2.1; have p1b := P1.1.2.2; have z1 := P1.1.1; have q1a := Q1.1.2.1; have q1b := Q1.1.2.2; have q1c := Q1.2.1; have q1d := Q1.2.2; have y1 := Q1.1.1) | (go_at_call 57; refine (l01In_any _ _ _ _).mono ?_; rintro e w2 ⟨rfl, k2, rfl⟩; rw [HD.out]))
      exact bodyPost_ret (v := .tuple #[.agg #[.int .i64 0, .slice none 0 0], .int .i64 2]) (by simp [results, Try.results28, go_sem, q1a, q1b]) rfl ⟨none, 0, rfl, OwnI.nil_ _ _, by (repeat (first | assumption | exact Below.refl _ _ | refine Below.alloc ?_ (by first | omega | (simp; done) | (simp; omega)) _ | refine Below.setCell ?_ (by first | omega | (simp; done) | (simp; omega)) _ | refine below_drewN ?_ _))⟩
    · obtain ⟨hd1, hd2⟩ := isNumB_true hd
      obtain ⟨ys, hy⟩ : ∃ ys, scaleL m c xs = ys := ⟨_, rfl⟩
      have HF : ScaleSeriesR m xs c = ((m, ys), 0) := by simp only [ScaleSeriesR, hs, hd, hy]; simp
      rw [HF]
      clear HF
      have HNL := Lib.hid (isSer_NumL hs)
      have HS := Lib.hid hs
      have HD : Hid (inB c 0 (m - 1) = true) := hd
      have HY := Lib.hid hy
      clear hs hd hm hn hy
      go_enter Try.func28, Try.ntmps28
      go_wp2_with (first | (go_at_call 49; refine (l02Is_any m _ _ xs B (OwnI.keep hv (by (repeat (first | assumption | exact Below.refl _ _ | refine Below.alloc ?_ (by first | omega | (simp; done) | (simp; omega)) _ | refine Below.setCell ?_ (by first | omega | (simp; done) | (simp; omega)) _ | refine below_drewN ?_ _))) (Nat.le_refl _)) (by omega)).mono ?_; rintro e w1 ⟨rfl, hb1⟩; rw [HS.out]; obtain ⟨P1, Q1, K1⟩ := Bf.first2 hb1; have p1a := P1.1.2.1; have p1b := P1.1.2.2; have z1 := P1.1.1; have q1a := Q1.1.2.1; have q1b := Q1.1.2.2; have q1c := Q1.2.1; have q1d := Q1.2.2; have y1 := Q1.1.1) | (go_at_call 57; refine (l01In_any _ _ _ _).mono ?_; rintro e w2 ⟨rfl, k2, rfl⟩; rw [HD.out]))
      go_region_held3 (fun w' => w'.cell? ⟨w.heap.size, 0, none⟩ = some (.int .i64 m) ∧ w'.cell? ⟨w.heap.size, 1, none⟩ = some (.slice A xs.length cp)) (first | go_keep | exact ⟨p3a, p3b⟩ | exact ⟨p4a, p4b⟩ | (simp [p4a, p4b]; done))
        (first | (go_at_call 68; refine (l02Scale_any m c _ _ xs ys B (OwnI.drewN (hv.keep K1 (Nat.le_refl _)) _) HY.out (by omega) (by omega) hd1 hd2 HNL.out (by omega)).mono ?_; rintro e w3 ⟨A3, c3, rfl, o3, hb3⟩; have R3 : Below w1.heap.size w1 w3 := (Below.trans (by (repeat (first | assumption | exact Below.refl _ _ | refine Below.alloc ?_ (by first | omega | (simp; done) | (simp; omega)) _ | refine Below.setCell ?_ (by first | omega | (simp; done) | (simp; omega)) _ | refine below_drewN ?_ _))) (hb3.mono (by first | exact Nat.le_refl _ | (simp; done) | (simp; omega)))); have s3 := R3.size; have K3 : Below w.heap.size w w3 := K1.trans (R3.mono K1.size); have P3 := P1.keep R3; have Q3 := Q1.keep R3; have p3a := P3.1.2.1; have p3b := P3.1.2.2; have z3 := P3.1.1; have q3a := Q3.1.2.1; have q3b := Q3.1.2.2; have q3c := Q3.2.1; have q3d := Q3.2.2; have y3 := Q3.1.1) | (go_at_call 51; refine (l02Make_any _ m A3 ys.length c3).mono ?_; rintro e w4 ⟨rfl, hb4⟩; have R4 : Below w3.heap.size w3 w4 := (Below.trans (by (repeat (first | assumption | exact Below.refl _ _ | refine Below.alloc ?_ (by first | omega | (simp; done) | (simp; omega)) _ | refine Below.setCell ?_ (by first | omega | (simp; done) | (simp; omega)) _ | refine below_drewN ?_ _))) (hb4.mono (by first | exact Nat.le_refl _ | (simp; done) | (simp; omega)))); have s4 := R4.size; have K4 : Below w.heap.size w w4 := K3.trans (R4.mono K3.size); have P4 := P3.keep R4; have Q4 := Q3.keep R4; have p4a := P4.1.2.1; have p4b := P4.1.2.2; have z4 := P4.1.1; have q4a := Q4.1.2.1; have q4b := Q4.1.2.2; have q4c := Q4.2.1; have q4d := Q4.2.2; have y4 := Q4.1.1))
      go_wp2
      exact bodyPost_ret (v := .tuple #[.agg #[.int .i64 m, .slice A3 ys.length c3], .int .i64 0]) (by simp [results, Try.results28, go_sem, q4a, q4b]) rfl ⟨A3, c3, rfl, (((o3.keep R4 (Nat.le_refl _)).setCell_lt (by show _ < w1.heap.size; exact y1) _).setCell_lt (by show _ < w1.heap.size; exact y1) _).mono (by show w.heap.size ≤ w1.heap.size; omega), by (repeat (first | assumption | exact Below.refl _ _ | refine Below.alloc ?_ (by first | omega | (simp; done) | (simp; omega)) _ | refine Below.setCell ?_ (by first | omega | (simp; done) | (simp; omega)) _ | refine below_drewN ?_ _))⟩

/-! ### The laws' walks, printed by genlaw.py -/
set_option maxHeartbeats 4000000 in
theorem FnExactScaleSeries_walk (w : World) (m0 : Int) (v0 : Value) (xs0 : List Int) (hv0 : RdI w v0 xs0) (a1 : Int) : Calls Try.prog 7 #[.agg #[.int .i64 m0, v0], .int .i64 a1] w fun e w' => e = .returned (.bool true) ∧ Below w.heap.size w w' := by
  obtain ⟨A0, c0, e0⟩ := hv0.form
  subst e0
  obtain ⟨r0, HR⟩ : ∃ r0, Hid (ScaleSeriesR m0 xs0 a1 = r0) := ⟨_, rfl⟩
  obtain ⟨⟨rm, rl⟩, rc⟩ := r0
  have hlen := ScaleSeriesR_len m0 xs0 a1
  rw [HR.out] at hlen
  simp only at hlen
  by_cases hz0 : 1048576 < (xs0.length : Int)
  · skip
    have HZ0 := Lib.hid (szN_lt hz0)
    go_enter Try.func7, Try.ntmps7
    go_wp2_with fail
    refine (szS_any _ m0 _ xs0 (1048576) (hv0.below (by (repeat (first | assumption | exact Below.refl _ _ | refine Below.alloc ?_ (by first | omega | (simp; done) | (simp; omega)) _ | refine Below.setCell ?_ (by first | omega | (simp; done) | (simp; omega)) _ | refine below_drewN ?_ _)))) (by omega) (by omega)).mono ?_
    rintro e w1 ⟨rfl, hb1⟩
    rw [HZ0.out]
    have R : Below w.heap.size w w1 := Below.trans (by (repeat (first | assumption | exact Below.refl _ _ | refine Below.alloc ?_ (by first | omega | (simp; done) | (simp; omega)) _ | refine Below.setCell ?_ (by first | omega | (simp; done) | (simp; omega)) _ | refine below_drewN ?_ _))) (hb1.mono (by first | exact Nat.le_refl _ | (simp; done) | (simp; omega)))
    have s1 : w.heap.size ≤ w1.heap.size := R.size
    have K1 : Hid (Below w.heap.size w w1) := R
    have b0 : Hid (Bx w1 w.heap.size (.int .i64 m0) (.slice A0 xs0.length c0)) := ⟨by have := hb1.size; simp at this; omega, by rw [hb1.cell (by first | (simp; done) | (simp; omega))]; simp, by rw [hb1.cell (by first | (simp; done) | (simp; omega))]; simp⟩
    clear R hb1
    have b0_c := b0.out.2.1
    have b0_d := b0.out.2.2
    have b0_z := b0.out.1
    go_wp2
    go_ret
    exact ⟨rfl, K1.out⟩
  have HZ0 := Lib.hid (szN_ge hz0)
  have hl0 : (xs0.length : Int) ≤ 1048576 := by omega
  clear hz0
  go_enter Try.func7, Try.ntmps7
  go_wp2_with fail
  refine (szS_any _ m0 _ xs0 (1048576) (hv0.below (by (repeat (first | assumption | exact Below.refl _ _ | refine Below.alloc ?_ (by first | omega | (simp; done) | (simp; omega)) _ | refine Below.setCell ?_ (by first | omega | (simp; done) | (simp; omega)) _ | refine below_drewN ?_ _)))) (by omega) (by omega)).mono ?_
  rintro e w2 ⟨rfl, hb2⟩
  rw [HZ0.out]
  have R : Below w.heap.size w w2 := Below.trans (by (repeat (first | assumption | exact Below.refl _ _ | refine Below.alloc ?_ (by first | omega | (simp; done) | (simp; omega)) _ | refine Below.setCell ?_ (by first | omega | (simp; done) | (simp; omega)) _ | refine below_drewN ?_ _))) (hb2.mono (by first | exact Nat.le_refl _ | (simp; done) | (simp; omega)))
  have s2 : w.heap.size ≤ w2.heap.size := R.size
  have K2 : Hid (Below w.heap.size w w2) := R
  have b0 : Hid (Bx w2 w.heap.size (.int .i64 m0) (.slice A0 xs0.length c0)) := ⟨by have := hb2.size; simp at this; omega, by rw [hb2.cell (by first | (simp; done) | (simp; omega))]; simp, by rw [hb2.cell (by first | (simp; done) | (simp; omega))]; simp⟩
  clear R hb2
  have b0_c := b0.out.2.1
  have b0_d := b0.out.2.2
  have b0_z := b0.out.1
  go_wp2_with fail
  refine (toS_any _ m0 _ xs0 (hv0.below K2.out) (by omega)).mono ?_
  rintro e w3 ⟨A_p0, c_p0, rfl, o_p0, hb3⟩
  clear b0_c b0_d b0_z
  have o_p0' := o_p0.mono (show w2.heap.size ≤ _ from by first | exact Nat.le_refl _ | (simp; done) | (simp; omega))
  clear o_p0
  have R : Below w2.heap.size w2 w3 := Below.trans (by (repeat (first | assumption | exact Below.refl _ _ | refine Below.alloc ?_ (by first | omega | (simp; done) | (simp; omega)) _ | refine Below.setCell ?_ (by first | omega | (simp; done) | (simp; omega)) _ | refine below_drewN ?_ _))) (hb3.mono (by first | exact Nat.le_refl _ | (simp; done) | (simp; omega)))
  have s3 : w2.heap.size ≤ w3.heap.size := R.size
  have K3 : Hid (Below w.heap.size w w3) := K2.out.trans (R.mono (by omega))
  replace b0 : Hid (Bx w3 w.heap.size (.int .i64 m0) (.slice A0 xs0.length c0)) := b0.out.keep R
  clear R hb3
  have p0 : Hid (OwnI w3 w2.heap.size (.slice A_p0 xs0.length c_p0) xs0) := o_p0'
  have p0_u : Hid (∀ g, Value.ownBlock (.slice A_p0 xs0.length c_p0) = some g → w2.heap.size ≤ g ∧ g < w3.heap.size) := fun g hg => o_p0'.block_ge hg
  clear o_p0'
  have b0_c := b0.out.2.1
  have b0_d := b0.out.2.2
  have b0_z := b0.out.1
  go_wp2_with fail
  refine (sScaleSeriesR_any _ m0 (.slice A_p0 xs0.length c_p0) xs0 a1 w2.heap.size (p0.out.keep (by (repeat (first | assumption | exact Below.refl _ _ | refine Below.alloc ?_ (by first | omega | (simp; done) | (simp; omega)) _ | refine Below.setCell ?_ (by first | omega | (simp; done) | (simp; omega)) _ | refine below_drewN ?_ _))) (Nat.le_refl _)) (by omega)).mono ?_
  rintro e w4 h_r
  replace h_r := h_r.of HR
  obtain ⟨A_ow, c_ow, rfl, o_ow, hb4⟩ := h_r
  have o_ow' := o_ow.mono (show w3.heap.size ≤ _ from by first | exact Nat.le_refl _ | (simp; done) | (simp; omega))
  clear o_ow
  clear b0_c b0_d b0_z
  have R : Below w3.heap.size w3 w4 := Below.trans (by (repeat (first | assumption | exact Below.refl _ _ | refine Below.alloc ?_ (by first | omega | (simp; done) | (simp; omega)) _ | refine Below.setCell ?_ (by first | omega | (simp; done) | (simp; omega)) _ | refine below_drewN ?_ _))) (hb4.mono (by first | exact Nat.le_refl _ | (simp; done) | (simp; omega)))
  have s4 : w3.heap.size ≤ w4.heap.size := R.size
  have K4 : Hid (Below w.heap.size w w4) := K3.out.trans (R.mono (by omega))
  replace b0 : Hid (Bx w4 w.heap.size (.int .i64 m0) (.slice A0 xs0.length c0)) := b0.out.keep R
  replace p0 : Hid (OwnI w4 w2.heap.size (.slice A_p0 xs0.length c_p0) xs0) := p0.out.keep R (Nat.le_refl _)
  clear R hb4
  have ow : Hid (OwnI w4 w3.heap.size (.slice A_ow rl.length c_ow) rl) := o_ow'
  have ow_u : Hid (∀ g, Value.ownBlock (.slice A_ow rl.length c_ow) = some g → w3.heap.size ≤ g ∧ g < w4.heap.size) := fun g hg => o_ow'.block_ge hg
  clear o_ow'
  clear p0 p0_u
  have b0_c := b0.out.2.1
  have b0_d := b0.out.2.2
  have b0_z := b0.out.1
  go_wp2_with fail
  refine (toS_any _ m0 _ xs0 (hv0.below (K4.out.trans (Below.mono (by (repeat (first | assumption | exact Below.refl _ _ | refine Below.alloc ?_ (by first | omega | (simp; done) | (simp; omega)) _ | refine Below.setCell ?_ (by first | omega | (simp; done) | (simp; omega)) _ | refine below_drewN ?_ _))) (by omega)))) (by omega)).mono ?_
  rintro e w5 ⟨A_x0, c_x0, rfl, o_x0, hb5⟩
  clear b0_c b0_d b0_z
  have o_x0' := o_x0.mono (show (w4.heap.size + 1) ≤ _ from by first | exact Nat.le_refl _ | (simp; done) | (simp; omega))
  clear o_x0
  have R : Below w4.heap.size w4 w5 := Below.trans (by (repeat (first | assumption | exact Below.refl _ _ | refine Below.alloc ?_ (by first | omega | (simp; done) | (simp; omega)) _ | refine Below.setCell ?_ (by first | omega | (simp; done) | (simp; omega)) _ | refine below_drewN ?_ _))) (hb5.mono (by first | exact Nat.le_refl _ | (simp; done) | (simp; omega)))
  have s5 : w4.heap.size ≤ w5.heap.size := R.size
  have K5 : Hid (Below w.heap.size w w5) := K4.out.trans (R.mono (by omega))
  replace b0 : Hid (Bx w5 w.heap.size (.int .i64 m0) (.slice A0 xs0.length c0)) := b0.out.keep R
  replace ow : Hid (OwnI w5 w3.heap.size (.slice A_ow rl.length c_ow) rl) := ow.out.keep R (Nat.le_refl _)
  have bw : Hid (Bx w5 w4.heap.size (.int .i64 rm) (.slice A_ow rl.length c_ow)) := ⟨by have := hb5.size; simp at this; omega, by rw [hb5.cell (by first | (simp; done) | (simp; omega))]; simp, by rw [hb5.cell (by first | (simp; done) | (simp; omega))]; simp⟩
  clear R hb5
  have x0 : Hid (OwnI w5 (w4.heap.size + 1) (.slice A_x0 xs0.length c_x0) xs0) := o_x0'
  have x0_u : Hid (∀ g, Value.ownBlock (.slice A_x0 xs0.length c_x0) = some g → (w4.heap.size + 1) ≤ g ∧ g < w5.heap.size) := fun g hg => o_x0'.block_ge hg
  clear o_x0'
  have b0_c := b0.out.2.1
  have b0_d := b0.out.2.2
  have b0_z := b0.out.1
  have bw_c := bw.out.2.1
  have bw_d := bw.out.2.2
  have bw_z := bw.out.1
  go_wp2_with fail
  refine (iScaleSeriesR_any _ m0 (.slice A_x0 xs0.length c_x0) xs0 a1 (w4.heap.size + 1) (x0.out.keep (by (repeat (first | assumption | exact Below.refl _ _ | refine Below.alloc ?_ (by first | omega | (simp; done) | (simp; omega)) _ | refine Below.setCell ?_ (by first | omega | (simp; done) | (simp; omega)) _ | refine below_drewN ?_ _))) (Nat.le_refl _)) (by omega)).mono ?_
  rintro e w6 h_r
  replace h_r := h_r.of HR
  obtain ⟨A_og, c_og, rfl, o_og, hb6⟩ := h_r
  have o_og' := o_og.mono (show (w5.heap.size + 1) ≤ _ from by first | exact Nat.le_refl _ | (simp; done) | (simp; omega))
  clear o_og
  clear b0_c b0_d b0_z
  clear bw_c bw_d bw_z
  have R : Below w5.heap.size w5 w6 := Below.trans (by (repeat (first | assumption | exact Below.refl _ _ | refine Below.alloc ?_ (by first | omega | (simp; done) | (simp; omega)) _ | refine Below.setCell ?_ (by first | omega | (simp; done) | (simp; omega)) _ | refine below_drewN ?_ _))) (hb6.mono (by first | exact Nat.le_refl _ | (simp; done) | (simp; omega)))
  have s6 : w5.heap.size ≤ w6.heap.size := R.size
  have K6 : Hid (Below w.heap.size w w6) := K5.out.trans (R.mono (by omega))
  replace b0 : Hid (Bx w6 w.heap.size (.int .i64 m0) (.slice A0 xs0.length c0)) := b0.out.keep R
  replace bw : Hid (Bx w6 w4.heap.size (.int .i64 rm) (.slice A_ow rl.length c_ow)) := bw.out.keep R
  replace ow : Hid (OwnI w6 w3.heap.size (.slice A_ow rl.length c_ow) rl) := ow.out.keep R (Nat.le_refl _)
  replace x0 : Hid (OwnI w6 (w4.heap.size + 1) (.slice A_x0 xs0.length c_x0) xs0) := x0.out.keep R (Nat.le_refl _)
  have bx0 : Hid (Bx w6 w5.heap.size (.int .i64 m0) (.slice A_x0 xs0.length c_x0)) := ⟨by have := hb6.size; simp at this; omega, by rw [hb6.cell (by first | (simp; done) | (simp; omega))]; simp, by rw [hb6.cell (by first | (simp; done) | (simp; omega))]; simp⟩
  clear R hb6
  have og : Hid (OwnI w6 (w5.heap.size + 1) (.slice A_og rl.length c_og) rl) := o_og'
  have og_u : Hid (∀ g, Value.ownBlock (.slice A_og rl.length c_og) = some g → (w5.heap.size + 1) ≤ g ∧ g < w6.heap.size) := fun g hg => o_og'.block_ge hg
  clear o_og'
  have b0_c := b0.out.2.1
  have b0_d := b0.out.2.2
  have b0_z := b0.out.1
  have bw_c := bw.out.2.1
  have bw_d := bw.out.2.2
  have bw_z := bw.out.1
  have bx0_c := bx0.out.2.1
  have bx0_d := bx0.out.2.2
  have bx0_z := bx0.out.1
  go_wp2_with fail
  refine (eqS_any _ rm rm _ _ _ _ (og.out.keep (by (repeat (first | assumption | exact Below.refl _ _ | refine Below.alloc ?_ (by first | omega | (simp; done) | (simp; omega)) _ | refine Below.setCell ?_ (by first | omega | (simp; done) | (simp; omega)) _ | refine below_drewN ?_ _))) (Nat.le_refl _)).rd (ow.out.keep (by (repeat (first | assumption | exact Below.refl _ _ | refine Below.alloc ?_ (by first | omega | (simp; done) | (simp; omega)) _ | refine Below.setCell ?_ (by first | omega | (simp; done) | (simp; omega)) _ | refine below_drewN ?_ _))) (Nat.le_refl _)).rd).mono ?_
  rintro e w7 ⟨rfl, hb7⟩
  clear b0_c b0_d b0_z
  clear bw_c bw_d bw_z
  clear bx0_c bx0_d bx0_z
  have R : Below w6.heap.size w6 w7 := Below.trans (by (repeat (first | assumption | exact Below.refl _ _ | refine Below.alloc ?_ (by first | omega | (simp; done) | (simp; omega)) _ | refine Below.setCell ?_ (by first | omega | (simp; done) | (simp; omega)) _ | refine below_drewN ?_ _))) (hb7.mono (by first | exact Nat.le_refl _ | (simp; done) | (simp; omega)))
  have s7 : w6.heap.size ≤ w7.heap.size := R.size
  have K7 : Hid (Below w.heap.size w w7) := K6.out.trans (R.mono (by omega))
  replace b0 : Hid (Bx w7 w.heap.size (.int .i64 m0) (.slice A0 xs0.length c0)) := b0.out.keep R
  replace bw : Hid (Bx w7 w4.heap.size (.int .i64 rm) (.slice A_ow rl.length c_ow)) := bw.out.keep R
  replace bx0 : Hid (Bx w7 w5.heap.size (.int .i64 m0) (.slice A_x0 xs0.length c_x0)) := bx0.out.keep R
  replace ow : Hid (OwnI w7 w3.heap.size (.slice A_ow rl.length c_ow) rl) := ow.out.keep R (Nat.le_refl _)
  replace x0 : Hid (OwnI w7 (w4.heap.size + 1) (.slice A_x0 xs0.length c_x0) xs0) := x0.out.keep R (Nat.le_refl _)
  replace og : Hid (OwnI w7 (w5.heap.size + 1) (.slice A_og rl.length c_og) rl) := og.out.keep R (Nat.le_refl _)
  have bg : Hid (Bx w7 w6.heap.size (.int .i64 rm) (.slice A_og rl.length c_og)) := ⟨by have := hb7.size; simp at this; omega, by rw [hb7.cell (by first | (simp; done) | (simp; omega))]; simp, by rw [hb7.cell (by first | (simp; done) | (simp; omega))]; simp⟩
  clear R hb7
  have b0_c := b0.out.2.1
  have b0_d := b0.out.2.2
  have b0_z := b0.out.1
  have bw_c := bw.out.2.1
  have bw_d := bw.out.2.2
  have bw_z := bw.out.1
  have bx0_c := bx0.out.2.1
  have bx0_d := bx0.out.2.2
  have bx0_z := bx0.out.1
  have bg_c := bg.out.2.1
  have bg_d := bg.out.2.2
  have bg_z := bg.out.1
  go_wp2
  clear b0_c b0_d b0_z
  clear bw_c bw_d bw_z
  clear bx0_c bx0_d bx0_z
  clear bg_c bg_d bg_z
  have L0 : Below w.heap.size w w7.drew := below_drew K7.out
  have T0 : Hid (Bx w7.drew w.heap.size (.int .i64 m0) (.slice A0 xs0.length c0) ∧ Bx w7.drew w4.heap.size (.int .i64 rm) (.slice A_ow rl.length c_ow) ∧ Bx w7.drew w5.heap.size (.int .i64 m0) (.slice A_x0 xs0.length c_x0) ∧ Bx w7.drew w6.heap.size (.int .i64 rm) (.slice A_og rl.length c_og) ∧ OwnI w7.drew w3.heap.size (.slice A_ow rl.length c_ow) rl ∧ OwnI w7.drew (w4.heap.size + 1) (.slice A_x0 xs0.length c_x0) xs0 ∧ OwnI w7.drew (w5.heap.size + 1) (.slice A_og rl.length c_og) rl ∧ Below w.heap.size w w7.drew ∧ w7.heap.size ≤ w7.drew.heap.size) := ⟨b0.out, bw.out, bx0.out, bg.out, ow.out, x0.out, og.out, L0, Nat.le_refl _⟩
  go_region_held3 (fun w' => w'.cell? ⟨w.heap.size, 0, none⟩ = some (.int .i64 m0) ∧ w'.cell? ⟨w.heap.size, 1, none⟩ = some (.slice A0 xs0.length c0) ∧ w'.cell? ⟨w4.heap.size, 0, none⟩ = some (.int .i64 rm) ∧ w'.cell? ⟨w4.heap.size, 1, none⟩ = some (.slice A_ow rl.length c_ow) ∧ w'.cell? ⟨w5.heap.size, 0, none⟩ = some (.int .i64 m0) ∧ w'.cell? ⟨w5.heap.size, 1, none⟩ = some (.slice A_x0 xs0.length c_x0) ∧ w'.cell? ⟨w6.heap.size, 0, none⟩ = some (.int .i64 rm) ∧ w'.cell? ⟨w6.heap.size, 1, none⟩ = some (.slice A_og rl.length c_og) ∧ Hid (Bx w' w.heap.size (.int .i64 m0) (.slice A0 xs0.length c0) ∧ Bx w' w4.heap.size (.int .i64 rm) (.slice A_ow rl.length c_ow) ∧ Bx w' w5.heap.size (.int .i64 m0) (.slice A_x0 xs0.length c_x0) ∧ Bx w' w6.heap.size (.int .i64 rm) (.slice A_og rl.length c_og) ∧ OwnI w' w3.heap.size (.slice A_ow rl.length c_ow) rl ∧ OwnI w' (w4.heap.size + 1) (.slice A_x0 xs0.length c_x0) xs0 ∧ OwnI w' (w5.heap.size + 1) (.slice A_og rl.length c_og) rl ∧ Below w.heap.size w w' ∧ w7.heap.size ≤ w'.heap.size))
    (first | exact ⟨(T0.out.1).2.1, (T0.out.1).2.2, (T0.out.2.1).2.1, (T0.out.2.1).2.2, (T0.out.2.2.1).2.1, (T0.out.2.2.1).2.2, (T0.out.2.2.2.1).2.1, (T0.out.2.2.2.1).2.2, T0⟩ | exact ⟨(T1.out.1).2.1, (T1.out.1).2.2, (T1.out.2.1).2.1, (T1.out.2.1).2.2, (T1.out.2.2.1).2.1, (T1.out.2.2.1).2.2, (T1.out.2.2.2.1).2.1, (T1.out.2.2.2.1).2.2, T1⟩ | exact ⟨(T2.out.1).2.1, (T2.out.1).2.2, (T2.out.2.1).2.1, (T2.out.2.1).2.2, (T2.out.2.2.1).2.1, (T2.out.2.2.1).2.2, (T2.out.2.2.2.1).2.1, (T2.out.2.2.2.1).2.2, T2⟩)
    (first
      | (go_at_call 17; refine (toS_any _ m0 _ xs0 (hv0.below L0) (by omega)).mono ?_; rintro e w8 ⟨A_t, c_t, rfl, o_t, hbA⟩; have T1 : Hid (Bx w8 w.heap.size (.int .i64 m0) (.slice A0 xs0.length c0) ∧ Bx w8 w4.heap.size (.int .i64 rm) (.slice A_ow rl.length c_ow) ∧ Bx w8 w5.heap.size (.int .i64 m0) (.slice A_x0 xs0.length c_x0) ∧ Bx w8 w6.heap.size (.int .i64 rm) (.slice A_og rl.length c_og) ∧ OwnI w8 w3.heap.size (.slice A_ow rl.length c_ow) rl ∧ OwnI w8 (w4.heap.size + 1) (.slice A_x0 xs0.length c_x0) xs0 ∧ OwnI w8 (w5.heap.size + 1) (.slice A_og rl.length c_og) rl ∧ Below w.heap.size w w8 ∧ w7.heap.size ≤ w8.heap.size) := ⟨(T0.out.1).keep hbA, (T0.out.2.1).keep hbA, (T0.out.2.2.1).keep hbA, (T0.out.2.2.2.1).keep hbA, (T0.out.2.2.2.2.1).keep hbA (Nat.le_refl _), (T0.out.2.2.2.2.2.1).keep hbA (Nat.le_refl _), (T0.out.2.2.2.2.2.2.1).keep hbA (Nat.le_refl _), (T0.out.2.2.2.2.2.2.2.1).trans (hbA.mono (Nat.le_trans (show w.heap.size ≤ w7.heap.size from by omega) (T0.out.2.2.2.2.2.2.2.2))), Nat.le_trans (T0.out.2.2.2.2.2.2.2.2) hbA.size⟩)
      | (go_at_call 19; refine (eqS_any _ m0 m0 _ _ xs0 xs0 (T1.out.2.2.2.2.2.1).rd o_t.rd).mono ?_; rintro e w9 ⟨rfl, hbB⟩; have T2 : Hid (Bx w9 w.heap.size (.int .i64 m0) (.slice A0 xs0.length c0) ∧ Bx w9 w4.heap.size (.int .i64 rm) (.slice A_ow rl.length c_ow) ∧ Bx w9 w5.heap.size (.int .i64 m0) (.slice A_x0 xs0.length c_x0) ∧ Bx w9 w6.heap.size (.int .i64 rm) (.slice A_og rl.length c_og) ∧ OwnI w9 w3.heap.size (.slice A_ow rl.length c_ow) rl ∧ OwnI w9 (w4.heap.size + 1) (.slice A_x0 xs0.length c_x0) xs0 ∧ OwnI w9 (w5.heap.size + 1) (.slice A_og rl.length c_og) rl ∧ Below w.heap.size w w9 ∧ w7.heap.size ≤ w9.heap.size) := ⟨(T1.out.1).keep hbB, (T1.out.2.1).keep hbB, (T1.out.2.2.1).keep hbB, (T1.out.2.2.2.1).keep hbB, (T1.out.2.2.2.2.1).keep hbB (Nat.le_refl _), (T1.out.2.2.2.2.2.1).keep hbB (Nat.le_refl _), (T1.out.2.2.2.2.2.2.1).keep hbB (Nat.le_refl _), (T1.out.2.2.2.2.2.2.2.1).trans (hbB.mono (Nat.le_trans (show w.heap.size ≤ w7.heap.size from by omega) (T1.out.2.2.2.2.2.2.2.2))), Nat.le_trans (T1.out.2.2.2.2.2.2.2.2) hbB.size⟩))
  have s9 : w7.heap.size ≤ w9.heap.size := T2.out.2.2.2.2.2.2.2.2
  have K9 : Hid (Below w.heap.size w w9) := T2.out.2.2.2.2.2.2.2.1
  replace b0 : Hid (Bx w9 w.heap.size (.int .i64 m0) (.slice A0 xs0.length c0)) := T2.out.1
  replace bw : Hid (Bx w9 w4.heap.size (.int .i64 rm) (.slice A_ow rl.length c_ow)) := T2.out.2.1
  replace bx0 : Hid (Bx w9 w5.heap.size (.int .i64 m0) (.slice A_x0 xs0.length c_x0)) := T2.out.2.2.1
  replace bg : Hid (Bx w9 w6.heap.size (.int .i64 rm) (.slice A_og rl.length c_og)) := T2.out.2.2.2.1
  replace ow : Hid (OwnI w9 w3.heap.size (.slice A_ow rl.length c_ow) rl) := T2.out.2.2.2.2.1
  replace x0 : Hid (OwnI w9 (w4.heap.size + 1) (.slice A_x0 xs0.length c_x0) xs0) := T2.out.2.2.2.2.2.1
  replace og : Hid (OwnI w9 (w5.heap.size + 1) (.slice A_og rl.length c_og) rl) := T2.out.2.2.2.2.2.2.1
  clear T0 T1 T2 L0 o_t
  have b0_c := b0.out.2.1
  have b0_d := b0.out.2.2
  have b0_z := b0.out.1
  have bw_c := bw.out.2.1
  have bw_d := bw.out.2.2
  have bw_z := bw.out.1
  have bx0_c := bx0.out.2.1
  have bx0_d := bx0.out.2.2
  have bx0_z := bx0.out.1
  have bg_c := bg.out.2.1
  have bg_d := bg.out.2.2
  have bg_z := bg.out.1
  go_wp2_with fail
  refine (markS_any _ (w4.heap.size + 1) m0 _ _ xs0.length (1) (x0.out.keep (by (repeat (first | assumption | exact Below.refl _ _ | refine Below.alloc ?_ (by first | omega | (simp; done) | (simp; omega)) _ | refine Below.setCell ?_ (by first | omega | (simp; done) | (simp; omega)) _ | refine below_drewN ?_ _))) (Nat.le_refl _)) rfl (by omega) (by omega) (by omega)).mono ?_
  rintro e w10 ⟨rfl, o_m, hg10⟩
  clear b0_c b0_d b0_z
  clear bw_c bw_d bw_z
  clear bx0_c bx0_d bx0_z
  clear bg_c bg_d bg_z
  have R : w9.grownBy w10 (Value.ownBlock (.slice A_x0 xs0.length c_x0)) := grownBy_behind (by (repeat (first | assumption | exact Below.refl _ _ | refine Below.alloc ?_ (by first | omega | (simp; done) | (simp; omega)) _ | refine Below.setCell ?_ (by first | omega | (simp; done) | (simp; omega)) _ | refine below_drewN ?_ _))) hg10
  have s10 : w9.heap.size ≤ w10.heap.size := R.size
  have K10 : Hid (Below w.heap.size w w10) := below_grownBy K9.out (by omega) R (fun g hg => by have := x0_u.out g hg; omega)
  replace b0 : Hid (Bx w10 w.heap.size (.int .i64 m0) (.slice A0 xs0.length c0)) := b0.out.grown R (fun g hg => by have := x0_u.out g hg; omega)
  replace bw : Hid (Bx w10 w4.heap.size (.int .i64 rm) (.slice A_ow rl.length c_ow)) := bw.out.grown R (fun g hg => by have := x0_u.out g hg; omega)
  replace bx0 : Hid (Bx w10 w5.heap.size (.int .i64 m0) (.slice A_x0 xs0.length c_x0)) := bx0.out.grown R (fun g hg => by have := x0_u.out g hg; omega)
  replace bg : Hid (Bx w10 w6.heap.size (.int .i64 rm) (.slice A_og rl.length c_og)) := bg.out.grown R (fun g hg => by have := x0_u.out g hg; omega)
  replace ow : Hid (OwnI w10 w3.heap.size (.slice A_ow rl.length c_ow) rl) := ow.out.grown R (fun g g' hg hg' => by have := ow_u.out g hg; have := x0_u.out g' hg'; omega)
  replace og : Hid (OwnI w10 (w5.heap.size + 1) (.slice A_og rl.length c_og) rl) := og.out.grown R (fun g g' hg hg' => by have := og_u.out g hg; have := x0_u.out g' hg'; omega)
  clear R hg10
  replace x0 : Hid (OwnI w10 (w4.heap.size + 1) (.slice A_x0 xs0.length c_x0) (marks (1) xs0.length)) := o_m
  clear o_m
  have b0_c := b0.out.2.1
  have b0_d := b0.out.2.2
  have b0_z := b0.out.1
  have bw_c := bw.out.2.1
  have bw_d := bw.out.2.2
  have bw_z := bw.out.1
  have bx0_c := bx0.out.2.1
  have bx0_d := bx0.out.2.2
  have bx0_z := bx0.out.1
  have bg_c := bg.out.2.1
  have bg_d := bg.out.2.2
  have bg_z := bg.out.1
  go_wp2_with fail
  refine (eqS_any _ rm rm _ _ _ _ (og.out.keep (by (repeat (first | assumption | exact Below.refl _ _ | refine Below.alloc ?_ (by first | omega | (simp; done) | (simp; omega)) _ | refine Below.setCell ?_ (by first | omega | (simp; done) | (simp; omega)) _ | refine below_drewN ?_ _))) (Nat.le_refl _)).rd (ow.out.keep (by (repeat (first | assumption | exact Below.refl _ _ | refine Below.alloc ?_ (by first | omega | (simp; done) | (simp; omega)) _ | refine Below.setCell ?_ (by first | omega | (simp; done) | (simp; omega)) _ | refine below_drewN ?_ _))) (Nat.le_refl _)).rd).mono ?_
  rintro e w11 ⟨rfl, hb11⟩
  clear b0_c b0_d b0_z
  clear bw_c bw_d bw_z
  clear bx0_c bx0_d bx0_z
  clear bg_c bg_d bg_z
  have R : Below w10.heap.size w10 w11 := Below.trans (by (repeat (first | assumption | exact Below.refl _ _ | refine Below.alloc ?_ (by first | omega | (simp; done) | (simp; omega)) _ | refine Below.setCell ?_ (by first | omega | (simp; done) | (simp; omega)) _ | refine below_drewN ?_ _))) (hb11.mono (by first | exact Nat.le_refl _ | (simp; done) | (simp; omega)))
  have s11 : w10.heap.size ≤ w11.heap.size := R.size
  have K11 : Hid (Below w.heap.size w w11) := K10.out.trans (R.mono (by omega))
  replace b0 : Hid (Bx w11 w.heap.size (.int .i64 m0) (.slice A0 xs0.length c0)) := b0.out.keep R
  replace bw : Hid (Bx w11 w4.heap.size (.int .i64 rm) (.slice A_ow rl.length c_ow)) := bw.out.keep R
  replace bx0 : Hid (Bx w11 w5.heap.size (.int .i64 m0) (.slice A_x0 xs0.length c_x0)) := bx0.out.keep R
  replace bg : Hid (Bx w11 w6.heap.size (.int .i64 rm) (.slice A_og rl.length c_og)) := bg.out.keep R
  replace ow : Hid (OwnI w11 w3.heap.size (.slice A_ow rl.length c_ow) rl) := ow.out.keep R (Nat.le_refl _)
  replace x0 : Hid (OwnI w11 (w4.heap.size + 1) (.slice A_x0 xs0.length c_x0) (marks (1) xs0.length)) := x0.out.keep R (Nat.le_refl _)
  replace og : Hid (OwnI w11 (w5.heap.size + 1) (.slice A_og rl.length c_og) rl) := og.out.keep R (Nat.le_refl _)
  clear R hb11
  have b0_c := b0.out.2.1
  have b0_d := b0.out.2.2
  have b0_z := b0.out.1
  have bw_c := bw.out.2.1
  have bw_d := bw.out.2.2
  have bw_z := bw.out.1
  have bx0_c := bx0.out.2.1
  have bx0_d := bx0.out.2.2
  have bx0_z := bx0.out.1
  have bg_c := bg.out.2.1
  have bg_d := bg.out.2.2
  have bg_z := bg.out.1
  go_wp2_with fail
  refine (markS_any _ (w5.heap.size + 1) rm _ _ rl.length (1) (og.out.keep (by (repeat (first | assumption | exact Below.refl _ _ | refine Below.alloc ?_ (by first | omega | (simp; done) | (simp; omega)) _ | refine Below.setCell ?_ (by first | omega | (simp; done) | (simp; omega)) _ | refine below_drewN ?_ _))) (Nat.le_refl _)) rfl (by omega) (by omega) (by omega)).mono ?_
  rintro e w12 ⟨rfl, o_m, hg12⟩
  clear b0_c b0_d b0_z
  clear bw_c bw_d bw_z
  clear bx0_c bx0_d bx0_z
  clear bg_c bg_d bg_z
  have R : w11.grownBy w12 (Value.ownBlock (.slice A_og rl.length c_og)) := grownBy_behind (by (repeat (first | assumption | exact Below.refl _ _ | refine Below.alloc ?_ (by first | omega | (simp; done) | (simp; omega)) _ | refine Below.setCell ?_ (by first | omega | (simp; done) | (simp; omega)) _ | refine below_drewN ?_ _))) hg12
  have s12 : w11.heap.size ≤ w12.heap.size := R.size
  have K12 : Hid (Below w.heap.size w w12) := below_grownBy K11.out (by omega) R (fun g hg => by have := og_u.out g hg; omega)
  replace b0 : Hid (Bx w12 w.heap.size (.int .i64 m0) (.slice A0 xs0.length c0)) := b0.out.grown R (fun g hg => by have := og_u.out g hg; omega)
  replace bw : Hid (Bx w12 w4.heap.size (.int .i64 rm) (.slice A_ow rl.length c_ow)) := bw.out.grown R (fun g hg => by have := og_u.out g hg; omega)
  replace bx0 : Hid (Bx w12 w5.heap.size (.int .i64 m0) (.slice A_x0 xs0.length c_x0)) := bx0.out.grown R (fun g hg => by have := og_u.out g hg; omega)
  replace bg : Hid (Bx w12 w6.heap.size (.int .i64 rm) (.slice A_og rl.length c_og)) := bg.out.grown R (fun g hg => by have := og_u.out g hg; omega)
  replace ow : Hid (OwnI w12 w3.heap.size (.slice A_ow rl.length c_ow) rl) := ow.out.grown R (fun g g' hg hg' => by have := ow_u.out g hg; have := og_u.out g' hg'; omega)
  replace x0 : Hid (OwnI w12 (w4.heap.size + 1) (.slice A_x0 xs0.length c_x0) (marks (1) xs0.length)) := x0.out.grown R (fun g g' hg hg' => by have := x0_u.out g hg; have := og_u.out g' hg'; omega)
  clear R hg12
  replace og : Hid (OwnI w12 (w5.heap.size + 1) (.slice A_og rl.length c_og) (marks (1) rl.length)) := o_m
  clear o_m
  have b0_c := b0.out.2.1
  have b0_d := b0.out.2.2
  have b0_z := b0.out.1
  have bw_c := bw.out.2.1
  have bw_d := bw.out.2.2
  have bw_z := bw.out.1
  have bx0_c := bx0.out.2.1
  have bx0_d := bx0.out.2.2
  have bx0_z := bx0.out.1
  have bg_c := bg.out.2.1
  have bg_d := bg.out.2.2
  have bg_z := bg.out.1
  go_wp2_with fail
  refine (heldS_any _ (w5.heap.size + 1) rm _ rl.length (1) (og.out.keep (by (repeat (first | assumption | exact Below.refl _ _ | refine Below.alloc ?_ (by first | omega | (simp; done) | (simp; omega)) _ | refine Below.setCell ?_ (by first | omega | (simp; done) | (simp; omega)) _ | refine below_drewN ?_ _))) (Nat.le_refl _)) (by omega) (by omega) (by omega)).mono ?_
  rintro e w13 ⟨rfl, hb13⟩
  clear b0_c b0_d b0_z
  clear bw_c bw_d bw_z
  clear bx0_c bx0_d bx0_z
  clear bg_c bg_d bg_z
  have R : Below w12.heap.size w12 w13 := Below.trans (by (repeat (first | assumption | exact Below.refl _ _ | refine Below.alloc ?_ (by first | omega | (simp; done) | (simp; omega)) _ | refine Below.setCell ?_ (by first | omega | (simp; done) | (simp; omega)) _ | refine below_drewN ?_ _))) (hb13.mono (by first | exact Nat.le_refl _ | (simp; done) | (simp; omega)))
  have s13 : w12.heap.size ≤ w13.heap.size := R.size
  have K13 : Hid (Below w.heap.size w w13) := K12.out.trans (R.mono (by omega))
  replace b0 : Hid (Bx w13 w.heap.size (.int .i64 m0) (.slice A0 xs0.length c0)) := b0.out.keep R
  replace bw : Hid (Bx w13 w4.heap.size (.int .i64 rm) (.slice A_ow rl.length c_ow)) := bw.out.keep R
  replace bx0 : Hid (Bx w13 w5.heap.size (.int .i64 m0) (.slice A_x0 xs0.length c_x0)) := bx0.out.keep R
  replace bg : Hid (Bx w13 w6.heap.size (.int .i64 rm) (.slice A_og rl.length c_og)) := bg.out.keep R
  replace ow : Hid (OwnI w13 w3.heap.size (.slice A_ow rl.length c_ow) rl) := ow.out.keep R (Nat.le_refl _)
  replace x0 : Hid (OwnI w13 (w4.heap.size + 1) (.slice A_x0 xs0.length c_x0) (marks (1) xs0.length)) := x0.out.keep R (Nat.le_refl _)
  replace og : Hid (OwnI w13 (w5.heap.size + 1) (.slice A_og rl.length c_og) (marks (1) rl.length)) := og.out.keep R (Nat.le_refl _)
  clear R hb13
  have b0_c := b0.out.2.1
  have b0_d := b0.out.2.2
  have b0_z := b0.out.1
  have bw_c := bw.out.2.1
  have bw_d := bw.out.2.2
  have bw_z := bw.out.1
  have bx0_c := bx0.out.2.1
  have bx0_d := bx0.out.2.2
  have bx0_z := bx0.out.1
  have bg_c := bg.out.2.1
  have bg_d := bg.out.2.2
  have bg_z := bg.out.1
  go_wp2_with fail
  refine (toS_any _ m0 _ xs0 (hv0.below K13.out) (by omega)).mono ?_
  rintro e w14 ⟨A_y0, c_y0, rfl, o_y0, hb14⟩
  clear b0_c b0_d b0_z
  clear bw_c bw_d bw_z
  clear bx0_c bx0_d bx0_z
  clear bg_c bg_d bg_z
  have o_y0' := o_y0.mono (show w13.heap.size ≤ _ from by first | exact Nat.le_refl _ | (simp; done) | (simp; omega))
  clear o_y0
  have R : Below w13.heap.size w13 w14 := Below.trans (by (repeat (first | assumption | exact Below.refl _ _ | refine Below.alloc ?_ (by first | omega | (simp; done) | (simp; omega)) _ | refine Below.setCell ?_ (by first | omega | (simp; done) | (simp; omega)) _ | refine below_drewN ?_ _))) (hb14.mono (by first | exact Nat.le_refl _ | (simp; done) | (simp; omega)))
  have s14 : w13.heap.size ≤ w14.heap.size := R.size
  have K14 : Hid (Below w.heap.size w w14) := K13.out.trans (R.mono (by omega))
  replace b0 : Hid (Bx w14 w.heap.size (.int .i64 m0) (.slice A0 xs0.length c0)) := b0.out.keep R
  replace bw : Hid (Bx w14 w4.heap.size (.int .i64 rm) (.slice A_ow rl.length c_ow)) := bw.out.keep R
  replace bx0 : Hid (Bx w14 w5.heap.size (.int .i64 m0) (.slice A_x0 xs0.length c_x0)) := bx0.out.keep R
  replace bg : Hid (Bx w14 w6.heap.size (.int .i64 rm) (.slice A_og rl.length c_og)) := bg.out.keep R
  replace ow : Hid (OwnI w14 w3.heap.size (.slice A_ow rl.length c_ow) rl) := ow.out.keep R (Nat.le_refl _)
  replace x0 : Hid (OwnI w14 (w4.heap.size + 1) (.slice A_x0 xs0.length c_x0) (marks (1) xs0.length)) := x0.out.keep R (Nat.le_refl _)
  replace og : Hid (OwnI w14 (w5.heap.size + 1) (.slice A_og rl.length c_og) (marks (1) rl.length)) := og.out.keep R (Nat.le_refl _)
  clear R hb14
  have y0 : Hid (OwnI w14 w13.heap.size (.slice A_y0 xs0.length c_y0) xs0) := o_y0'
  have y0_u : Hid (∀ g, Value.ownBlock (.slice A_y0 xs0.length c_y0) = some g → w13.heap.size ≤ g ∧ g < w14.heap.size) := fun g hg => o_y0'.block_ge hg
  clear o_y0'
  have b0_c := b0.out.2.1
  have b0_d := b0.out.2.2
  have b0_z := b0.out.1
  have bw_c := bw.out.2.1
  have bw_d := bw.out.2.2
  have bw_z := bw.out.1
  have bx0_c := bx0.out.2.1
  have bx0_d := bx0.out.2.2
  have bx0_z := bx0.out.1
  have bg_c := bg.out.2.1
  have bg_d := bg.out.2.2
  have bg_z := bg.out.1
  go_wp2_with fail
  refine (iScaleSeriesR_any _ m0 (.slice A_y0 xs0.length c_y0) xs0 a1 w13.heap.size (y0.out.keep (by (repeat (first | assumption | exact Below.refl _ _ | refine Below.alloc ?_ (by first | omega | (simp; done) | (simp; omega)) _ | refine Below.setCell ?_ (by first | omega | (simp; done) | (simp; omega)) _ | refine below_drewN ?_ _))) (Nat.le_refl _)) (by omega)).mono ?_
  rintro e w15 h_r
  replace h_r := h_r.of HR
  obtain ⟨A_oh, c_oh, rfl, o_oh, hb15⟩ := h_r
  have o_oh' := o_oh.mono (show w14.heap.size ≤ _ from by first | exact Nat.le_refl _ | (simp; done) | (simp; omega))
  clear o_oh
  clear b0_c b0_d b0_z
  clear bw_c bw_d bw_z
  clear bx0_c bx0_d bx0_z
  clear bg_c bg_d bg_z
  have R : Below w14.heap.size w14 w15 := Below.trans (by (repeat (first | assumption | exact Below.refl _ _ | refine Below.alloc ?_ (by first | omega | (simp; done) | (simp; omega)) _ | refine Below.setCell ?_ (by first | omega | (simp; done) | (simp; omega)) _ | refine below_drewN ?_ _))) (hb15.mono (by first | exact Nat.le_refl _ | (simp; done) | (simp; omega)))
  have s15 : w14.heap.size ≤ w15.heap.size := R.size
  have K15 : Hid (Below w.heap.size w w15) := K14.out.trans (R.mono (by omega))
  replace b0 : Hid (Bx w15 w.heap.size (.int .i64 m0) (.slice A0 xs0.length c0)) := b0.out.keep R
  replace bw : Hid (Bx w15 w4.heap.size (.int .i64 rm) (.slice A_ow rl.length c_ow)) := bw.out.keep R
  replace bx0 : Hid (Bx w15 w5.heap.size (.int .i64 m0) (.slice A_x0 xs0.length c_x0)) := bx0.out.keep R
  replace bg : Hid (Bx w15 w6.heap.size (.int .i64 rm) (.slice A_og rl.length c_og)) := bg.out.keep R
  replace ow : Hid (OwnI w15 w3.heap.size (.slice A_ow rl.length c_ow) rl) := ow.out.keep R (Nat.le_refl _)
  replace x0 : Hid (OwnI w15 (w4.heap.size + 1) (.slice A_x0 xs0.length c_x0) (marks (1) xs0.length)) := x0.out.keep R (Nat.le_refl _)
  replace og : Hid (OwnI w15 (w5.heap.size + 1) (.slice A_og rl.length c_og) (marks (1) rl.length)) := og.out.keep R (Nat.le_refl _)
  replace y0 : Hid (OwnI w15 w13.heap.size (.slice A_y0 xs0.length c_y0) xs0) := y0.out.keep R (Nat.le_refl _)
  clear R hb15
  have oh : Hid (OwnI w15 w14.heap.size (.slice A_oh rl.length c_oh) rl) := o_oh'
  have oh_u : Hid (∀ g, Value.ownBlock (.slice A_oh rl.length c_oh) = some g → w14.heap.size ≤ g ∧ g < w15.heap.size) := fun g hg => o_oh'.block_ge hg
  clear o_oh'
  have b0_c := b0.out.2.1
  have b0_d := b0.out.2.2
  have b0_z := b0.out.1
  have bw_c := bw.out.2.1
  have bw_d := bw.out.2.2
  have bw_z := bw.out.1
  have bx0_c := bx0.out.2.1
  have bx0_d := bx0.out.2.2
  have bx0_z := bx0.out.1
  have bg_c := bg.out.2.1
  have bg_d := bg.out.2.2
  have bg_z := bg.out.1
  go_wp2_with fail
  refine (eqS_any _ rm rm _ _ _ _ (oh.out.keep (by (repeat (first | assumption | exact Below.refl _ _ | refine Below.alloc ?_ (by first | omega | (simp; done) | (simp; omega)) _ | refine Below.setCell ?_ (by first | omega | (simp; done) | (simp; omega)) _ | refine below_drewN ?_ _))) (Nat.le_refl _)).rd (ow.out.keep (by (repeat (first | assumption | exact Below.refl _ _ | refine Below.alloc ?_ (by first | omega | (simp; done) | (simp; omega)) _ | refine Below.setCell ?_ (by first | omega | (simp; done) | (simp; omega)) _ | refine below_drewN ?_ _))) (Nat.le_refl _)).rd).mono ?_
  rintro e w16 ⟨rfl, hb16⟩
  clear b0_c b0_d b0_z
  clear bw_c bw_d bw_z
  clear bx0_c bx0_d bx0_z
  clear bg_c bg_d bg_z
  have R : Below w15.heap.size w15 w16 := Below.trans (by (repeat (first | assumption | exact Below.refl _ _ | refine Below.alloc ?_ (by first | omega | (simp; done) | (simp; omega)) _ | refine Below.setCell ?_ (by first | omega | (simp; done) | (simp; omega)) _ | refine below_drewN ?_ _))) (hb16.mono (by first | exact Nat.le_refl _ | (simp; done) | (simp; omega)))
  have s16 : w15.heap.size ≤ w16.heap.size := R.size
  have K16 : Hid (Below w.heap.size w w16) := K15.out.trans (R.mono (by omega))
  replace b0 : Hid (Bx w16 w.heap.size (.int .i64 m0) (.slice A0 xs0.length c0)) := b0.out.keep R
  replace bw : Hid (Bx w16 w4.heap.size (.int .i64 rm) (.slice A_ow rl.length c_ow)) := bw.out.keep R
  replace bx0 : Hid (Bx w16 w5.heap.size (.int .i64 m0) (.slice A_x0 xs0.length c_x0)) := bx0.out.keep R
  replace bg : Hid (Bx w16 w6.heap.size (.int .i64 rm) (.slice A_og rl.length c_og)) := bg.out.keep R
  replace ow : Hid (OwnI w16 w3.heap.size (.slice A_ow rl.length c_ow) rl) := ow.out.keep R (Nat.le_refl _)
  replace x0 : Hid (OwnI w16 (w4.heap.size + 1) (.slice A_x0 xs0.length c_x0) (marks (1) xs0.length)) := x0.out.keep R (Nat.le_refl _)
  replace og : Hid (OwnI w16 (w5.heap.size + 1) (.slice A_og rl.length c_og) (marks (1) rl.length)) := og.out.keep R (Nat.le_refl _)
  replace y0 : Hid (OwnI w16 w13.heap.size (.slice A_y0 xs0.length c_y0) xs0) := y0.out.keep R (Nat.le_refl _)
  replace oh : Hid (OwnI w16 w14.heap.size (.slice A_oh rl.length c_oh) rl) := oh.out.keep R (Nat.le_refl _)
  have bh : Hid (Bx w16 w15.heap.size (.int .i64 rm) (.slice A_oh rl.length c_oh)) := ⟨by have := hb16.size; simp at this; omega, by rw [hb16.cell (by first | (simp; done) | (simp; omega))]; simp, by rw [hb16.cell (by first | (simp; done) | (simp; omega))]; simp⟩
  clear R hb16
  have b0_c := b0.out.2.1
  have b0_d := b0.out.2.2
  have b0_z := b0.out.1
  have bw_c := bw.out.2.1
  have bw_d := bw.out.2.2
  have bw_z := bw.out.1
  have bx0_c := bx0.out.2.1
  have bx0_d := bx0.out.2.2
  have bx0_z := bx0.out.1
  have bg_c := bg.out.2.1
  have bg_d := bg.out.2.2
  have bg_z := bg.out.1
  have bh_c := bh.out.2.1
  have bh_d := bh.out.2.2
  have bh_z := bh.out.1
  go_wp2_with fail
  refine (heldS_any _ (w5.heap.size + 1) rm _ rl.length (1) (og.out.keep (by (repeat (first | assumption | exact Below.refl _ _ | refine Below.alloc ?_ (by first | omega | (simp; done) | (simp; omega)) _ | refine Below.setCell ?_ (by first | omega | (simp; done) | (simp; omega)) _ | refine below_drewN ?_ _))) (Nat.le_refl _)) (by omega) (by omega) (by omega)).mono ?_
  rintro e w17 ⟨rfl, hb17⟩
  clear b0_c b0_d b0_z
  clear bw_c bw_d bw_z
  clear bx0_c bx0_d bx0_z
  clear bg_c bg_d bg_z
  clear bh_c bh_d bh_z
  have R : Below w16.heap.size w16 w17 := Below.trans (by (repeat (first | assumption | exact Below.refl _ _ | refine Below.alloc ?_ (by first | omega | (simp; done) | (simp; omega)) _ | refine Below.setCell ?_ (by first | omega | (simp; done) | (simp; omega)) _ | refine below_drewN ?_ _))) (hb17.mono (by first | exact Nat.le_refl _ | (simp; done) | (simp; omega)))
  have s17 : w16.heap.size ≤ w17.heap.size := R.size
  have K17 : Hid (Below w.heap.size w w17) := K16.out.trans (R.mono (by omega))
  replace b0 : Hid (Bx w17 w.heap.size (.int .i64 m0) (.slice A0 xs0.length c0)) := b0.out.keep R
  replace bw : Hid (Bx w17 w4.heap.size (.int .i64 rm) (.slice A_ow rl.length c_ow)) := bw.out.keep R
  replace bx0 : Hid (Bx w17 w5.heap.size (.int .i64 m0) (.slice A_x0 xs0.length c_x0)) := bx0.out.keep R
  replace bg : Hid (Bx w17 w6.heap.size (.int .i64 rm) (.slice A_og rl.length c_og)) := bg.out.keep R
  replace bh : Hid (Bx w17 w15.heap.size (.int .i64 rm) (.slice A_oh rl.length c_oh)) := bh.out.keep R
  replace ow : Hid (OwnI w17 w3.heap.size (.slice A_ow rl.length c_ow) rl) := ow.out.keep R (Nat.le_refl _)
  replace x0 : Hid (OwnI w17 (w4.heap.size + 1) (.slice A_x0 xs0.length c_x0) (marks (1) xs0.length)) := x0.out.keep R (Nat.le_refl _)
  replace og : Hid (OwnI w17 (w5.heap.size + 1) (.slice A_og rl.length c_og) (marks (1) rl.length)) := og.out.keep R (Nat.le_refl _)
  replace y0 : Hid (OwnI w17 w13.heap.size (.slice A_y0 xs0.length c_y0) xs0) := y0.out.keep R (Nat.le_refl _)
  replace oh : Hid (OwnI w17 w14.heap.size (.slice A_oh rl.length c_oh) rl) := oh.out.keep R (Nat.le_refl _)
  clear R hb17
  have b0_c := b0.out.2.1
  have b0_d := b0.out.2.2
  have b0_z := b0.out.1
  have bw_c := bw.out.2.1
  have bw_d := bw.out.2.2
  have bw_z := bw.out.1
  have bx0_c := bx0.out.2.1
  have bx0_d := bx0.out.2.2
  have bx0_z := bx0.out.1
  have bg_c := bg.out.2.1
  have bg_d := bg.out.2.2
  have bg_z := bg.out.1
  have bh_c := bh.out.2.1
  have bh_d := bh.out.2.2
  have bh_z := bh.out.1
  go_wp2
  go_ret
  exact ⟨rfl, K17.out⟩


end Go.Proofs.Ytfdklbimdkaaiaa
