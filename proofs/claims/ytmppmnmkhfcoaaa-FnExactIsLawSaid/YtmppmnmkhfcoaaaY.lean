/- Contracts over this seat's translation. Condition: each contract's own. -/
import Derived.Test.YtmppmnmkhfcoaaaX
import Derived.ProofKit
import Derived.Laws.Bits64b
import Derived.Lib.Mul64
import Derived.OpenShut
import Derived.Below
import Derived.ChangeSame
import Derived.Deep.Modes
import Derived.Lib.SmallJoins
import Derived.ChangeSlices
import Derived.WalkKit
import Derived.WalkSpells
import Derived.WalkLawsBesides
import Derived.Deep.QuietTactic
import Derived.BigQuiet
import Derived.Deep.RegionHeld3
import Derived.Deep.RegionWith
import Derived.Deep.RegionLaw
import Derived.Deep.AppendLies
import Derived.Laws.CopyOwn
import Derived.Deep.DeepCutAuto
import Derived.Deep.OwnRows
import Derived.Deep.LoopGhost
import Derived.Deep.DeepFit
import Derived.Deep.DeepMust
import Derived.Deep.Draws
import Derived.Deep.CutRange
import Derived.Maps.AppendAt
import Derived.Lib.Hide
import Derived.StillTailTactics
import Derived.Laws.MakeOwn
import Derived.Deep.Matrix
set_option linter.unusedVariables false
open Go Go.RowKit
namespace Go.Proofs.Ytmppmnmkhfcoaaa
/-! ### IsLaw: columns, Horner's rule over planes (reference) -/
theorem lst_take_succ (n : Nat) (f : Nat → Int) : lst (n + 1) f = lst n f ++ [f n] := by
  unfold lst; rw [List.range_succ, List.map_append]; rfl
set_option maxRecDepth 4000 in
set_option maxHeartbeats 1000000 in
theorem l04Column_any (w : World) (v : Value) (xss : List (List Int)) (zs : List Int) (n c : Nat) (lo hi : Nat) (hv : OwnP w lo hi v xss) (ht : Tri n xss) (hn1 : 1 ≤ n) (hn : n ≤ 1000) (hc : c < n) (hz : lst (n - c) (fun i => co2 xss i c) = zs) :
    Calls Try.prog 158 #[v, .int .i64 (c : Int)] w (NewI w zs) := by
  obtain ⟨gA, cA, rfl, hcA1, hcA2, hgA, hA⟩ := hv.source n ht.1 hn1
  have HA := Lib.hid hA
  have HTR := Lib.hid ht
  have HZ := Lib.hid hz
  clear hA hz hv ht
  go_enter Try.func158, Try.ntmps158
  go_wp2
  go_loopw [5, 6] (fun r i wr => ∃ k g cc : Nat, k + c ≤ n ∧ i = .int .i64 k ∧ r = .slice (some ⟨g, 0, none⟩) k cc ∧ w.heap.size ≤ g ∧ Hid (RowI wr g cc (lst k (fun i => co2 xss i c))) ∧ Hid (Below w.heap.size w wr)) (fun _ i _ => n - (intOf i).toNat)
  case atStart => exact ⟨0, w.heap.size, 0, by omega, rfl, rfl, Nat.le_refl _, RowI.lit w [] #[] rfl (by simp), by unfold Hid; (repeat (first | assumption | exact Below.refl _ _ | refine Below.alloc ?_ (by first | omega | (simp; done) | (simp; omega)) _ | refine Below.setCell ?_ (by first | omega | (simp; done) | (simp; omega)) _ | refine below_drewN ?_ _))⟩
  case round =>
    obtain ⟨k, g, cc, hk, rfl, rfl, hg, hrow, hb⟩ := hrel
    have hz := hb.out.size
    have hglt := hrow.out.lt
    by_cases hlt : k + c < n
    · obtain ⟨Ar, cr, hcell, hown⟩ := HA.out k (by omega)
      have hc0 := (hb.out.cell (p := ⟨gA, k, none⟩) hgA).trans hcell
      have hro := (hown.keep hb.out (Nat.le_refl _)).open_
      obtain ⟨Ar2, cr2, er, hr1, hr2, hcells⟩ := hro
      simp only [Value.slice.injEq, true_and] at er
      obtain ⟨rfl, rfl⟩ := er
      have hrl := HTR.out.2 k (by omega)
      obtain ⟨gr, rfl, _, hgr, hcx, _⟩ := hcells c (by omega)
      rw [hrl] at hc0 hr1
      have hcx2 : wr.cell? ⟨gr, c, none⟩ = some (.int .i64 (co2 xss k c)) := hcx
      have HS := Lib.hid (lst_take_succ k (fun i => co2 xss i c))
      have HL : Hid ((lst k (fun i => co2 xss i c)).length = k) := length_lst _ _
      clear hcell hown hcells hcx
      unfold maxLen at hr2
      generalize co2 xss k c = x at *
      have hk0 : (0 : Int) ≤ (k : Int) := by omega
      have hk1 : (k : Int) < (n : Int) := by omega
      have hk2 : (0 : Int) ≤ (c : Int) := by omega
      have hk3 : (c : Int) < ((n - k : Nat) : Int) := by omega
      go_wp2_with (at_builtin; refine wpAppend1 _ _ w.heap.size (.slice (some ⟨g, 0, none⟩) k cc) (lst k (fun i => co2 xss i c)) k x wr.heap.size (wr.heap.size + 1) (by rfl) (by rfl) (by rfl) (by rfl) ((hrow.out.alloc _).own' hg HL.out) HL.out (RowI.block1 _) (by omega) (by simp; omega) (by simp) ?_; intro gg cap w1 hown1 hge hgrow hat)
      go_roundw
      case rel =>
        refine ⟨k + 1, gg, cap, by omega, by go_num, rfl, hge, by unfold Hid; rw [HS.out]; exact hown1, ?_⟩
        refine Below.grown (hb.out.alloc hz _) hgrow (by simp; omega) fun b hb => ?_
        simp [Value.ownBlock] at hb
        omega
      case measure => simp [intOf]; omega
    · have hkn : k = n - c := by omega
      have hrow' : Hid (RowI wr g cc zs) := by rw [← HZ.out, ← hkn]; exact hrow.out
      have hly : Hid (zs.length = k) := by unfold Hid; rw [← HZ.out, length_lst, hkn]
      have hd5 : decide ((k : Int) + (c : Int) < (n : Int)) = false := by simp; omega
      clear hkn
      go_wp2
      go_ret
      exact ⟨_, _, by rw [hly.out]; rfl, hrow'.out.own hg, hb.out⟩
theorem hrP_put (m : Int) (n : Nat) (c : Nat → Int) (F : Nat → Nat → Int) (t s : Nat) : tab n (upd2 (tmF m n (hrP m n c F t s) F) 0 0 ((tmF m n (hrP m n c F t s) F 0 0 + c (t - 1 - s)) % m)) = tab n (hrP m n c F t (s + 1)) := tab_congr fun a b _ => by
  unfold upd2
  rw [hrP]
theorem hrP_bd {m : Int} (hm : 0 < m) (n : Nat) (c : Nat → Int) (F : Nat → Nat → Int) (t : Nat) : ∀ s i j, 0 ≤ hrP m n c F t s i j ∧ hrP m n c F t s i j < m
  | 0, i, j => by unfold hrP; omega
  | s + 1, i, j => by
    unfold hrP
    split
    · exact ⟨Int.emod_nonneg _ (by omega), Int.emod_lt_of_pos _ hm⟩
    · exact tmF_bd hm _ _ _ _ _
theorem co2_tab_num2 {m : Int} (hm : 0 < m) (n : Nat) (f : Nat → Nat → Int) (h : ∀ i j, 0 ≤ f i j ∧ f i j < m) : Num2 m (tab n f) := Num2.tab hm n f h
theorem tmF_tab (m : Int) (n : Nat) (f F : Nat → Nat → Int) : tab n (tmF m n (co2 (tab n f)) F) = tab n (tmF m n f F) := tab_congr fun a b hab => tmF_modL hab fun i j hij => by rw [co2_tab _ hij]
set_option maxRecDepth 4000 in
set_option maxHeartbeats 2000000 in
theorem l03After_any (w : World) (m : Int) (fv v : Value) (fs : List Int) (xss zss : List (List Int)) (n r B lo hi : Nat) (hf : OwnI w B fv fs) (hfl : fs.length = r) (hfb : ∀ k, 0 ≤ co fs k ∧ co fs k < m) (hv : OwnP w lo hi v xss) (ht : Tri n xss) (hq : Num2 m xss) (hm : 2 ≤ m) (hm' : m ≤ 3000000000) (hn1 : 1 ≤ n) (hn : n ≤ 1000) (hr : r ≤ n) (hz : tab n (hrP m n (co fs) (co2 xss) r r) = zss) :
    Calls Try.prog 157 #[.int .i64 m, fv, v] w (NewP w zss) := by
  obtain ⟨gA, cA, e0, hcA1, hcA2, hgA, -⟩ := hv.source n ht.1 hn1
  obtain ⟨Af, cf, ef, hf1, hf2, hfc⟩ := hf.open_
  subst e0 ef
  unfold maxLen at hf2
  have HF := Lib.hid hf
  have HFC := Lib.hid hfc
  have HFB := Lib.hid hfb
  have HFL := Lib.hid hfl
  have HV := Lib.hid hv
  have HT := Lib.hid ht
  have HQ := Lib.hid hq
  have HZ := Lib.hid hz
  rw [hfl]
  rw [hfl] at hf1
  clear hf hfc hfb hfl hv ht hq hz
  go_enter Try.func157, Try.ntmps157
  go_wp2_with (go_at_call 125; refine (l03Zero_any _ _ n (by omega) (by omega)).mono ?_; rintro e w1 ⟨A1, c1, rfl, o1, hb1⟩; rw [length_tab] at *)
  have HO1 := Lib.hid o1
  have HB1 := Lib.hid hb1
  clear o1 hb1
  go_loopw [7, 8, 9] (fun q i _ wr => ∃ (k : Nat) (A' : Option Addr) (c' : Nat), k ≤ r ∧ i = .int .i64 ((r : Int) - 1 - k) ∧ q = .slice A' n c' ∧ Hid (OwnP wr w.heap.size wr.heap.size (.slice A' n c') (tab n (hrP m n (co fs) (co2 xss) r k))) ∧ Hid (Below w.heap.size w wr)) (fun _ i _ _ => (intOf i + 1).toNat)
  case atStart => exact ⟨0, A1, c1, Nat.zero_le _, by simp, rfl, HO1.out, HB1.out⟩
  case round =>
    clear HO1 HB1
    obtain ⟨k, A', c', hk, rfl, rfl, HO, HB⟩ := hrel
    have hz := HB.out.size
    by_cases hlt : k < r
    · obtain ⟨gf, rfl, -, hgf, hcf, -⟩ := HFC.out (r - 1 - k) (by rw [HFL.out]; omega)
      obtain ⟨f0, hf0⟩ : ∃ f0, co fs (r - 1 - k) = f0 := ⟨_, rfl⟩
      have hfb := HFB.out (r - 1 - k)
      rw [show fs.getD (r - 1 - k) 0 = f0 from hf0] at hcf
      rw [hf0] at hfb
      have HPUT := Lib.hid (hrP_put m n (co fs) (co2 xss) r k)
      rw [hf0] at HPUT
      have HTM := Lib.hid (tmF_tab m n (hrP m n (co fs) (co2 xss) r k) (co2 xss))
      have hbd := tmF_bd (show 0 < m by omega) n (hrP m n (co fs) (co2 xss) r k) (co2 xss) 0 0
      obtain ⟨j, hj⟩ : ∃ j, r - 1 - k = j := ⟨_, rfl⟩
      have hj2 : (r : Int) - 1 - (k : Int) = (j : Int) := by omega
      have hj3 : j < r := by omega
      rw [hj] at hcf
      rw [hj2]
      clear hf0
      have HJ := Lib.hid hj
      have HJ2 := Lib.hid hj2
      clear hj hj2
      have hi0 : (0 : Int) ≤ (j : Int) := by omega
      have hi1 : (j : Int) < (r : Int) := by omega
      go_wp2_with fail
      refine (l03Times_any _ m _ _ _ xss _ n w.heap.size wr.heap.size lo hi HO.out (Tri.tab n _) (co2_tab_num2 (by omega) n _ (hrP_bd (by omega) n _ _ r k)) (HV.out.keep HB.out) HT.out HQ.out hm hm' hn1 hn rfl).mono ?_
      rintro e w2 ⟨A2, c2, rfl, o2, hb2⟩
      rw [length_tab] at *
      rw [HTM.out] at o2
      have hbz := HB.out.trans (hb2.mono hz)
      have hz2 := hbz.size
      have HB2 := Lib.hid hbz
      obtain ⟨g2, c3, e2, hg2a, hg2b, hg2, -⟩ := o2.source n (length_tab _ _) hn1
      simp only [Value.slice.injEq, true_and] at e2
      obtain ⟨rfl, rfl⟩ := e2
      obtain ⟨gr, cr, hcr, hne, hgl, hgh, hgz, hd0, hf0, hset⟩ := o2.put (i := 0) (j := 0) (by omega)
      have hcf2 := (HB2.out.cell (p := ⟨gf, j, none⟩) hgf).trans hcf
      have HSET : Hid (OwnP (w2.setCell ⟨gr, 0, none⟩ (.int .i64 ((tmF m n (hrP m n (co fs) (co2 xss) r k) (co2 xss) 0 0 + f0) % m))) wr.heap.size w2.heap.size (.slice (some ⟨g2, 0, none⟩) n c2) (tab n (hrP m n (co fs) (co2 xss) r (k + 1)))) := by
        unfold Hid
        rw [← HPUT.out]
        exact hset _
      clear hset HPUT HTM HO HB hb2 o2 hcf
      obtain ⟨a, ha⟩ : ∃ a, a = tmF m n (hrP m n (co fs) (co2 xss) r k) (co2 xss) 0 0 := ⟨_, rfl⟩
      rw [← ha] at hd0 hbd HSET
      clear ha
      have v3 : IntKind.i64.wrap (a + f0) = a + f0 := IntWalk.i64_in _ (by omega)
      have v4 : (a + f0).tmod m = (a + f0) % m := Int.tmod_eq_emod_of_nonneg (by omega)
      have v11 : (m == 0) = false := by simp; omega
      have v12 : ¬ m = 0 := by omega
      simp only [Nat.sub_zero] at hcr
      have hn0 : (0 : Int) < (n : Int) := by omega
      have hn00 : 0 < n := by omega
      go_wp2_with fail
      go_still_tail 12, (by kernel_rfl)
      change wpList _ _ _ _ _ w2.drew
      clear v3 v4
      go_wp2
      go_roundw
      case rel =>
        refine ⟨k + 1, _, c2, by omega, ?_, rfl, ?_, (below_drew HB2.out).setCell (by simp; omega) _⟩
        · have hj2 := HJ2.out
          go_num
        · unfold Hid
          have h := HSET.out.mono (Nat.le_trans hz (Nat.le_refl _)) (show w2.heap.size ≤ ((w2.setCell ⟨gr, 0, none⟩ (.int .i64 ((a + f0) % m))).drew).heap.size by simp [World.drew])
          exact h
      case measure => simp [intOf] <;> omega
    · have hkr : k = r := by omega
      have hs := HO.out
      rw [hkr, HZ.out] at hs
      have HR' := Lib.hid hs
      have hd6 : decide ((0 : Int) ≤ (r : Int) - 1 - (k : Int)) = false := by simp; omega
      have HL : Hid (n = zss.length) := by unfold Hid; rw [← HZ.out, length_tab]
      clear hs hkr
      go_wp2
      go_ret
      exact ⟨A', c', by rw [← HL.out]; rfl, by rw [← HL.out]; exact HR'.out, HB.out⟩

/-! ### Lists of tables in memory (lists of planes, lists of tables) -/
def OwnTs (w : World) (B : Nat) (t : TypeId) (hd : List Value) (av : Option Nat) (v : Value) (n : Nat) (F : Nat → List (List Int)) : Prop :=
  ∃ us : Nat → Value, w.ownsRow B t (hd.length + 1) v n ((List.range n).flatMap fun k => hd ++ [us k]) ∧ (∀ g, v.ownBlock = some g → av ≠ some g) ∧
    ∀ k, k < n → ∃ lo hi, B ≤ lo ∧ hi ≤ w.heap.size ∧ (∀ g, v.ownBlock = some g ∨ av = some g → g < lo ∨ hi ≤ g) ∧ OwnP w lo hi (us k) (F k)
theorem OwnTs.other {W w' : World} {B : Nat} {t : TypeId} {hd : List Value} {av av' : Option Nat} {v : Value} {n : Nat} {F : Nat → List (List Int)} (h : OwnTs W B t hd av v n F) (hz : W.heap.size ≤ w'.heap.size) (hb : ∀ k, k < W.heap.size → av ≠ some k → w'.heap[k]? = W.heap[k]?) (hav : av' = av ∨ av' = none ∨ ∃ H, av' = some H ∧ W.heap.size ≤ H) : OwnTs w' B t hd av' v n F := by
  obtain ⟨us, h1, h2, h3⟩ := h
  refine ⟨us, ownsRow_of_block h1 fun g hg => hb g (ownsRow_block_ge h1 hg).2 (h2 g hg), fun g hg => ?_, fun k hk => ?_⟩
  · have q := (ownsRow_block_ge h1 hg).2
    rcases hav with rfl | rfl | ⟨H, rfl, hH⟩
    · exact h2 g hg
    · simp
    · intro e
      have : H = g := by simpa using e
      omega
  · obtain ⟨lo, hi, a1, a2, a3, a4⟩ := h3 k hk
    refine ⟨lo, hi, a1, by omega, fun g hg => ?_, a4.of_block fun j hj j1 j2 => hb j hj fun e => ?_⟩
    · rcases hg with hg | hg
      · exact a3 g (.inl hg)
      · rcases hav with rfl | rfl | ⟨H, rfl, hH⟩
        · exact a3 g (.inr hg)
        · simp at hg
        · have : H = g := by simpa using hg
          omega
    · have := a3 j (.inr e)
      omega
theorem OwnTs.keep {w w' : World} {B : Nat} {t : TypeId} {hd : List Value} {av : Option Nat} {v : Value} {n : Nat} {F : Nat → List (List Int)} (h : OwnTs w B t hd av v n F) (R : Below w.heap.size w w') : OwnTs w' B t hd av v n F := h.other R.size (fun k hk _ => R.block k hk) (.inl rfl)
theorem OwnTs.lit0 {W : World} {B : Nat} {t : TypeId} {hd : List Value} {av : Option Nat} {F : Nat → List (List Int)} {g : Nat} (hb : W.heap[g]? = some (.cells #[] t (0, 0))) (hB : B ≤ g) (hav : av ≠ some g) : OwnTs W B t hd av (.slice (some ⟨g, 0, none⟩) 0 0) 0 F :=
  ⟨fun _ => .int .i64 0, ⟨by simp, .inr ⟨g, 0, #[], rfl, hB, hb, Nat.le_refl _, by unfold maxLen; omega, by simp, by simp⟩⟩, fun g' hg' => by simp [Value.ownBlock] at hg'; rw [← hg']; exact hav, fun k hk => by omega⟩
theorem flatMap_range_succ {α : Type} (f : Nat → List α) (n : Nat) : (List.range (n + 1)).flatMap f = (List.range n).flatMap f ++ f n := by rw [List.range_succ, List.flatMap_append]; simp
theorem flatMap_range_congr {α : Type} {f g : Nat → List α} {n : Nat} (h : ∀ k, k < n → f k = g k) : (List.range n).flatMap f = (List.range n).flatMap g := by
  induction n with
  | zero => rfl
  | succ n ih => rw [flatMap_range_succ, flatMap_range_succ, ih fun k hk => h k (by omega), h n (by omega)]
theorem length_flatMap_hd (hd : List Value) (us : Nat → Value) (n : Nat) : ((List.range n).flatMap fun k => hd ++ [us k]).length = n * (hd.length + 1) := by
  induction n with
  | zero => simp
  | succ n ih => rw [flatMap_range_succ, List.length_append, ih, List.length_append, List.length_singleton, Nat.succ_mul]
theorem getElem_flatMap_hd {hd : List Value} {us : Nat → Value} : ∀ {n k j : Nat}, k < n → j < hd.length + 1 → ((List.range n).flatMap fun k => hd ++ [us k])[k * (hd.length + 1) + j]? = (hd ++ [us k])[j]?
  | 0, k, j, h, _ => by omega
  | n + 1, k, j, h, hj => by
    have hl := length_flatMap_hd hd us n
    rw [flatMap_range_succ]
    rcases Nat.lt_or_ge k n with hk | hk
    · rw [List.getElem?_append_left, getElem_flatMap_hd hk hj]
      rw [hl]
      have : (k + 1) * (hd.length + 1) ≤ n * (hd.length + 1) := Nat.mul_le_mul_right _ hk
      rw [Nat.succ_mul] at this
      omega
    · have : k = n := by omega
      subst this
      rw [List.getElem?_append_right (by rw [hl]; omega), hl, Nat.add_sub_cancel_left]
theorem OwnTs.push {W w' : World} {B : Nat} {t : TypeId} {hd : List Value} {av : Option Nat} {v v' u : Value} {n lo hi : Nat} {F : Nat → List (List Int)} {us : Nat → Value}
    (h1 : W.ownsRow B t (hd.length + 1) v n ((List.range n).flatMap fun k => hd ++ [us k])) (h2 : ∀ g, v.ownBlock = some g → av ≠ some g)
    (h3 : ∀ k, k < n → ∃ lo hi, B ≤ lo ∧ hi ≤ W.heap.size ∧ (∀ g, v.ownBlock = some g ∨ av = some g → g < lo ∨ hi ≤ g) ∧ OwnP W lo hi (us k) (F k))
    (hu : OwnP W lo hi u (F n)) (hlo : B ≤ lo) (hhi : hi ≤ W.heap.size) (hv : ∀ g, v.ownBlock = some g ∨ av = some g → g < lo ∨ hi ≤ g) (hav : ∀ g, av = some g → g < W.heap.size)
    (n2 : w'.ownsRow B t (hd.length + 1) v' (n + 1) (((List.range n).flatMap fun k => hd ++ [us k]) ++ (hd ++ [u]))) (hg : W.grownBy w' v.ownBlock) (hb : v'.ownBlock = v.ownBlock ∨ v'.ownBlock = some W.heap.size) : OwnTs w' B t hd av v' (n + 1) F := by
  have hz := hg.size
  have hP : ∀ {lo hi : Nat} {x : Value} {X : List (List Int)}, OwnP W lo hi x X → (∀ g, v.ownBlock = some g ∨ av = some g → g < lo ∨ hi ≤ g) → OwnP w' lo hi x X := fun ho hq => ho.of_block fun j hj j1 j2 => hg.block j hj fun e => by
    have := hq j (.inl e.symm)
    omega
  have hA : ∀ {lo hi : Nat}, hi ≤ W.heap.size → (∀ g, v.ownBlock = some g ∨ av = some g → g < lo ∨ hi ≤ g) → ∀ g, v'.ownBlock = some g ∨ av = some g → g < lo ∨ hi ≤ g := fun hh hq g hgg => by
    rcases hgg with hgg | hgg
    · rcases hb with hb | hb
      · exact hq g (.inl (hb ▸ hgg))
      · rw [hb] at hgg
        have : W.heap.size = g := by simpa using hgg
        omega
    · exact hq g (.inr hgg)
  refine ⟨fun k => if k < n then us k else u, ?_, fun g hgg e => ?_, fun k hk => ?_⟩
  · rw [flatMap_range_succ, flatMap_range_congr (g := fun k => hd ++ [us k]) (fun k hk => by simp [hk])]
    simpa using n2
  · rcases hb with hb | hb
    · exact h2 g (hb ▸ hgg) e
    · rw [hb] at hgg
      have := hav g e
      have : W.heap.size = g := by simpa using hgg
      omega
  · rcases Nat.lt_or_ge k n with h | h
    · obtain ⟨lo, hi, a1, a2, a3, a4⟩ := h3 k h
      refine ⟨lo, hi, a1, by omega, hA a2 a3, ?_⟩
      simp only [h, if_true]
      exact hP a4 a3
    · have : k = n := by omega
      subst this
      refine ⟨lo, hi, hlo, by omega, hA hhi hv, ?_⟩
      simp only [Nat.lt_irrefl, if_false]
      exact hP hu hv
/-- Element k: its cells and its table. -/
theorem OwnTs.at_ {w : World} {B : Nat} {t : TypeId} {hd : List Value} {av : Option Nat} {v : Value} {n : Nat} {F : Nat → List (List Int)} (h : OwnTs w B t hd av v n F) {k : Nat} (hk : k < n) :
    ∃ g c u lo hi, v = .slice (some ⟨g, 0, none⟩) n c ∧ n ≤ c ∧ c ≤ 2 ^ 63 - 1 ∧ B ≤ g ∧ g < w.heap.size ∧ (∀ j, w.frozen? ⟨g, j, none⟩ = false) ∧ (∀ j q, hd[j]? = some q → w.cell? ⟨g, k * (hd.length + 1) + j, none⟩ = some q) ∧ w.cell? ⟨g, k * (hd.length + 1) + hd.length, none⟩ = some u ∧ B ≤ lo ∧ hi ≤ w.heap.size ∧ OwnP w lo hi u (F k) := by
  obtain ⟨us, h1, h2, h3⟩ := h
  obtain ⟨lo, hi, a1, a2, -, a4⟩ := h3 k hk
  have hx := @getElem_flatMap_hd hd us n k
  rcases h1.2 with ⟨rfl, h0⟩ | ⟨g, cap, cur, e0, e1, e2, e3, e4, e5, e6⟩
  · omega
  · refine ⟨g, cap, us k, lo, hi, e0, e3, by unfold maxLen at e4; omega, e1, lt_of_block e2, fun j => ?_, fun j q hq => ?_, ?_, a1, a2, a4⟩
    · simp [World.frozen?, e2]
    · have hj : j < hd.length := by
        rcases Nat.lt_or_ge j hd.length with h | h
        · exact h
        · rw [List.getElem?_eq_none h] at hq; cases hq
      have := hx (j := j) hk (by omega)
      rw [List.getElem?_append_left hj, hq, ← e6] at this
      rw [cell_of_row w g _ cur t (0, 0) e2]
      have h9 := List.getElem?_take (l := cur.toList) (i := n * (hd.length + 1)) (j := k * (hd.length + 1) + j)
      rw [this] at h9
      split at h9
      · simpa using h9.symm
      · cases h9
    · have := hx (j := hd.length) hk (by omega)
      rw [List.getElem?_append_right (Nat.le_refl _), Nat.sub_self, ← e6] at this
      rw [cell_of_row w g _ cur t (0, 0) e2]
      have h9 := List.getElem?_take (l := cur.toList) (i := n * (hd.length + 1)) (j := k * (hd.length + 1) + hd.length)
      rw [this] at h9
      split at h9
      · simpa using h9.symm
      · simp at h9
theorem OwnTs.form {w : World} {B : Nat} {t : TypeId} {hd : List Value} {av : Option Nat} {v : Value} {n : Nat} {F : Nat → List (List Int)} (h : OwnTs w B t hd av v n F) : ∃ A c, v = .slice A n c ∧ n ≤ c ∧ c ≤ 2 ^ 63 - 1 := by
  obtain ⟨us, h1, _⟩ := h
  rcases h1.2 with ⟨rfl, rfl⟩ | ⟨g, cap, cur, e0, e1, e2, e3, e4, _⟩
  · exact ⟨none, 0, rfl, by omega, by omega⟩
  · exact ⟨_, cap, e0, e3, by unfold maxLen at e4; omega⟩
theorem OwnTs.block {w : World} {B g : Nat} {t : TypeId} {hd : List Value} {av : Option Nat} {v : Value} {n : Nat} {F : Nat → List (List Int)} (h : OwnTs w B t hd av v n F) (hg : v.ownBlock = some g) : B ≤ g ∧ g < w.heap.size := by
  obtain ⟨us, h1, _⟩ := h
  exact ownsRow_block_ge h1 hg
theorem stepAppendL {W : World} {ops : Array Oper} {o : Oper} {a : Act} {K : Act → World → Prop} {Q : Exit → Act → World → Prop} {E : Prop} (tl te : TypeId) (i : TypeInfo) (z : Value) (bytes : Nat) (hd : List Value) (ht : Try.prog.underlying tl = some (.slice te)) (hi0 : Try.prog.info? te = some i) (hz : i.zero = some z) (hsize : i.size = hd.length + 1) (hby : i.bytes = bytes) (hzs : z.cells.size = hd.length + 1) (hbb : bytes ≤ 1000)
    (s x : Operand) (B : Nat) (av : Option Nat) (v u : Value) (n b H lo hi : Nat) (F : Nat → List (List Int))
    (hgd : o.guard = none) (ho : o.op = .call { callee := .builtin .append, args := #[s, x], argTypes := #[tl, tl] })
    (hs : a.eval s = v) (hx : a.eval x = .slice (some ⟨b, 0, none⟩) 1 1) (hv : OwnTs W B te hd av v n F) (hu : OwnP W lo hi u (F n)) (hlo : B ≤ lo) (hhi : hi ≤ W.heap.size) (hq : ∀ g, v.ownBlock = some g ∨ av = some g → g < lo ∨ hi ≤ g) (hav : ∀ g, av = some g → g < W.heap.size) (hone : ∀ q ∈ hd, q.oneCell' = true)
    (hb : W.heap[b]? = some (.cells (hd ++ [u]).toArray te (0, 0))) (hl : n ≤ 1000000000) (hB : B ≤ W.heap.size) (hH : W.heap.size = H)
    (h : ∀ g c w', OwnTs w' B te hd av (.slice (some ⟨g, 0, none⟩) (n + 1) c) (n + 1) F → W.grownBy w' v.ownBlock → (v.ownBlock = some g ∨ g = H) → K (a.put o.dst (.slice (some ⟨g, 0, none⟩) (n + 1) c)) w') :
    if Region.wanted o (yielded ops a.tmps) = true then Oper.wp Try.prog o a W K Q else E := by
  obtain ⟨us, h1, h2, h3⟩ := hv
  obtain ⟨Au, cu, eu, -⟩ := hu.form
  refine step_append_lies W hgd s x tl ho B te i z (hd.length + 1) bytes ht hi0 hz hsize hby hzs (by omega) v n _ hs h1 ⟨b, 0, none⟩ 1 1 (hd ++ [u]) hx (by simp) (World.news_of_block (cs := (hd ++ [u]).toArray) hb) (fun q hq' => ?_) (by decide) (by unfold maxLen; omega) ?_ hB H hH ?_
  · rcases List.mem_append.1 hq' with h | h
    · exact hone q h
    · simp at h
      subst h
      subst eu
      rfl
  · have : (n + 1) * bytes ≤ (1000000000 + 1) * 1000 := Nat.mul_le_mul (by omega) hbb
    omega
  intro g c w' n2 hg hat _
  have hbl : (Value.slice (some ⟨g, 0, none⟩) (n + 1) c).ownBlock = v.ownBlock ∨ (Value.slice (some ⟨g, 0, none⟩) (n + 1) c).ownBlock = some W.heap.size := by
    rcases hat with h | h
    · exact .inl (by rw [h]; rfl)
    · exact .inr (by rw [h, hH]; rfl)
  exact h g c w' (OwnTs.push h1 h2 h3 hu hlo hhi hq hav n2 hg hbl) hg hat

theorem OwnTs.lit1 {W : World} {B : Nat} {t : TypeId} {hd : List Value} {av : Option Nat} {u : Value} {F : Nat → List (List Int)} {g lo hi : Nat} (hb : W.heap[g]? = some (.cells (hd ++ [u]).toArray t (0, 0))) (hB : B ≤ g) (hav : av ≠ some g) (hu : OwnP W lo hi u (F 0)) (hlo : B ≤ lo) (hhi : hi ≤ W.heap.size) (hg : g < lo ∨ hi ≤ g) (hq : ∀ g, av = some g → g < lo ∨ hi ≤ g) : OwnTs W B t hd av (.slice (some ⟨g, 0, none⟩) 1 1) 1 F := by
  refine ⟨fun _ => u, ⟨by simp, .inr ⟨g, 1, _, rfl, hB, hb, Nat.le_refl _, by unfold maxLen; omega, by simp, ?_⟩⟩, fun g' hg' => ?_, fun k hk => ?_⟩
  · simp [List.take_of_length_le]
  · simp [Value.ownBlock] at hg'
    rw [← hg']; exact hav
  · obtain rfl : k = 0 := by omega
    refine ⟨lo, hi, hlo, hhi, fun g' hg' => ?_, hu⟩
    rcases hg' with h | h
    · simp [Value.ownBlock] at h
      rw [← h]; exact hg
    · exact hq g' h
theorem pwP_bd {m : Int} (hm : 2 ≤ m) (n : Nat) (F : Nat → Nat → Int) : ∀ k i j, 0 ≤ pwP m n F k i j ∧ pwP m n F k i j < m
  | 0, i, j => by
    unfold pwP numF
    split
    · exact ⟨Int.emod_nonneg _ (by omega), Int.emod_lt_of_pos _ (by omega)⟩
    · omega
  | k + 1, i, j => tmF_bd (by omega) _ _ _ _ _
def NewTs (w : World) (m : Int) (n : Nat) (F : Nat → List (List Int)) (e : Ending) (w' : World) : Prop := ∃ A c, e = .returned (.slice A n c) ∧ OwnTs w' w.heap.size 24 [.int .i64 m] none (.slice A n c) n F ∧ Below w.heap.size w w'
theorem T.infoPlane : (Try.prog.info? 24).map (fun i => (i.zero, i.size, i.bytes)) = some (some (.agg #[.int .i64 0, .slice none 0 0]), 2, 32) := by kernel_rfl
set_option maxRecDepth 4000 in
set_option maxHeartbeats 2000000 in
theorem powers_any (w : World) (m : Int) (v : Value) (xss : List (List Int)) (n : Nat) (lo hi : Nat) (hv : OwnP w lo hi v xss) (ht : Tri n xss) (hq : Num2 m xss) (hm : 2 ≤ m) (hm' : m ≤ 3000000000) (hn1 : 1 ≤ n) (hn : n ≤ 1000) :
    Calls Try.prog 159 #[.agg #[.int .i64 m, v]] w (NewTs w m n fun k => tab n (pwP m n (co2 xss) k)) := by
  obtain ⟨A, cp, e0, -, -⟩ := hv.form
  rw [ht.1] at e0
  subst e0
  have HV := Lib.hid hv
  have HT := Lib.hid ht
  have HQ := Lib.hid hq
  clear hv ht hq
  obtain ⟨i0, iP0, iP1, iP2, iP3⟩ := info_parts T.infoPlane
  go_enter Try.func159, Try.ntmps159
  go_wp2_with fail
  refine (number_any _ m (.slice A n cp) xss _ 1 n lo hi (HV.out.alloc _) HT.out.1 hm hm' hn1 hn rfl).mono ?_
  rintro e w1 ⟨A1, c1, rfl, o1, hb1⟩
  rw [length_tab] at *
  have P1 : Bf w1 w.heap.size (.int .i64 m) (.slice A n cp) := (Bf.alloc1 w _ _ 24).keep hb1
  have p1 := P1.1.2.1
  have p2 := P1.1.2.2
  have P1b := P1.alloc (.cells #[.int .i64 m, .slice A1 n c1] 24)
  have p3 := P1b.1.2.1
  have p4 := P1b.1.2.2
  have hz1 := hb1.size
  simp at hz1
  have HB1 : Hid (Below w.heap.size w w1) := by unfold Hid; exact ((Below.refl _ _).alloc (Nat.le_refl _) _).trans (hb1.mono (by simp))
  have HO1 := Lib.hid o1
  clear o1 hb1
  go_wp2_with (go_at_call 132; refine (pDegree_any m A n cp _ (by omega)).mono ?_; rintro e w2 ⟨rfl, hb2⟩)
  have hz2 := hb2.size
  simp at hz2
  have HTS : Hid (OwnTs w2 (w.heap.size + 1) 24 [.int .i64 m] none (.slice (some ⟨w1.heap.size, 0, none⟩) 1 1) 1 fun k => tab n (pwP m n (co2 xss) k)) := by
    have h0 : OwnTs (w1.alloc (.cells #[.int .i64 m, .slice A1 n c1] 24)) (w.heap.size + 1) 24 [.int .i64 m] none (.slice (some ⟨w1.heap.size, 0, none⟩) 1 1) 1 fun k => tab n (pwP m n (co2 xss) k) := OwnTs.lit1 (lo := w.heap.size + 1) (hi := w1.heap.size) (heap_alloc_new w1 _) (by omega) (by simp) ((HO1.out.alloc _).mono (by simp) (Nat.le_refl _)) (Nat.le_refl _) (by simp) (.inr (Nat.le_refl _)) (by simp)
    exact h0.keep hb2
  have HB2 : Hid (Below w.heap.size w w2) := by unfold Hid; exact (HB1.out.alloc (by omega) _).trans (hb2.mono (by simp; omega))
  have HP2 : Hid (Bf w2 w.heap.size (.int .i64 m) (.slice A n cp)) := (P1.alloc _).keep hb2
  clear HO1 HB1 P1 P1b p1 p2 p3 p4 hb2
  go_loopw [3, 9] (fun q i wr => ∃ (k g c : Nat), k + 1 ≤ n ∧ i = .int .i64 k ∧ q = .slice (some ⟨g, 0, none⟩) (k + 1) c ∧ Hid (OwnTs wr (w.heap.size + 1) 24 [.int .i64 m] none (.slice (some ⟨g, 0, none⟩) (k + 1) c) (k + 1) fun k => tab n (pwP m n (co2 xss) k)) ∧ Hid (Bf wr w.heap.size (.int .i64 m) (.slice A n cp)) ∧ Hid (Below w.heap.size w wr)) (fun _ i _ => n - (intOf i).toNat)
  case atStart => exact ⟨0, _, _, hn1, rfl, rfl, HTS, HP2, HB2⟩
  case round =>
    clear HTS HP2 HB2
    obtain ⟨k, g, c, hk, rfl, rfl, HTS, HP, HB⟩ := hrel
    have hz := HB.out.size
    by_cases hlt : k + 1 < n
    · obtain ⟨g', c', u, lo', hi', e1, hc1, hc2, hg1, hg2, hfz, hcells, hcu, hlo, hhi, hou⟩ := HTS.out.at_ (k := k) (by omega)
      simp only [Value.slice.injEq, Option.some.injEq, Addr.mk.injEq, true_and, and_true] at e1
      obtain ⟨rfl, rfl⟩ := e1
      have hch := hcells 0 (.int .i64 m) rfl
      simp only [List.length_singleton, Nat.add_zero, show 1 + 1 = 2 from rfl] at hch hcu
      obtain ⟨Au, cu, rfl, -, -⟩ := hou.form
      rw [length_tab] at *
      have HOU := Lib.hid hou
      have p1 := HP.out.1.2.1
      have p2 := HP.out.1.2.2
      have v1 : IntKind.i64.wrap (((k + 1 : Nat) : Int) - 1) = (k : Int) := by rw [show ((k + 1 : Nat) : Int) - 1 = (k : Int) by omega]; exact IntWalk.i64_in _ (by omega)
      have v2 : IntKind.i64.wrap ((k : Int) + 1 - 1) = (k : Int) := by rw [show (k : Int) + 1 - 1 = (k : Int) by omega]; exact IntWalk.i64_in _ (by omega)
      have v3 : IntKind.i64.wrap (k : Int) = (k : Int) := IntWalk.i64_in _ (by omega)
      have v4 : k < k + 1 := by omega
      have v5 : (k : Int) < ((k + 1 : Nat) : Int) := by omega
      have v6 : (k : Int) < (k : Int) + 1 := by omega
      clear hcells hou
      go_wp2
      go_region_law ((first | (go_simp; go_at_call 66; refine (pTimes_any _ m (.slice Au n cu) (.slice A n cp) _ xss _ n lo' hi' lo hi (HOU.out.drewN 1) (Tri.tab n _) (co2_tab_num2 (by omega) n _ (pwP_bd hm n _ k)) ((HV.out.keep HB.out).drewN 1) HT.out HQ.out hm hm' hn1 hn (tmF_tab m n _ _)).mono ?_; rintro e w3 ⟨A3, c3, rfl, o3, hb3⟩; rw [length_tab] at *; have O3 := Lib.hid o3; have R3 := Lib.hid hb3; have s3 : wr.heap.size ≤ w3.heap.size := hb3.size; clear o3 hb3) | (refine stepAppendL 120 24 i0 _ 32 [.int .i64 m] Try.underlying120 iP0 iP1 iP2 iP3 rfl (by decide) _ _ (w.heap.size + 1) none (.slice (some ⟨g, 0, none⟩) (k + 1) c) (.slice A3 n c3) (k + 1) w3.heap.size (w3.heap.size + 1) wr.heap.size w3.heap.size _ (by rfl) (by rfl) (by rfl) (by rfl) ((HTS.out.keep (below_undrew R3.out)).keep (Below.alloc (Below.refl _ _) (Nat.le_refl _) _)) (O3.out.alloc _) (by omega) (by simp) (by intro g' hg'; simp [Value.ownBlock] at hg'; omega) (by simp) (by intro q hq; simp at hq; subst hq; rfl) (heap_alloc_new w3 _) (by omega) (by simp; omega) (by simp) ?_; intro gg cap w9 ho9 hg9 hat9)))
      all_goals
        clear v1 v2 v3 v4 v5 v6
        go_wp2
        go_roundw
        case rel =>
          have hne : some w.heap.size ≠ (Value.slice (some ⟨g, 0, none⟩) (k + 1) c).ownBlock := by simp [Value.ownBlock]; omega
          refine ⟨k + 1, gg, cap, by omega, by go_num, rfl, ho9, ((HP.out.keep (below_undrew R3.out)).alloc _).grown hg9 hne, ?_⟩
          exact Below.grown ((HB.out.trans ((below_undrew R3.out).mono hz)).alloc (by omega) _) hg9 (by simp; omega) (fun b hb => by simp [Value.ownBlock] at hb; omega)
        case measure => simp [intOf]; omega
    · have hkn : k + 1 = n := by omega
      have hs := HTS.out
      rw [hkn] at hs
      have HR := Lib.hid hs
      have hd6 : decide ((k : Int) < (n : Int) - 1) = false := by simp; omega
      clear hs
      go_wp2
      go_ret
      refine ⟨some ⟨g, 0, none⟩, c, by rw [hkn]; rfl, ?_, HB.out⟩
      obtain ⟨us, k1, k2, k3⟩ := HR.out
      refine ⟨us, ?_, k2, fun q hq => ?_⟩
      · rcases k1.2 with h0 | ⟨g', cap, cur, e1, e2, e3⟩
        · exact ⟨k1.1, .inl h0⟩
        · exact ⟨k1.1, .inr ⟨g', cap, cur, e1, by omega, e3⟩⟩
      · obtain ⟨lo2, hi2, q1, q2, q3, q4⟩ := k3 q hq
        exact ⟨lo2, hi2, by omega, q2, q3, q4⟩

theorem sumN_bd {f : Nat → Int} {m : Int} (h : ∀ i, 0 ≤ f i ∧ f i < m) (hm : m ≤ 3000000000) : ∀ k, 0 ≤ sumN f k ∧ sumN f k ≤ 3000000000 * (k : Int)
  | 0 => by simp [sumN]
  | k + 1 => by
    have h1 := sumN_bd h hm k
    have h2 := h k
    simp only [sumN]
    omega
/-- What one factor of the sums reads. -/
structure DefAt (w : World) (bf bp n : Nat) (i c a b : Nat) (x y : Int) : Prop where
  ex : ∃ gA cA gx cx gl cl gt ct gu cu, w.cell? ⟨bf, 1, none⟩ = some (.slice (some ⟨gA, 0, none⟩) n cA) ∧ w.cell? ⟨gA, i, none⟩ = some (.slice (some ⟨gx, 0, none⟩) (n - i) cx) ∧ w.cell? ⟨gx, c, none⟩ = some (.int .i64 x) ∧ w.cell? ⟨bp, 0, none⟩ = some (.slice (some ⟨gl, 0, none⟩) n cl) ∧ w.cell? ⟨gl, i * 2 + 1, none⟩ = some (.slice (some ⟨gt, 0, none⟩) n ct) ∧ w.cell? ⟨gt, a, none⟩ = some (.slice (some ⟨gu, 0, none⟩) (n - a) cu) ∧ w.cell? ⟨gu, b, none⟩ = some (.int .i64 y)
theorem DefAt.of {w : World} {bf bp n i j c a b lo hi B : Nat} {m : Int} {A Al : Option Addr} {cA cl : Nat} {xss : List (List Int)} {F : Nat → Nat → Nat → Int} (hf : w.cell? ⟨bf, 1, none⟩ = some (.slice A n cA)) (hv : OwnP w lo hi (.slice A n cA) xss) (ht : Tri n xss) (hp : w.cell? ⟨bp, 0, none⟩ = some (.slice Al n cl)) (hl : OwnTs w B 24 [.int .i64 m] none (.slice Al n cl) n fun k => tab n (F k)) (h1 : i + c < n) (h2 : a + b < n) (h3 : j < n) :
    ∃ gA cA gx cx gl cl gt ct gu cu, w.cell? ⟨bf, 1, none⟩ = some (.slice (some ⟨gA, 0, none⟩) n cA) ∧ w.cell? ⟨gA, i, none⟩ = some (.slice (some ⟨gx, 0, none⟩) (n - i) cx) ∧ w.cell? ⟨gx, c, none⟩ = some (.int .i64 (co2 xss i c)) ∧ w.cell? ⟨bp, 0, none⟩ = some (.slice (some ⟨gl, 0, none⟩) n cl) ∧ w.cell? ⟨gl, j * 2 + 1, none⟩ = some (.slice (some ⟨gt, 0, none⟩) n ct) ∧ w.cell? ⟨gt, a, none⟩ = some (.slice (some ⟨gu, 0, none⟩) (n - a) cu) ∧ w.cell? ⟨gu, b, none⟩ = some (.int .i64 (F j a b)) := by
  obtain ⟨gA, gx, cx, rfl, -, q1, -, q2, -⟩ := hv.at2 (i := i) (j := c) (by rw [ht.1]; omega) (by rw [ht.2 i (by omega)]; omega)
  rw [ht.2 i (by omega)] at q1
  obtain ⟨gl, cl', u, lo2, hi2, e1, -, -, -, -, -, -, q3, -, -, ho⟩ := hl.at_ h3
  simp only [Value.slice.injEq, true_and] at e1
  obtain ⟨rfl, rfl⟩ := e1
  obtain ⟨Au, cu, rfl, -, -⟩ := ho.form
  rw [length_tab] at *
  obtain ⟨gt, gu, cu2, rfl, -, q4, -, q5, -⟩ := ho.at2 (i := a) (j := b) (by rw [length_tab]; omega) (by rw [(Tri.tab n _).2 a (by omega)]; omega)
  rw [(Tri.tab n _).2 a (by omega)] at q4
  rw [co2_tab _ h2] at q5
  exact ⟨gA, cA, gx, cx, gl, cl, gt, cu, gu, cu2, hf, q1, q2, hp, q3, q4, q5⟩
def Pred3 (w : World) (g : FuncId) (caps : Array Value) (n : Nat) (p : Nat → Nat → Nat → Int) : Prop :=
  (∀ args w, (callFunc g args).run Try.prog w = .ok (.enter g args) w) ∧ ∀ (W : World) (a b c : Nat), Below w.heap.size w W → a + b + c < n → Calls Try.prog g (#[.int .i64 (a : Int), .int .i64 (b : Int), .int .i64 (c : Int)] ++ caps) W fun e W' => e = .returned (.int .i64 (p a b c)) ∧ ∃ k, W' = W.drewN k
set_option maxRecDepth 4000 in
set_option maxHeartbeats 2000000 in
theorem defects1_any (w : World) (bd bf bp : Nat) (m : Int) (A Al : Option Addr) (n cA cl lo hi B a b c : Nat) (xss : List (List Int)) (z : Int) (h : a + b + c < n) (hd : w.cell? ⟨bd, 0, none⟩ = some (.int .i64 ((n : Int) - 1))) (hd' : bd < w.heap.size) (hf0 : w.cell? ⟨bf, 0, none⟩ = some (.int .i64 m)) (hf : w.cell? ⟨bf, 1, none⟩ = some (.slice A n cA)) (hf' : bf < w.heap.size) (hv : OwnP w lo hi (.slice A n cA) xss) (ht : Tri n xss) (hq : Num2 m xss) (hp : w.cell? ⟨bp, 0, none⟩ = some (.slice Al n cl)) (hp' : bp < w.heap.size) (hl : OwnTs w B 24 [.int .i64 m] none (.slice Al n cl) n fun k => tab n (pwP m n (co2 xss) k)) (hm : 2 ≤ m) (hm' : m ≤ 3000000000) (hn : n ≤ 1000) (hz : (defS m n (co2 xss) c a b (n - c) - defT m n (co2 xss) a b c (n - a)) % m = z) :
    Calls Try.prog 160 #[.int .i64 (a : Int), .int .i64 (b : Int), .int .i64 (c : Int), .pointer (some ⟨bd, 0, none⟩), .pointer (some ⟨bf, 0, none⟩), .pointer (some ⟨bp, 0, none⟩)] w fun e W' => e = .returned (.int .i64 z) ∧ ∃ k, W' = w.drewN k := by
  have HV := Lib.hid hv
  have HT := Lib.hid ht
  have HQ := Lib.hid hq
  have HL := Lib.hid hl
  have HZ := Lib.hid hz
  have HD := Lib.hid hd
  have HF0 := Lib.hid hf0
  have HF := Lib.hid hf
  have HP := Lib.hid hp
  have hS : ∀ k, 0 ≤ defS m n (co2 xss) c a b k ∧ defS m n (co2 xss) c a b k ≤ 3000000000 * (k : Int) := sumN_bd (fun i => ⟨Int.emod_nonneg _ (by omega), Int.emod_lt_of_pos _ (by omega)⟩) hm'
  have hT : ∀ k, 0 ≤ defT m n (co2 xss) a b c k ∧ defT m n (co2 xss) a b c k ≤ 3000000000 * (k : Int) := sumN_bd (fun i => ⟨Int.emod_nonneg _ (by omega), Int.emod_lt_of_pos _ (by omega)⟩) hm'
  have HS := Lib.hid hS
  have HTT := Lib.hid hT
  clear hv ht hq hl hz hf hf0 hp hS hT
  go_enter Try.func160, Try.ntmps160
  go_wp2
  go_loopw [10, 12] (fun s i wr => ∃ k : Nat, k + c ≤ n ∧ i = .int .i64 k ∧ s = .int .i64 (defS m n (co2 xss) c a b k) ∧ Hid (∃ kk, wr = w.drewN kk)) (fun _ i _ => n - (intOf i).toNat)
  case atStart => exact ⟨0, by omega, rfl, rfl, 0, rfl⟩
  case round =>
    obtain ⟨k, hk, rfl, rfl, HW⟩ := hrel
    have HB : Hid (Below w.heap.size w wr) := by obtain ⟨kk, rfl⟩ := HW.out; exact below_drewN (Below.refl _ _) kk
    have hdc := (HB.out.cell (p := ⟨bd, 0, none⟩) hd').trans HD.out
    by_cases hlt : k + c < n
    · obtain ⟨gA, cA, gx, cx, gl, cl, gt, ct, gu, cu, c1, c2, c3, c4, c5, c6, c7⟩ := DefAt.of (i := k) (j := k) (c := c) (a := a) (b := b) ((HB.out.cell (p := ⟨bf, 1, none⟩) hf').trans HF.out) (HV.out.keep HB.out) HT.out ((HB.out.cell (p := ⟨bp, 0, none⟩) hp').trans HP.out) (HL.out.keep HB.out) hlt (by omega) (by omega)
      have c0 := (HB.out.cell (p := ⟨bf, 0, none⟩) hf').trans HF0.out
      have hxb := HQ.out k c
      have hyb := pwP_bd hm n (co2 xss) k a b
      have hsb := HS.out k
      have HN : Hid (defS m n (co2 xss) c a b (k + 1) = defS m n (co2 xss) c a b k + co2 xss k c * pwP m n (co2 xss) k a b % m) := by unfold Hid defS; rw [sumN]
      obtain ⟨s, hs⟩ : ∃ s, s = defS m n (co2 xss) c a b k := ⟨_, rfl⟩
      obtain ⟨x, hx⟩ : ∃ x, x = co2 xss k c := ⟨_, rfl⟩
      obtain ⟨y, hy⟩ : ∃ y, y = pwP m n (co2 xss) k a b := ⟨_, rfl⟩
      obtain ⟨r, hr⟩ : ∃ r, r = n - k := ⟨_, rfl⟩
      obtain ⟨q, hq⟩ : ∃ q, q = n - a := ⟨_, rfl⟩
      rw [← hs] at hsb HN ⊢
      rw [← hx] at hxb HN c3
      rw [← hy] at hyb HN c7
      rw [← hr] at c2
      rw [← hq] at c6
      have hr2 : c < r := by omega
      have hq2 : b < q := by omega
      clear hs hx hy hr hq
      have hxy := prod_bd hxb.1 hxb.2 hyb.1 hyb.2 hm'
      have hk0 : (0 : Int) ≤ (k : Int) := by omega
      have hk1 : (k : Int) < (n : Int) := by omega
      have hc0 : (0 : Int) ≤ (c : Int) := by omega
      have hc1 : (c : Int) < (r : Int) := by omega
      have ha0 : (0 : Int) ≤ (a : Int) := by omega
      have ha1 : (a : Int) < (n : Int) := by omega
      have hb0 : (0 : Int) ≤ (b : Int) := by omega
      have hb1 : (b : Int) < (q : Int) := by omega
      have hk2 : k < n := by omega
      have ha2 : a < n := by omega
      have v1 : IntKind.i64.wrap (x * y) = x * y := IntWalk.i64_in _ (by omega)
      have hmb1 : 0 ≤ x * y % m := Int.emod_nonneg _ (by omega)
      have hmb2 : x * y % m < m := Int.emod_lt_of_pos _ (by omega)
      have v2 : (x * y).tmod m = x * y % m := Int.tmod_eq_emod_of_nonneg (by omega)
      have v3 : IntKind.i64.wrap (s + x * y % m) = s + x * y % m := IntWalk.i64_in _ (by omega)
      have v4 : IntKind.i64.wrap (x * y % m) = x * y % m := IntWalk.i64_in _ (by omega)
      have v5 : (m == 0) = false := by simp; omega
      have v6 : ¬ m = 0 := by omega
      go_wp2
      go_quiet (fail)
      go_wp2
      go_roundw
      case rel => exact ⟨k + 1, by omega, by go_num, by rw [HN.out], by obtain ⟨kk, hkk⟩ := HW.out; exact ⟨kk + nq, by rw [hkk]; simp [World.drewN, Nat.add_assoc]⟩⟩
      case measure => simp [intOf]; omega
    · have hkn : k = n - c := by omega
      have hd6 : decide ((k : Int) ≤ (n : Int) - 1 - (c : Int)) = false := by simp; omega
      have hS1 := HS.out k
      obtain ⟨sl, hsl⟩ : ∃ sl, sl = defS m n (co2 xss) c a b k := ⟨_, rfl⟩
      have HSL : Hid (sl = defS m n (co2 xss) c a b (n - c)) := by unfold Hid; rw [hsl, hkn]
      rw [← hsl] at hS1 ⊢
      clear hsl
      go_wp2
      go_loopw [11, 13] (fun s i wr => ∃ k : Nat, k + a ≤ n ∧ i = .int .i64 k ∧ s = .int .i64 (defT m n (co2 xss) a b c k) ∧ Hid (∃ kk, wr = w.drewN kk)) (fun _ i _ => n - (intOf i).toNat)
      case atStart => exact ⟨0, by omega, rfl, rfl, HW.out⟩
      case round =>
        obtain ⟨k, hk, rfl, rfl, HW⟩ := hrel
        have HB : Hid (Below w.heap.size w wr) := by obtain ⟨kk, rfl⟩ := HW.out; exact below_drewN (Below.refl _ _) kk
        have hdc := (HB.out.cell (p := ⟨bd, 0, none⟩) hd').trans HD.out
        by_cases hlt : k + a < n
        · obtain ⟨gA, cA, gx, cx, gl, cl, gt, ct, gu, cu, c1, c2, c3, c4, c5, c6, c7⟩ := DefAt.of (i := a) (j := k) (c := k) (a := b) (b := c) ((HB.out.cell (p := ⟨bf, 1, none⟩) hf').trans HF.out) (HV.out.keep HB.out) HT.out ((HB.out.cell (p := ⟨bp, 0, none⟩) hp').trans HP.out) (HL.out.keep HB.out) (by omega) (by omega) (by omega)
          have c0 := (HB.out.cell (p := ⟨bf, 0, none⟩) hf').trans HF0.out
          have hxb := HQ.out a k
          have hyb := pwP_bd hm n (co2 xss) k b c
          have hsb := HTT.out k
          have HN : Hid (defT m n (co2 xss) a b c (k + 1) = defT m n (co2 xss) a b c k + co2 xss a k * pwP m n (co2 xss) k b c % m) := by unfold Hid defT; rw [sumN]
          obtain ⟨s, hs⟩ : ∃ s, s = defT m n (co2 xss) a b c k := ⟨_, rfl⟩
          obtain ⟨x, hx⟩ : ∃ x, x = co2 xss a k := ⟨_, rfl⟩
          obtain ⟨y, hy⟩ : ∃ y, y = pwP m n (co2 xss) k b c := ⟨_, rfl⟩
          obtain ⟨r, hr⟩ : ∃ r, r = n - a := ⟨_, rfl⟩
          obtain ⟨q, hq⟩ : ∃ q, q = n - b := ⟨_, rfl⟩
          rw [← hs] at hsb HN ⊢
          rw [← hx] at hxb HN c3
          rw [← hy] at hyb HN c7
          rw [← hr] at c2
          rw [← hq] at c6
          have hr2 : k < r := by omega
          have hq2 : c < q := by omega
          clear hs hx hy hr hq
          have hxy := prod_bd hxb.1 hxb.2 hyb.1 hyb.2 hm'
          have hk0 : (0 : Int) ≤ (k : Int) := by omega
          have hk1 : (k : Int) < (n : Int) := by omega
          have hc0 : (0 : Int) ≤ (c : Int) := by omega
          have hc1 : (k : Int) < (r : Int) := by omega
          have ha0 : (0 : Int) ≤ (a : Int) := by omega
          have ha1 : (a : Int) < (n : Int) := by omega
          have hb0 : (0 : Int) ≤ (b : Int) := by omega
          have hb1 : (c : Int) < (q : Int) := by omega
          have hb3 : (b : Int) < (n : Int) := by omega
          have hk2 : k < n := by omega
          have ha2 : a < n := by omega
          have hb2 : b < n := by omega
          have v1 : IntKind.i64.wrap (x * y) = x * y := IntWalk.i64_in _ (by omega)
          have hmb1 : 0 ≤ x * y % m := Int.emod_nonneg _ (by omega)
          have hmb2 : x * y % m < m := Int.emod_lt_of_pos _ (by omega)
          have v2 : (x * y).tmod m = x * y % m := Int.tmod_eq_emod_of_nonneg (by omega)
          have v3 : IntKind.i64.wrap (s + x * y % m) = s + x * y % m := IntWalk.i64_in _ (by omega)
          have v4 : IntKind.i64.wrap (x * y % m) = x * y % m := IntWalk.i64_in _ (by omega)
          have v5 : (m == 0) = false := by simp; omega
          have v6 : ¬ m = 0 := by omega
          go_wp2
          go_quiet (fail)
          go_wp2
          go_roundw
          case rel => exact ⟨k + 1, by omega, by go_num, by rw [HN.out], by obtain ⟨kk, hkk⟩ := HW.out; exact ⟨kk + nq, by rw [hkk]; simp [World.drewN, Nat.add_assoc]⟩⟩
          case measure => simp [intOf]; omega
        · have hkn : k = n - a := by omega
          have hd7 : decide ((k : Int) ≤ (n : Int) - 1 - (a : Int)) = false := by simp; omega
          have hT1 := HTT.out k
          obtain ⟨sr, hsr⟩ : ∃ sr, sr = defT m n (co2 xss) a b c k := ⟨_, rfl⟩
          have HSR : Hid (sr = defT m n (co2 xss) a b c (n - a)) := by unfold Hid; rw [hsr, hkn]
          rw [← hsr] at hT1 ⊢
          have c0 := (HB.out.cell (p := ⟨bf, 0, none⟩) hf').trans HF0.out
          have v1 : IntKind.i64.wrap (sl - sr) = sl - sr := IntWalk.i64_in _ (by omega)
          clear hsr
          go_wp2_with (go_at_call 85; refine (mod_any _ m _ (by omega) (by omega)).mono ?_; rintro e w2 ⟨rfl, kq, rfl⟩)
          go_ret
          obtain ⟨kk, hkk⟩ := HW.out
          refine ⟨?_, kk + kq, by rw [hkk]; simp [World.drewN, Nat.add_assoc]⟩
          rw [← HZ.out, ← HSL.out, ← HSR.out]
          rfl

/-- A block of one cell. -/
def HasC (w : World) (b : Nat) : Prop := ∃ u, w.cell? ⟨b, 0, none⟩ = some u
theorem HasC.new {W : World} {b : Nat} (h : b = W.heap.size) (v : Value) (t : TypeId) : HasC (W.alloc (.cells #[v] t)) b := ⟨v, by subst h; simp⟩
theorem HasC.lt {W : World} {b : Nat} (h : HasC W b) : b < W.heap.size := by
  obtain ⟨u, hu⟩ := h
  rcases Nat.lt_or_ge b W.heap.size with q | q
  · exact q
  · simp [World.cell?, Array.getElem?_eq_none q] at hu
theorem HasC.call {W W' : World} {b : Nat} (h : HasC W b) (hb : Below W.heap.size W W') : HasC W' b := by
  have := h.lt
  obtain ⟨u, hu⟩ := h
  exact ⟨u, (hb.cell (p := ⟨b, 0, none⟩) this).trans hu⟩
theorem HasC.alloc {W : World} {b : Nat} (h : HasC W b) (o : Obj) : HasC (W.alloc o) b := h.call (below_alloc1 W o)
theorem HasC.drew {W : World} {b : Nat} (h : HasC W b) : HasC W.drew b := h
theorem HasC.set {W : World} {b : Nat} (h : HasC W b) (b' : Nat) (v : Value) : HasC (W.setCell ⟨b', 0, none⟩ v) b := by
  obtain ⟨u, hu⟩ := h
  by_cases e : b' = b
  · subst e; exact ⟨v, World.cell?_setCell_same _ _ _ hu⟩
  · exact ⟨u, (World.cell?_setCell_other _ _ _ _ (by first | (simp; done) | (simp; omega))).trans hu⟩
theorem cell_new {W : World} {b : Nat} (h : b = W.heap.size) (v : Value) (t : TypeId) : (W.alloc (.cells #[v] t)).cell? ⟨b, 0, none⟩ = some v := by subst h; simp
theorem cell_set {W : World} {b : Nat} (h : HasC W b) (v : Value) : (W.setCell ⟨b, 0, none⟩ v).cell? ⟨b, 0, none⟩ = some v := by
  obtain ⟨u, hu⟩ := h
  exact World.cell?_setCell_same _ _ _ hu
theorem cell_peel {W : World} {b : Nat} {v : Value} (h : W.cell? ⟨b, 0, none⟩ = some v) (o : Obj) : (W.alloc o).cell? ⟨b, 0, none⟩ = some v := ((below_alloc1 W o).cell (p := ⟨b, 0, none⟩) (HasC.lt ⟨v, h⟩)).trans h
theorem cell_past {W : World} {b b' : Nat} {v : Value} (h : W.cell? ⟨b, 0, none⟩ = some v) (hne : b' ≠ b) (u : Value) : (W.setCell ⟨b', 0, none⟩ u).cell? ⟨b, 0, none⟩ = some v := (World.cell?_setCell_other _ _ _ _ (by first | (simp; done) | (simp; omega))).trans h
/-- The blocks from lo to below hi are as they were. -/
def Mid (lo hi : Nat) (w w' : World) : Prop := w.heap.size ≤ w'.heap.size ∧ ∀ k, lo ≤ k → k < hi → w'.heap[k]? = w.heap[k]?
theorem Mid.refl (lo hi : Nat) (w : World) : Mid lo hi w w := ⟨Nat.le_refl _, fun _ _ _ => rfl⟩
theorem Mid.alloc {lo hi : Nat} {w W : World} (h : Mid lo hi w W) (hh : hi ≤ W.heap.size) (o : Obj) : Mid lo hi w (W.alloc o) := ⟨by have := h.1; simp; omega, fun k h1 h2 => ((below_alloc1 W o).block k (by omega)).trans (h.2 k h1 h2)⟩
theorem Mid.setCell {lo hi : Nat} {w W : World} (h : Mid lo hi w W) {p : Addr} (hp : p.block < lo ∨ hi ≤ p.block) (v : Value) : Mid lo hi w (W.setCell p v) := by
  refine ⟨by have := h.1; simpa [World.setCell] using this, fun k h1 h2 => Eq.trans ?_ (h.2 k h1 h2)⟩
  exact Below.heap_setCell W p v k (by omega)
theorem Mid.drew {lo hi : Nat} {w W : World} (h : Mid lo hi w W) : Mid lo hi w W.drew := h
theorem Mid.call {lo hi : Nat} {w W W' : World} (h : Mid lo hi w W) (hb : Below W.heap.size W W') (hh : hi ≤ W.heap.size) : Mid lo hi w W' := ⟨Nat.le_trans h.1 hb.size, fun k h1 h2 => (hb.block k (by omega)).trans (h.2 k h1 h2)⟩
theorem OwnTs.mid {w w' : World} {B : Nat} {t : TypeId} {hd : List Value} {v : Value} {n : Nat} {F : Nat → List (List Int)} (h : OwnTs w B t hd none v n F) (R : Mid B w.heap.size w w') : OwnTs w' B t hd none v n F := by
  obtain ⟨us, h1, h2, h3⟩ := h
  refine ⟨us, ownsRow_of_block h1 fun g hg => R.2 g (ownsRow_block_ge h1 hg).1 (ownsRow_block_ge h1 hg).2, h2, fun k hk => ?_⟩
  obtain ⟨lo, hi, a1, a2, a3, a4⟩ := h3 k hk
  have := R.1
  exact ⟨lo, hi, a1, by omega, a3, a4.of_block fun j hj j1 j2 => R.2 j (by omega) hj⟩
/-- What defectsOf leaves in memory. -/
def DefsIn (w W : World) (m : Int) (n : Nat) (A : Option Addr) (cA : Nat) (xss : List (List Int)) (bd bp : Nat) : Prop :=
  ∃ Al cl B, W.cell? ⟨bd, 0, none⟩ = some (.int .i64 ((n : Int) - 1)) ∧ bd < W.heap.size ∧ Bf W w.heap.size (.int .i64 m) (.slice A n cA) ∧ W.cell? ⟨bp, 0, none⟩ = some (.slice Al n cl) ∧ bp < W.heap.size ∧ OwnTs W B 24 [.int .i64 m] none (.slice Al n cl) n (fun k => tab n (pwP m n (co2 xss) k)) ∧ Below w.heap.size w W
set_option maxRecDepth 4000 in
set_option maxHeartbeats 4000000 in
theorem defectsOf_any (w : World) (m : Int) (v : Value) (xss : List (List Int)) (n : Nat) (lo hi : Nat) (hv : OwnP w lo hi v xss) (ht : Tri n xss) (hq : Num2 m xss) (hm : 2 ≤ m) (hm' : m ≤ 3000000000) (hn1 : 1 ≤ n) (hn : n ≤ 1000) :
    Calls Try.prog 144 #[.agg #[.int .i64 m, v]] w (fun e W => ∃ caps, e = .returned (.func (.func 160) #[] caps) ∧ Pred3 W 160 caps n (fun a b c => (defS m n (co2 xss) c a b (n - c) - defT m n (co2 xss) a b c (n - a)) % m) ∧ Below w.heap.size w W) := by
  obtain ⟨A, cp, e0, -, -⟩ := hv.form
  rw [ht.1] at e0
  subst e0
  have HV := Lib.hid hv
  have HT := Lib.hid ht
  have HQ := Lib.hid hq
  clear hv ht hq
  go_enter Try.func144, Try.ntmps144
  go_upto_region 1 with fail
  go_cut [3, 4] from 5 to 8 (fun p d wx => ∃ bp bd : Nat, p = .pointer (some ⟨bp, 0, none⟩) ∧ d = .pointer (some ⟨bd, 0, none⟩) ∧ Hid (DefsIn w wx m n A cp xss bd bp))
  case first =>
    go_region_held3 (fun w' => w'.cell? ⟨w.heap.size, 0, none⟩ = some (.int .i64 m) ∧ w'.cell? ⟨w.heap.size, 1, none⟩ = some (.slice A n cp))
      (first | exact ⟨p2a, p2b⟩ | exact ⟨p1a, p1b⟩ | go_keep | (refine (fun (h : Bf _ w.heap.size (.int .i64 m) (.slice A n cp)) => ⟨h.1.2.1, h.1.2.2⟩) ((Bf.alloc1 w _ _ 24).keep ?_); (repeat (first | assumption | exact Below.refl _ _ | (refine Below.alloc ?_ ?_ _; rotate_left; (focus (first | exact Nat.le_refl _ | omega | (simp; done) | (simp; omega)))) | (refine Below.setCell ?_ ?_ _; rotate_left; (focus (first | exact Nat.le_refl _ | omega | (simp; done) | (simp; omega)))) | refine below_drew ?_ | refine below_drewN ?_ _ | (refine Below.trans ?_ (Below.mono hb2 ?_); rotate_left; (focus (first | exact Nat.le_refl _ | omega | (simp; done) | (simp; omega)))) | (refine Below.trans ?_ (Below.mono hb1 ?_); rotate_left; (focus (first | exact Nat.le_refl _ | omega | (simp; done) | (simp; omega))))))))
      (first | (go_at_call 159; refine (powers_any _ m (.slice A n cp) xss n lo hi (HV.out.keep (by (repeat (first | assumption | exact Below.refl _ _ | (refine Below.alloc ?_ ?_ _; rotate_left; (focus (first | exact Nat.le_refl _ | omega | (simp; done) | (simp; omega)))) | (refine Below.setCell ?_ ?_ _; rotate_left; (focus (first | exact Nat.le_refl _ | omega | (simp; done) | (simp; omega)))) | refine below_drew ?_ | refine below_drewN ?_ _)))) HT.out HQ.out hm hm' hn1 hn).mono ?_; rintro e w1 ⟨A1, c1, rfl, o1, hb1⟩; have P1 : Bf w1 w.heap.size (.int .i64 m) (.slice A n cp) := ((Bf.alloc1 w _ _ 24).keep (by (repeat (first | assumption | exact Below.refl _ _ | (refine Below.alloc ?_ ?_ _; rotate_left; (focus (first | exact Nat.le_refl _ | omega | (simp; done) | (simp; omega)))) | (refine Below.setCell ?_ ?_ _; rotate_left; (focus (first | exact Nat.le_refl _ | omega | (simp; done) | (simp; omega)))) | refine below_drew ?_ | refine below_drewN ?_ _ | (refine Below.trans ?_ (Below.mono hb1 ?_); rotate_left; (focus (first | exact Nat.le_refl _ | omega | (simp; done) | (simp; omega)))))))); have p1a := P1.1.2.1; have p1b := P1.1.2.2; obtain ⟨hc1, hf1⟩ := bcell hb1; have z1 := hb1.size; (try simp at z1); have z1p : w.heap.size < w1.heap.size := (by omega); (first | (have y1 : w.heap.size + 2 < w1.heap.size := (by omega); have y1' : w.heap.size + 1 < w1.heap.size := (by omega)) | (have y1' : w.heap.size + 1 < w1.heap.size := (by omega)) | skip)) | (go_at_call 132; refine (pDegree_any m A n cp _ (by omega)).mono ?_; rintro e w2 ⟨rfl, hb2⟩; have P2 : Bf w2 w.heap.size (.int .i64 m) (.slice A n cp) := ((Bf.alloc1 w _ _ 24).keep (by (repeat (first | assumption | exact Below.refl _ _ | (refine Below.alloc ?_ ?_ _; rotate_left; (focus (first | exact Nat.le_refl _ | omega | (simp; done) | (simp; omega)))) | (refine Below.setCell ?_ ?_ _; rotate_left; (focus (first | exact Nat.le_refl _ | omega | (simp; done) | (simp; omega)))) | refine below_drew ?_ | refine below_drewN ?_ _ | (refine Below.trans ?_ (Below.mono hb2 ?_); rotate_left; (focus (first | exact Nat.le_refl _ | omega | (simp; done) | (simp; omega)))) | (refine Below.trans ?_ (Below.mono hb1 ?_); rotate_left; (focus (first | exact Nat.le_refl _ | omega | (simp; done) | (simp; omega)))))))); have p2a := P2.1.2.1; have p2b := P2.1.2.2; obtain ⟨hc2, hf2⟩ := bcell hb2; have z2 := hb2.size; (try simp at z2); have z2p : w.heap.size < w2.heap.size := (by omega); (first | (have y2 : w.heap.size + 2 < w2.heap.size := (by omega); have y2' : w.heap.size + 1 < w2.heap.size := (by omega)) | (have y2' : w.heap.size + 1 < w2.heap.size := (by omega)) | skip); (first | (have x2 : w1.heap.size + 1 < w2.heap.size := (by omega); have x2' : w1.heap.size < w2.heap.size := (by omega)) | (have x2' : w1.heap.size < w2.heap.size := (by omega)) | skip)))
    all_goals
      go_wp2_with fail
      go_meet
      refine ⟨_, _, rfl, rfl, A1, c1, _, ?_, ?_, ?_, ?_, ?_, o1.mid ?_, ?_⟩
      · (repeat (first | (refine cell_new ?_ _ _; focus (first | omega | (simp; done))) | (refine cell_set ?_ _; (repeat (first | (refine HasC.new ?_ _ _; focus (first | omega | (simp; done))) | refine HasC.alloc ?_ _ | refine HasC.set ?_ _ _ | refine HasC.call ?_ hb2 | refine HasC.call ?_ hb1 | refine HasC.drew ?_)); done) | refine cell_peel ?_ _ | (refine cell_past ?_ ?_ _; rotate_left; (focus (first | omega | (simp; done) | (simp; omega))))))
      · first | omega | (simp; done) | (simp; omega) | (simp [World.setCell]; omega)
      · (repeat (first | exact P2 | refine Bf.alloc ?_ _ | (refine Bf.setCell ?_ ?_ _; rotate_left; (focus (first | omega | (simp; done) | (simp; omega))))))
      · (repeat (first | (refine cell_new ?_ _ _; focus (first | omega | (simp; done))) | (refine cell_set ?_ _; (repeat (first | (refine HasC.new ?_ _ _; focus (first | omega | (simp; done))) | refine HasC.alloc ?_ _ | refine HasC.set ?_ _ _ | refine HasC.call ?_ hb2 | refine HasC.call ?_ hb1 | refine HasC.drew ?_)); done) | refine cell_peel ?_ _ | (refine cell_past ?_ ?_ _; rotate_left; (focus (first | omega | (simp; done) | (simp; omega))))))
      · first | omega | (simp; done) | (simp; omega) | (simp [World.setCell]; omega)
      · (repeat (first | exact Mid.refl _ _ _ | (refine Mid.alloc ?_ ?_ _; rotate_left; (focus (first | exact Nat.le_refl _ | omega | (simp; done) | (simp; omega)))) | (refine Mid.setCell ?_ ?_ _; rotate_left; (focus (first | (left; simp; done) | (left; simp; omega) | (right; simp; done) | (right; simp; omega)))) | (refine Mid.call ?_ hb2 ?_; rotate_left; (focus (first | exact Nat.le_refl _ | omega | (simp; done) | (simp; omega)))) | refine Mid.drew ?_))
      · (repeat (first | assumption | exact Below.refl _ _ | (refine Below.alloc ?_ ?_ _; rotate_left; (focus (first | exact Nat.le_refl _ | omega | (simp; done) | (simp; omega)))) | (refine Below.setCell ?_ ?_ _; rotate_left; (focus (first | exact Nat.le_refl _ | omega | (simp; done) | (simp; omega)))) | refine below_drew ?_ | refine below_drewN ?_ _ | (refine Below.trans ?_ (Below.mono hb2 ?_); rotate_left; (focus (first | exact Nat.le_refl _ | omega | (simp; done) | (simp; omega)))) | (refine Below.trans ?_ (Below.mono hb1 ?_); rotate_left; (focus (first | exact Nat.le_refl _ | omega | (simp; done) | (simp; omega))))))
  case rest =>
    obtain ⟨bp, bd, rfl, rfl, HD⟩ := hcut
    obtain ⟨Al, cl, B, d1, d2, d3, d4, d5, d6, d7⟩ := HD.out
    have D1 := Lib.hid d1
    have D3 := Lib.hid d3
    have D4 := Lib.hid d4
    have D6 := Lib.hid d6
    have D7 := Lib.hid d7
    clear d1 d3 d4 d6 d7 HD
    go_wp2
    go_ret
    refine ⟨_, rfl, ⟨Try.call160, fun W a b c hW hab => ?_⟩, D7.out⟩
    exact defects1_any W bd w.heap.size bp m A Al n cp cl lo hi B a b c xss _ hab ((hW.cell (p := ⟨bd, 0, none⟩) d2).trans D1.out) (Nat.lt_of_lt_of_le d2 hW.size) (D3.out.keep hW).1.2.1 (D3.out.keep hW).1.2.2 (D3.out.keep hW).1.1 ((HV.out.keep D7.out).keep hW) HT.out HQ.out ((hW.cell (p := ⟨bp, 0, none⟩) d5).trans D4.out) (Nat.lt_of_lt_of_le d5 hW.size) (D6.out.keep hW) hm hm' hn rfl

theorem lawB_iff (m : Int) (n : Nat) (F : Nat → Nat → Int) : lawB m n F = true ↔ (∀ i, i < n → F i 0 = if i = 1 then 1 else 0) ∧ (∀ i j, i < j → i + j < n → F i j = F j i) ∧ ∀ a b c, a + b + c < n → hrP m n (fun i => F i c) F (n - c) (n - c) a b = hrP m n (fun j => F a j) F (n - a) (n - a) b c := by
  unfold lawB
  simp only [Bool.and_eq_true, List.all_eq_true, List.mem_range, beq_iff_eq, Bool.or_eq_true, decide_eq_true_eq]
  constructor
  · rintro ⟨⟨h1, h2⟩, h3⟩
    refine ⟨h1, fun i j hij hn => ?_, fun a b c h => h3 a (by omega) b (by omega) c (by omega)⟩
    rcases h2 i (by omega) j (by omega) with h | h
    · omega
    · exact h
  · rintro ⟨h1, h2, h3⟩
    refine ⟨⟨h1, fun i hi j hj => ?_⟩, fun a ha b hb c hc => h3 a b c (by omega)⟩
    by_cases h : j ≤ i
    · exact .inl h
    · exact .inr (h2 i j (by omega) (by omega))
/-- No fault, or a list that is not empty. -/
def FaultPost (w : World) (L : Bool) (e : Ending) (w' : World) : Prop := (if L = true then e = .returned (.slice none 0 0) else ∃ g k c, e = .returned (.slice (some ⟨g, 0, none⟩) (k + 1) c)) ∧ Below w.heap.size w w'
set_option maxRecDepth 4000 in
set_option maxHeartbeats 4000000 in
theorem axioms_any (w : World) (m : Int) (v : Value) (xss : List (List Int)) (n : Nat) (lo hi : Nat) (hv : OwnP w lo hi v xss) (ht : Tri n xss) (hq : Num2 m xss) (hm : 2 ≤ m) (hm' : m ≤ 3000000000) (hn1 : 1 ≤ n) (hn : n ≤ 1000) :
    Calls Try.prog 81 #[.agg #[.int .i64 m, v]] w (FaultPost w (lawB m n (co2 xss))) := by
  obtain ⟨gA, cp, rfl, -, -, hgA, -⟩ := hv.source n ht.1 hn1
  have HV := Lib.hid hv
  have HT := Lib.hid ht
  have HQ := Lib.hid hq
  clear hv ht hq
  go_enter Try.func81, Try.ntmps81
  go_wp2
  go_loopw [16] (fun i wr => ∃ k : Nat, k ≤ n ∧ i = .int .i64 k ∧ Hid (∀ i, i < k → co2 xss i 0 = if i = 1 then 1 else 0) ∧ Hid (Bf wr w.heap.size (.int .i64 m) (.slice (some ⟨gA, 0, none⟩) n cp)) ∧ Hid (Below w.heap.size w wr)) (fun i _ => n - (intOf i).toNat)
  case atStart => exact ⟨0, Nat.zero_le _, rfl, (fun i hi => absurd hi (Nat.not_lt_zero _)), Bf.alloc1 _ _ _ _, below_alloc1 _ _⟩
  case round =>
    obtain ⟨k, hk, rfl, H1, HP, HB⟩ := hrel
    have p1 := HP.out.1.2.1
    have p2 := HP.out.1.2.2
    by_cases hlt : k < n
    · obtain ⟨g', gr, cr, e1, _, q1, _, q2, _⟩ := (HV.out.keep HB.out).at2 (i := k) (j := 0) (by rw [HT.out.1]; omega) (by rw [HT.out.2 k (by omega)]; omega)
      simp only [Option.some.injEq, Addr.mk.injEq, and_true] at e1
      subst e1
      rw [HT.out.2 k (by omega)] at q1
      obtain ⟨r, hr⟩ : ∃ r, r = n - k := ⟨_, rfl⟩
      rw [← hr] at q1
      have hr2 : 0 < r := by omega
      have hr3 : (0 : Int) < (r : Int) := by omega
      have hk0 : (0 : Int) ≤ (k : Int) := by omega
      have hk1 : (k : Int) < (n : Int) := by omega
      have HX := Lib.hid (show co2 xss k 0 = co2 xss k 0 from rfl)
      obtain ⟨x, hx⟩ : ∃ x, co2 xss k 0 = x := ⟨_, rfl⟩
      have HX : Hid (co2 xss k 0 = x) := hx
      rw [hx] at q2
      clear hx
      clear hr
      by_cases hk2 : k = 1
      · have hb1 : ((k : Int) == 1) = true := by simp; omega
        have hb4 : decide ((k : Int) = 1) = true := by simp; omega
        by_cases hx : x = 1
        · have hb2 : (x != 1) = false := by simp [hx]
          have hb5 : decide (x = 1) = true := by simp [hx]
          have HN : Hid (∀ i, i < k + 1 → co2 xss i 0 = if i = 1 then 1 else 0) := by
            intro i hi
            by_cases h : i = k
            · subst h; rw [HX.out, hx]; simp [hk2]
            · exact H1.out i (by omega)
          have HX3 := Lib.hid hx
          clear hx
          clear hk2
          go_wp2
          go_roundw
          case rel => exact ⟨k + 1, by omega, by go_num, HN, HP, HB⟩
          case measure => simp [intOf]; omega
        · have hb2 : (x != 1) = true := by simpa using hx
          have hb5 : decide (x = 1) = false := by simpa using hx
          have HF : Hid (lawB m n (co2 xss) = false) := by
            unfold Hid
            rw [Bool.eq_false_iff]
            intro h
            have := ((lawB_iff m n _).1 h).1 k hlt
            rw [HX.out] at this
            simp [hk2] at this
            exact hx this
          clear hk2
          go_wp2
          go_ret
          refine ⟨?_, HB.out.alloc (by have := HB.out.size; omega) _⟩
          rw [HF.out]
          exact ⟨_, _, _, rfl⟩
      · have hb1 : ((k : Int) == 1) = false := by simp; omega
        have hb4 : decide ((k : Int) = 1) = false := by simp; omega
        by_cases hx : x = 0
        · have hb2 : (x != 0) = false := by simp [hx]
          have hb5 : decide (x = 0) = true := by simp [hx]
          have HN : Hid (∀ i, i < k + 1 → co2 xss i 0 = if i = 1 then 1 else 0) := by
            intro i hi
            by_cases h : i = k
            · subst h; rw [HX.out, hx]; simp [hk2]
            · exact H1.out i (by omega)
          have HX3 := Lib.hid hx
          clear hx
          clear hk2
          go_wp2
          go_roundw
          case rel => exact ⟨k + 1, by omega, by go_num, HN, HP, HB⟩
          case measure => simp [intOf]; omega
        · have hb2 : (x != 0) = true := by simpa using hx
          have hb5 : decide (x = 0) = false := by simpa using hx
          have HF : Hid (lawB m n (co2 xss) = false) := by
            unfold Hid
            rw [Bool.eq_false_iff]
            intro h
            have := ((lawB_iff m n _).1 h).1 k hlt
            rw [HX.out] at this
            simp [hk2] at this
            exact hx this
          clear hk2
          go_wp2
          go_ret
          refine ⟨?_, HB.out.alloc (by have := HB.out.size; omega) _⟩
          rw [HF.out]
          exact ⟨_, _, _, rfl⟩
    · have hkn : k = n := by omega
      have hs1 := H1.out
      rw [hkn] at hs1
      have H1' := Lib.hid hs1
      have hd7 : decide ((k : Int) < (n : Int)) = false := by simp; omega
      clear hs1 hkn H1
      go_wp2
      go_loopw [36] (fun i wr => ∃ k : Nat, k ≤ n ∧ i = .int .i64 k ∧ Hid (∀ i j, i < k → i < j → i + j < n → co2 xss i j = co2 xss j i) ∧ Hid (Bf wr w.heap.size (.int .i64 m) (.slice (some ⟨gA, 0, none⟩) n cp)) ∧ Hid (Below w.heap.size w wr)) (fun i _ => n - (intOf i).toNat)
      case atStart => exact ⟨0, Nat.zero_le _, rfl, (fun i j hi => absurd hi (Nat.not_lt_zero _)), HP, HB⟩
      case round =>
        clear HP HB p1 p2
        obtain ⟨k, hk, rfl, H2, HP, HB⟩ := hrel
        have p1 := HP.out.1.2.1
        have p2 := HP.out.1.2.2
        by_cases hlt : k < n
        · obtain ⟨g', gr, cr, e1, _, q1, _, _, _⟩ := (HV.out.keep HB.out).at2 (i := k) (j := 0) (by rw [HT.out.1]; omega) (by rw [HT.out.2 k (by omega)]; omega)
          simp only [Option.some.injEq, Addr.mk.injEq, and_true] at e1
          subst e1
          rw [HT.out.2 k (by omega)] at q1
          obtain ⟨r, hr⟩ : ∃ r, r = n - k := ⟨_, rfl⟩
          rw [← hr] at q1
          have hr2 : r + k ≤ n ∧ n ≤ r + k := by omega
          have hk0 : (0 : Int) ≤ (k : Int) := by omega
          have hk1 : (k : Int) < (n : Int) := by omega
          have hk2 : k < n := by omega
          have HQ1 := Lib.hid q1
          clear hr
          go_wp2
          go_loopw [7] (fun j wr => ∃ l : Nat, k + 1 ≤ l ∧ (l ≤ r ∨ l = k + 1) ∧ j = .int .i64 l ∧ Hid (∀ j, k < j → j < l → k + j < n → co2 xss k j = co2 xss j k) ∧ Hid (wr.cell? ⟨gA, k, none⟩ = some (.slice (some ⟨gr, 0, none⟩) r cr)) ∧ Hid (Bf wr w.heap.size (.int .i64 m) (.slice (some ⟨gA, 0, none⟩) n cp)) ∧ Hid (Below w.heap.size w wr)) (fun j _ => n + 2 - (intOf j).toNat)
          case atStart => exact ⟨k + 1, Nat.le_refl _, .inr rfl, by go_num, (fun j h1 h2 => absurd h2 (by omega)), HQ1, HP, HB⟩
          case round =>
            clear HP HB p1 p2 q1
            obtain ⟨l, hl, hl2, rfl, H3, HQ1, HP, HB⟩ := hrel
            have p1 := HP.out.1.2.1
            have p2 := HP.out.1.2.2
            have q1 := HQ1.out
            by_cases hltl : l < r
            · obtain ⟨g2, gr2, cr2, e1, _, q3, _, q4, _⟩ := (HV.out.keep HB.out).at2 (i := k) (j := l) (by rw [HT.out.1]; omega) (by rw [HT.out.2 k (by omega)]; omega)
              simp only [Option.some.injEq, Addr.mk.injEq, and_true] at e1
              subst e1
              rw [q1] at q3
              simp only [Option.some.injEq, Value.slice.injEq, Addr.mk.injEq] at q3
              obtain ⟨⟨rfl, -⟩, -, -⟩ := q3
              obtain ⟨g3, gr3, cr3, e1, _, q5, _, q6, _⟩ := (HV.out.keep HB.out).at2 (i := l) (j := k) (by rw [HT.out.1]; omega) (by rw [HT.out.2 l (by omega)]; omega)
              simp only [Option.some.injEq, Addr.mk.injEq, and_true] at e1
              subst e1
              rw [HT.out.2 l (by omega)] at q5
              obtain ⟨r3, hr3⟩ : ∃ r, r = n - l := ⟨_, rfl⟩
              rw [← hr3] at q5
              have hr4 : k < r3 := by omega
              clear hr3
              obtain ⟨x, hx⟩ : ∃ x, co2 xss k l = x := ⟨_, rfl⟩
              obtain ⟨y, hy⟩ : ∃ y, co2 xss l k = y := ⟨_, rfl⟩
              rw [hx] at q4
              rw [hy] at q6
              have HX : Hid (co2 xss k l = x) := hx
              have HY : Hid (co2 xss l k = y) := hy
              have hl0 : (0 : Int) ≤ (l : Int) := by omega
              have hl1 : (l : Int) < (n : Int) := by omega
              have hl3 : (l : Int) < (r : Int) := by omega
              have hl4 : l < n := by omega
              have hl5 : (k : Int) < (r3 : Int) := by omega
              have hl6 : (k : Int) + (l : Int) < (n : Int) := by omega
              clear hx hy
              by_cases hxy : x = y
              · have HN : Hid (∀ j, k < j → j < l + 1 → k + j < n → co2 xss k j = co2 xss j k) := by
                  intro j h1 h2 h3
                  by_cases h : j = l
                  · subst h; rw [HX.out, HY.out, hxy]
                  · exact H3.out j h1 (by omega) h3
                have hb2 : (x != y) = false := by simp [hxy]
                have hb5 : decide (x = y) = true := by simp [hxy]
                have HXY := Lib.hid hxy
                clear hxy
                go_wp2
                go_quiet (fail)
                go_wp2
                go_roundw
                case rel => exact ⟨l + 1, by omega, .inl (by omega), by go_num, HN, HQ1, HP.drewN _, below_drewN HB.out _⟩
                case measure => simp [intOf]; omega
              · have hb2 : (x != y) = true := by simpa using hxy
                have hb5 : decide (x = y) = false := by simpa using hxy
                have HF : Hid (lawB m n (co2 xss) = false) := by
                  unfold Hid
                  rw [Bool.eq_false_iff]
                  intro h
                  have := ((lawB_iff m n _).1 h).2.1 k l (by omega) (by omega)
                  rw [HX.out, HY.out] at this
                  exact hxy this
                go_wp2
                go_quiet (fail)
                go_wp2
                go_ret
                refine ⟨?_, (below_drewN HB.out _).alloc (by have := HB.out.size; simpa using this) _⟩
                rw [HF.out]
                exact ⟨_, _, _, rfl⟩
            · have HN : Hid (∀ i j, i < k + 1 → i < j → i + j < n → co2 xss i j = co2 xss j i) := by
                intro i j h1 h2 h3
                by_cases h : i = k
                · subst h; exact H3.out j h2 (by omega) h3
                · exact H2.out i j (by omega) h2 h3
              have hd5 : decide ((l : Int) < (r : Int)) = false := by simp; omega
              have hd6 : decide ((k : Int) + (l : Int) < (n : Int)) = false := by simp; omega
              go_wp2
              go_roundw
              case rel => exact ⟨k + 1, by omega, by go_num, HN, HP, HB⟩
              case measure => simp [intOf]; omega
        · have hkn : k = n := by omega
          have hs2 := H2.out
          rw [hkn] at hs2
          have H2' : Hid (∀ i j, i < j → i + j < n → co2 xss i j = co2 xss j i) := fun i j h1 h2 => hs2 i j (by omega) h1 h2
          have hd7 : decide ((k : Int) < (n : Int)) = false := by simp; omega
          clear hs2 hkn
          go_wp2_with (first | (go_at_call 144; refine (defectsOf_any _ m _ xss n lo hi (HV.out.keep HB.out) HT.out HQ.out hm hm' hn1 hn).mono ?_; rintro e w3 ⟨caps, rfl, hpr, hb3⟩; have P3 := HP.out.keep hb3; have p31 := P3.1.2.1; have p32 := P3.1.2.2; have HPR0 := Lib.hid hpr; have eg := hpr.1; have HB3 := Lib.hid (HB.out.trans (hb3.mono HB.out.size)); have z3 := hb3.size; clear hpr hb3) | (go_at_call 132; refine (pDegree_any m _ n cp _ (by omega)).mono ?_; rintro e w4 ⟨rfl, hb4⟩))
          have HB4 := Lib.hid (HB3.out.trans (hb4.mono HB3.out.size))
          have hz4 := HB4.out.size
          have HPR : Hid (Pred3 w4 160 caps n (fun a b c => (defS m n (co2 xss) c a b (n - c) - defT m n (co2 xss) a b c (n - a)) % m)) := ⟨eg, fun W a b c hW h => HPR0.out.2 W a b c (hb4.trans (hW.mono hb4.size)) h⟩
          clear HPR0 hb4 P3 p31 p32
          go_loopw [10] (fun i wr => ∃ a : Nat, a ≤ n ∧ i = .int .i64 a ∧ Hid (∀ a' b c, a' < a → a' + b + c < n → hrP m n (fun i => co2 xss i c) (co2 xss) (n - c) (n - c) a' b = hrP m n (fun j => co2 xss a' j) (co2 xss) (n - a') (n - a') b c) ∧ Hid (Below w4.heap.size w4 wr)) (fun i _ => n + 1 - (intOf i).toNat)
          case atStart => exact ⟨0, Nat.zero_le _, rfl, (fun a b c h => absurd h (Nat.not_lt_zero _)), Below.refl _ _⟩
          case round =>
            obtain ⟨a, ha, rfl, K1, HC⟩ := hrel
            by_cases hla : a < n
            · have hda : decide ((a : Int) ≤ (n : Int) - 1) = true := by simp; omega
              have hda2 : (a : Int) ≤ (n : Int) - 1 := by omega
              go_wp2
              go_loopw [11] (fun i wr => ∃ b : Nat, a + b ≤ n ∧ i = .int .i64 b ∧ Hid (∀ b' c, b' < b → a + b' + c < n → hrP m n (fun i => co2 xss i c) (co2 xss) (n - c) (n - c) a b' = hrP m n (fun j => co2 xss a j) (co2 xss) (n - a) (n - a) b' c) ∧ Hid (Below w4.heap.size w4 wr)) (fun i _ => n + 1 - (intOf i).toNat)
              case atStart => exact ⟨0, by omega, rfl, (fun b c h => absurd h (Nat.not_lt_zero _)), HC⟩
              case round =>
                clear HC
                obtain ⟨b, hb, rfl, K2, HC⟩ := hrel
                by_cases hlb : a + b < n
                · have hdb : decide ((a : Int) + (b : Int) ≤ (n : Int) - 1) = true := by simp; omega
                  have hdb2 : (a : Int) + (b : Int) ≤ (n : Int) - 1 := by omega
                  go_wp2
                  go_loopw [12] (fun i wr => ∃ c : Nat, a + b + c ≤ n ∧ i = .int .i64 c ∧ Hid (∀ c', c' < c → a + b + c' < n → hrP m n (fun i => co2 xss i c') (co2 xss) (n - c') (n - c') a b = hrP m n (fun j => co2 xss a j) (co2 xss) (n - a) (n - a) b c') ∧ Hid (Below w4.heap.size w4 wr)) (fun i _ => n + 1 - (intOf i).toNat)
                  case atStart => exact ⟨0, by omega, rfl, (fun c h => absurd h (Nat.not_lt_zero _)), HC⟩
                  case round =>
                    clear HC
                    obtain ⟨c, hc, rfl, K3, HC⟩ := hrel
                    by_cases hlc : a + b + c < n
                    · have HDI := Lib.hid (def_iff (n := n) hm (co2 xss) (a := a) (b := b) (c := c) hlc)
                      obtain ⟨x, hx⟩ : ∃ x, (defS m n (co2 xss) c a b (n - c) - defT m n (co2 xss) a b c (n - a)) % m = x := ⟨_, rfl⟩
                      have HX : Hid ((defS m n (co2 xss) c a b (n - c) - defT m n (co2 xss) a b c (n - a)) % m = x) := hx
                      have hle : (a : Int) + (b : Int) + (c : Int) ≤ (n : Int) - 1 := by omega
                      clear hx
                      have hcall := HPR.out.2 wr a b c HC.out hlc
                      simp only [HX.out] at hcall
                      have HCALL := Lib.hid hcall
                      clear hcall
                      by_cases hx0 : x = 0
                      · have hb2 : (x != 0) = false := by simp [hx0]
                        have hb5 : decide (x = 0) = true := by simp [hx0]
                        have HN : Hid (∀ c', c' < c + 1 → a + b + c' < n → hrP m n (fun i => co2 xss i c') (co2 xss) (n - c') (n - c') a b = hrP m n (fun j => co2 xss a j) (co2 xss) (n - a) (n - a) b c') := by
                          intro c' h1 h2
                          by_cases h : c' = c
                          · subst h; exact HDI.out.1 (by rw [HX.out, hx0])
                          · exact K3.out c' (by omega) h2
                        have HXY := Lib.hid hx0
                        clear hx0
                        go_wp2_with (refine HCALL.out.mono ?_; rintro e w7 ⟨rfl, k7, rfl⟩)
                        go_roundw
                        case rel => exact ⟨c + 1, by omega, by go_num, HN, below_drewN HC.out _⟩
                        case measure => simp [intOf]; omega
                      · have hb2 : (x != 0) = true := by simpa using hx0
                        have hb5 : decide (x = 0) = false := by simpa using hx0
                        have HF : Hid (lawB m n (co2 xss) = false) := by
                          unfold Hid
                          rw [Bool.eq_false_iff]
                          intro h
                          have := HDI.out.2 (((lawB_iff m n _).1 h).2.2 a b c hlc)
                          rw [HX.out] at this
                          exact hx0 this
                        go_wp2_with (refine HCALL.out.mono ?_; rintro e w7 ⟨rfl, k7, rfl⟩)
                        go_ret
                        refine ⟨?_, (below_drewN (HB4.out.trans (HC.out.mono hz4)) _).alloc (by have := HC.out.size; simp; omega) _⟩
                        rw [HF.out]
                        exact ⟨_, _, _, rfl⟩
                    · have hd8 : decide ((a : Int) + (b : Int) + (c : Int) ≤ (n : Int) - 1) = false := by simp; omega
                      go_wp2
                      go_roundw
                      case rel =>
                        refine ⟨b + 1, by omega, by go_num, fun b' c' h1 h2 => ?_, HC⟩
                        by_cases h : b' = b
                        · subst h; exact K3.out c' (by omega) h2
                        · exact K2.out b' c' (by omega) h2
                      case measure => simp [intOf]; omega
                · have hd9 : decide ((a : Int) + (b : Int) ≤ (n : Int) - 1) = false := by simp; omega
                  go_wp2
                  go_roundw
                  case rel =>
                    refine ⟨a + 1, by omega, by go_num, fun a' b' c' h1 h2 => ?_, HC⟩
                    by_cases h : a' = a
                    · subst h; exact K2.out b' c' (by omega) h2
                    · exact K1.out a' b' c' (by omega) h2
                  case measure => simp [intOf]; omega
            · have hd9 : decide ((a : Int) ≤ (n : Int) - 1) = false := by simp; omega
              have HF : Hid (lawB m n (co2 xss) = true) := (lawB_iff m n _).2 ⟨H1'.out, H2'.out, fun a' b' c' h => K1.out a' b' c' (by omega) h⟩
              go_wp2
              go_ret
              refine ⟨?_, HB4.out.trans (HC.out.mono hz4)⟩
              rw [HF.out]
              rfl

end Go.Proofs.Ytmppmnmkhfcoaaa
