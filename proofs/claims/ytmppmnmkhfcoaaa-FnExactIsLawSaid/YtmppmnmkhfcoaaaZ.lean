/- Contracts over this seat's translation. Condition: each contract's own. -/
import Derived.Test.YtmppmnmkhfcoaaaY
import Derived.ProofKit
import Derived.Laws.Bits64b
import Derived.Lib.Mul64
import Derived.OpenShut
import Derived.Below
import Derived.ChangeSame
import Derived.Deep.Modes
import Derived.Lib.SmallJoins
import Derived.ChangeSlices
import Derived.WalkKit
import Derived.WalkSpells
import Derived.WalkLawsBesides
import Derived.Deep.QuietTactic
import Derived.BigQuiet
import Derived.Deep.RegionHeld3
import Derived.Deep.RegionWith
import Derived.Deep.RegionLaw
import Derived.Deep.AppendLies
import Derived.Laws.CopyOwn
import Derived.Deep.DeepCutAuto
import Derived.Deep.OwnRows
import Derived.Deep.LoopGhost
import Derived.Deep.DeepFit
import Derived.Deep.DeepMust
import Derived.Deep.Draws
import Derived.Deep.CutRange
import Derived.Maps.AppendAt
import Derived.Lib.Hide
import Derived.StillTailTactics
import Derived.Laws.MakeOwn
import Derived.Deep.Matrix
set_option linter.unusedVariables false
open Go Go.RowKit
namespace Go.Proofs.Ytmppmnmkhfcoaaa
theorem hrP_congrc {m : Int} {n : Nat} {c c' : Nat → Int} (F : Nat → Nat → Int) {t : Nat} (h : ∀ k, k < t → c k = c' k) : ∀ s, s ≤ t → hrP m n c F t s = hrP m n c' F t s
  | 0, _ => rfl
  | s + 1, hs => by
    funext i j
    simp only [hrP]
    rw [hrP_congrc F h s (by omega), h (t - 1 - s) (by omega)]
theorem T.infoTab : (Try.prog.info? 22).map (fun i => (i.zero, i.size, i.bytes)) = some (some (.slice none 0 0), 1, 24) := by kernel_rfl
def lfT (m : Int) (n : Nat) (F : Nat → Nat → Int) (c : Nat) : List (List Int) := tab n (hrP m n (fun i => F i c) F (n - c) (n - c))
def rtT (m : Int) (n : Nat) (F : Nat → Nat → Int) (a : Nat) : List (List Int) := tab n (hrP m n (fun j => F a j) F (n - a) (n - a))
theorem length_lfT (m : Int) (n : Nat) (F : Nat → Nat → Int) (c : Nat) : (lfT m n F c).length = n := length_tab _ _
theorem length_rtT (m : Int) (n : Nat) (F : Nat → Nat → Int) (c : Nat) : (rtT m n F c).length = n := length_tab _ _
theorem co_lst_bd {m : Int} (hm : 0 < m) {f : Nat → Int} (h : ∀ i, 0 ≤ f i ∧ f i < m) (n k : Nat) : 0 ≤ co (lst n f) k ∧ co (lst n f) k < m := by
  unfold co
  by_cases hk : k < n
  · rw [getD_lst _ _ _ hk]; exact h k
  · rw [List.getD_eq_getElem?_getD, List.getElem?_eq_none (by rw [length_lst]; omega)]; simp; omega
theorem OwnTs.cell3 {w : World} {B : Nat} {t : TypeId} {av : Option Nat} {A : Option Addr} {n c k a b : Nat} {F : Nat → List (List Int)} {f : Nat → Nat → Int} (h : OwnTs w B t [] av (.slice A n c) n F) (hF : F k = tab n f) (hk : k < n) (hab : a + b < n) :
    ∃ g gt ct gu cu, A = some ⟨g, 0, none⟩ ∧ w.cell? ⟨g, k, none⟩ = some (.slice (some ⟨gt, 0, none⟩) n ct) ∧ w.cell? ⟨gt, a, none⟩ = some (.slice (some ⟨gu, 0, none⟩) (n - a) cu) ∧ w.cell? ⟨gu, b, none⟩ = some (.int .i64 (f a b)) := by
  obtain ⟨g, c', u, lo2, hi2, e1, -, -, -, -, -, -, q3, -, -, ho⟩ := h.at_ hk
  simp only [Value.slice.injEq, true_and] at e1
  obtain ⟨rfl, rfl⟩ := e1
  simp only [List.length_nil, Nat.zero_add, Nat.mul_one, Nat.add_zero] at q3
  rw [hF] at ho
  obtain ⟨Au, cu, rfl, -, -⟩ := ho.form
  rw [length_tab] at *
  obtain ⟨gt, gu, cu2, rfl, -, q4, -, q5, -⟩ := ho.at2 (i := a) (j := b) (by rw [length_tab]; omega) (by rw [(Tri.tab n _).2 a (by omega)]; omega)
  rw [(Tri.tab n _).2 a (by omega)] at q4
  rw [co2_tab _ hab] at q5
  exact ⟨g, gt, cu, gu, cu2, rfl, q3, q4, q5⟩
theorem OwnP.rowI {w : World} {lo hi : Nat} {g n c : Nat} {xss : List (List Int)} (h : OwnP w lo hi (.slice (some ⟨g, 0, none⟩) n c) xss) (ht : Tri n xss) {k : Nat} (hk : k < n) : ∃ A c', w.cell? ⟨g, k, none⟩ = some (.slice A (n - k) c') ∧ OwnI w lo (.slice A (n - k) c') (xss.getD k []) ∧ (xss.getD k []).length = n - k := by
  obtain ⟨g', c2, Ar, cr, e, _, _, _, hcell, _, hown, _, _⟩ := h.row (k := k) (by rw [ht.1]; omega)
  simp only [Value.slice.injEq, Option.some.injEq, Addr.mk.injEq, and_true] at e
  obtain ⟨rfl, _, _⟩ := e
  rw [ht.2 k hk] at hcell hown
  exact ⟨Ar, cr, hcell, hown, ht.2 k hk⟩
set_option maxRecDepth 4000 in
set_option maxHeartbeats 8000000 in
theorem l04Fault_any (w : World) (m : Int) (v : Value) (xss : List (List Int)) (n : Nat) (lo hi : Nat) (hv : OwnP w lo hi v xss) (ht : Tri n xss) (hq : Num2 m xss) (hm : 2 ≤ m) (hm' : m ≤ 3000000000) (hn1 : 1 ≤ n) (hn : n ≤ 1000) :
    Calls Try.prog 143 #[.agg #[.int .i64 m, v]] w (FaultPost w (lawB m n (co2 xss))) := by
  obtain ⟨gA, cp, rfl, -, -, hgA, -⟩ := hv.source n ht.1 hn1
  have HV := Lib.hid hv
  have HT := Lib.hid ht
  have HQ := Lib.hid hq
  clear hv ht hq
  obtain ⟨i0, iP0, iP1, iP2, iP3⟩ := info_parts T.infoTab
  go_enter Try.func143, Try.ntmps143
  go_upto_region 1 with fail
  have HP0 := Lib.hid (Bf.alloc1 w (.int .i64 m) (.slice (some ⟨gA, 0, none⟩) n cp) 24)
  have HB0 := Lib.hid (below_alloc1 w (.cells #[.int .i64 m, .slice (some ⟨gA, 0, none⟩) n cp] 24))
  have p1 := HP0.out.1.2.1
  have p2 := HP0.out.1.2.2
  go_wp2_with fail
  go_quiet (fail)
  go_wp2
  go_loopw [5] (fun i wr => ∃ k : Nat, k ≤ n ∧ i = .int .i64 k ∧ Hid (∀ i, i < k → co2 xss i 0 = if i = 1 then 1 else 0) ∧ Hid (Bf wr w.heap.size (.int .i64 m) (.slice (some ⟨gA, 0, none⟩) n cp)) ∧ Hid (Below w.heap.size w wr)) (fun i _ => n - (intOf i).toNat)
  case atStart => exact ⟨0, Nat.zero_le _, rfl, (fun i hi => absurd hi (Nat.not_lt_zero _)), HP0.out.drewN _, below_drewN HB0.out _⟩
  case round =>
    clear HP0 HB0 p1 p2
    obtain ⟨k, hk, rfl, H1, HP, HB⟩ := hrel
    have p1 := HP.out.1.2.1
    have p2 := HP.out.1.2.2
    by_cases hlt : k < n
    · obtain ⟨g', gr, cr, e1, _, q1, _, q2, _⟩ := (HV.out.keep HB.out).at2 (i := k) (j := 0) (by rw [HT.out.1]; omega) (by rw [HT.out.2 k (by omega)]; omega)
      simp only [Option.some.injEq, Addr.mk.injEq, and_true] at e1
      subst e1
      rw [HT.out.2 k (by omega)] at q1
      obtain ⟨r, hr⟩ : ∃ r, r = n - k := ⟨_, rfl⟩
      rw [← hr] at q1
      have hr2 : 0 < r := by omega
      have hr3 : (0 : Int) < (r : Int) := by omega
      have hk0 : (0 : Int) ≤ (k : Int) := by omega
      have hk1 : (k : Int) < (n : Int) := by omega
      have HX := Lib.hid (show co2 xss k 0 = co2 xss k 0 from rfl)
      obtain ⟨x, hx⟩ : ∃ x, co2 xss k 0 = x := ⟨_, rfl⟩
      have HX : Hid (co2 xss k 0 = x) := hx
      rw [hx] at q2
      clear hx
      clear hr
      by_cases hk2 : k = 1
      · have hb1 : ((k : Int) == 1) = true := by simp; omega
        have hb4 : decide ((k : Int) = 1) = true := by simp; omega
        by_cases hx : x = 1
        · have hb2 : (x != 1) = false := by simp [hx]
          have hb5 : decide (x = 1) = true := by simp [hx]
          have HN : Hid (∀ i, i < k + 1 → co2 xss i 0 = if i = 1 then 1 else 0) := by
            intro i hi
            by_cases h : i = k
            · subst h; rw [HX.out, hx]; simp [hk2]
            · exact H1.out i (by omega)
          have HX3 := Lib.hid hx
          clear hx
          clear hk2
          go_wp2
          go_roundw
          case rel => exact ⟨k + 1, by omega, by go_num, HN, HP, HB⟩
          case measure => simp [intOf]; omega
        · have hb2 : (x != 1) = true := by simpa using hx
          have hb5 : decide (x = 1) = false := by simpa using hx
          have HF : Hid (lawB m n (co2 xss) = false) := by
            unfold Hid
            rw [Bool.eq_false_iff]
            intro h
            have := ((lawB_iff m n _).1 h).1 k hlt
            rw [HX.out] at this
            simp [hk2] at this
            exact hx this
          clear hk2
          go_wp2
          go_ret
          refine ⟨?_, HB.out.alloc (by have := HB.out.size; omega) _⟩
          rw [HF.out]
          exact ⟨_, _, _, rfl⟩
      · have hb1 : ((k : Int) == 1) = false := by simp; omega
        have hb4 : decide ((k : Int) = 1) = false := by simp; omega
        by_cases hx : x = 0
        · have hb2 : (x != 0) = false := by simp [hx]
          have hb5 : decide (x = 0) = true := by simp [hx]
          have HN : Hid (∀ i, i < k + 1 → co2 xss i 0 = if i = 1 then 1 else 0) := by
            intro i hi
            by_cases h : i = k
            · subst h; rw [HX.out, hx]; simp [hk2]
            · exact H1.out i (by omega)
          have HX3 := Lib.hid hx
          clear hx
          clear hk2
          go_wp2
          go_roundw
          case rel => exact ⟨k + 1, by omega, by go_num, HN, HP, HB⟩
          case measure => simp [intOf]; omega
        · have hb2 : (x != 0) = true := by simpa using hx
          have hb5 : decide (x = 0) = false := by simpa using hx
          have HF : Hid (lawB m n (co2 xss) = false) := by
            unfold Hid
            rw [Bool.eq_false_iff]
            intro h
            have := ((lawB_iff m n _).1 h).1 k hlt
            rw [HX.out] at this
            simp [hk2] at this
            exact hx this
          clear hk2
          go_wp2
          go_ret
          refine ⟨?_, HB.out.alloc (by have := HB.out.size; omega) _⟩
          rw [HF.out]
          exact ⟨_, _, _, rfl⟩
    · have hkn : k = n := by omega
      have hs1 := H1.out
      rw [hkn] at hs1
      have H1' := Lib.hid hs1
      have hd7 : decide ((k : Int) < (n : Int)) = false := by simp; omega
      clear hs1 hkn H1
      go_wp2
      go_loopw [7] (fun i wr => ∃ k : Nat, k ≤ n ∧ i = .int .i64 k ∧ Hid (∀ i j, i < k → i < j → i + j < n → co2 xss i j = co2 xss j i) ∧ Hid (Bf wr w.heap.size (.int .i64 m) (.slice (some ⟨gA, 0, none⟩) n cp)) ∧ Hid (Below w.heap.size w wr)) (fun i _ => n - (intOf i).toNat)
      case atStart => exact ⟨0, Nat.zero_le _, rfl, (fun i j hi => absurd hi (Nat.not_lt_zero _)), HP, HB⟩
      case round =>
        clear HP HB p1 p2
        obtain ⟨k, hk, rfl, H2, HP, HB⟩ := hrel
        have p1 := HP.out.1.2.1
        have p2 := HP.out.1.2.2
        by_cases hlt : k < n
        · obtain ⟨g', gr, cr, e1, _, q1, _, _, _⟩ := (HV.out.keep HB.out).at2 (i := k) (j := 0) (by rw [HT.out.1]; omega) (by rw [HT.out.2 k (by omega)]; omega)
          simp only [Option.some.injEq, Addr.mk.injEq, and_true] at e1
          subst e1
          rw [HT.out.2 k (by omega)] at q1
          obtain ⟨r, hr⟩ : ∃ r, r = n - k := ⟨_, rfl⟩
          rw [← hr] at q1
          have hr2 : r + k ≤ n ∧ n ≤ r + k := by omega
          have hk0 : (0 : Int) ≤ (k : Int) := by omega
          have hk1 : (k : Int) < (n : Int) := by omega
          have hk2 : k < n := by omega
          have HQ1 := Lib.hid q1
          clear hr
          go_wp2
          go_loopw [8] (fun j wr => ∃ l : Nat, k + 1 ≤ l ∧ (l ≤ r ∨ l = k + 1) ∧ j = .int .i64 l ∧ Hid (∀ j, k < j → j < l → k + j < n → co2 xss k j = co2 xss j k) ∧ Hid (wr.cell? ⟨gA, k, none⟩ = some (.slice (some ⟨gr, 0, none⟩) r cr)) ∧ Hid (Bf wr w.heap.size (.int .i64 m) (.slice (some ⟨gA, 0, none⟩) n cp)) ∧ Hid (Below w.heap.size w wr)) (fun j _ => n + 2 - (intOf j).toNat)
          case atStart => exact ⟨k + 1, Nat.le_refl _, .inr rfl, by go_num, (fun j h1 h2 => absurd h2 (by omega)), HQ1, HP, HB⟩
          case round =>
            clear HP HB p1 p2 q1
            obtain ⟨l, hl, hl2, rfl, H3, HQ1, HP, HB⟩ := hrel
            have p1 := HP.out.1.2.1
            have p2 := HP.out.1.2.2
            have q1 := HQ1.out
            by_cases hltl : l < r
            · obtain ⟨g2, gr2, cr2, e1, _, q3, _, q4, _⟩ := (HV.out.keep HB.out).at2 (i := k) (j := l) (by rw [HT.out.1]; omega) (by rw [HT.out.2 k (by omega)]; omega)
              simp only [Option.some.injEq, Addr.mk.injEq, and_true] at e1
              subst e1
              rw [q1] at q3
              simp only [Option.some.injEq, Value.slice.injEq, Addr.mk.injEq] at q3
              obtain ⟨⟨rfl, -⟩, -, -⟩ := q3
              obtain ⟨g3, gr3, cr3, e1, _, q5, _, q6, _⟩ := (HV.out.keep HB.out).at2 (i := l) (j := k) (by rw [HT.out.1]; omega) (by rw [HT.out.2 l (by omega)]; omega)
              simp only [Option.some.injEq, Addr.mk.injEq, and_true] at e1
              subst e1
              rw [HT.out.2 l (by omega)] at q5
              obtain ⟨r3, hr3⟩ : ∃ r, r = n - l := ⟨_, rfl⟩
              rw [← hr3] at q5
              have hr4 : k < r3 := by omega
              clear hr3
              obtain ⟨x, hx⟩ : ∃ x, co2 xss k l = x := ⟨_, rfl⟩
              obtain ⟨y, hy⟩ : ∃ y, co2 xss l k = y := ⟨_, rfl⟩
              rw [hx] at q4
              rw [hy] at q6
              have HX : Hid (co2 xss k l = x) := hx
              have HY : Hid (co2 xss l k = y) := hy
              have hl0 : (0 : Int) ≤ (l : Int) := by omega
              have hl1 : (l : Int) < (n : Int) := by omega
              have hl3 : (l : Int) < (r : Int) := by omega
              have hl4 : l < n := by omega
              have hl5 : (k : Int) < (r3 : Int) := by omega
              have hl6 : (k : Int) + (l : Int) < (n : Int) := by omega
              clear hx hy
              by_cases hxy : x = y
              · have HN : Hid (∀ j, k < j → j < l + 1 → k + j < n → co2 xss k j = co2 xss j k) := by
                  intro j h1 h2 h3
                  by_cases h : j = l
                  · subst h; rw [HX.out, HY.out, hxy]
                  · exact H3.out j h1 (by omega) h3
                have hb2 : (x != y) = false := by simp [hxy]
                have hb5 : decide (x = y) = true := by simp [hxy]
                have HXY := Lib.hid hxy
                clear hxy
                go_wp2
                go_quiet (fail)
                go_wp2
                go_roundw
                case rel => exact ⟨l + 1, by omega, .inl (by omega), by go_num, HN, HQ1, HP.drewN _, below_drewN HB.out _⟩
                case measure => simp [intOf]; omega
              · have hb2 : (x != y) = true := by simpa using hxy
                have hb5 : decide (x = y) = false := by simpa using hxy
                have HF : Hid (lawB m n (co2 xss) = false) := by
                  unfold Hid
                  rw [Bool.eq_false_iff]
                  intro h
                  have := ((lawB_iff m n _).1 h).2.1 k l (by omega) (by omega)
                  rw [HX.out, HY.out] at this
                  exact hxy this
                go_wp2
                go_quiet (fail)
                go_wp2
                go_ret
                refine ⟨?_, (below_drewN HB.out _).alloc (by have := HB.out.size; simpa using this) _⟩
                rw [HF.out]
                exact ⟨_, _, _, rfl⟩
            · have HN : Hid (∀ i j, i < k + 1 → i < j → i + j < n → co2 xss i j = co2 xss j i) := by
                intro i j h1 h2 h3
                by_cases h : i = k
                · subst h; exact H3.out j h2 (by omega) h3
                · exact H2.out i j (by omega) h2 h3
              have hd5 : decide ((l : Int) < (r : Int)) = false := by simp; omega
              have hd6 : decide ((k : Int) + (l : Int) < (n : Int)) = false := by simp; omega
              go_wp2
              go_roundw
              case rel => exact ⟨k + 1, by omega, by go_num, HN, HP, HB⟩
              case measure => simp [intOf]; omega
        · have hkn : k = n := by omega
          have hs2 := H2.out
          rw [hkn] at hs2
          have H2' : Hid (∀ i j, i < j → i + j < n → co2 xss i j = co2 xss j i) := fun i j h1 h2 => hs2 i j (by omega) h1 h2
          have hd7 : decide ((k : Int) < (n : Int)) = false := by simp; omega
          clear hs2 hkn
          go_wp2
          have hzr := HB.out.size
          have HL0 : Hid (OwnTs ((wr.alloc (.cells #[] 22)).alloc (.cells #[] 22)) (w.heap.size + 1) 22 [] (some (wr.heap.size + 1)) (.slice (some ⟨wr.heap.size, 0, none⟩) 0 0) 0 (lfT m n (co2 xss))) := OwnTs.lit0 ((Below.heap_alloc (wr.alloc (.cells #[] 22)) _ wr.heap.size (by simp)).trans (heap_alloc_new wr _)) (by have := HP.out.1.1; omega) (by simp)
          have HR0 : Hid (OwnTs ((wr.alloc (.cells #[] 22)).alloc (.cells #[] 22)) (w.heap.size + 1) 22 [] (some wr.heap.size) (.slice (some ⟨wr.heap.size + 1, 0, none⟩) 0 0) 0 (rtT m n (co2 xss))) := OwnTs.lit0 (by have := heap_alloc_new (wr.alloc (.cells #[] 22)) (.cells #[] 22); simpa using this) (by have := HP.out.1.1; omega) (by simp)
          have HPa := Lib.hid ((HP.out.alloc (.cells #[] 22)).alloc (.cells #[] 22))
          have HBa := Lib.hid ((HB.out.alloc hzr (.cells #[] 22)).alloc (by simp; omega) (.cells #[] 22))
          clear HP HB p1 p2
          go_loopw [9, 10, 11] (fun L R i wr => ∃ c gl cl gr cr : Nat, c ≤ n ∧ i = .int .i64 c ∧ L = .slice (some ⟨gl, 0, none⟩) c cl ∧ R = .slice (some ⟨gr, 0, none⟩) c cr ∧ Hid (OwnTs wr (w.heap.size + 1) 22 [] (some gr) (.slice (some ⟨gl, 0, none⟩) c cl) c (lfT m n (co2 xss))) ∧ Hid (OwnTs wr (w.heap.size + 1) 22 [] (some gl) (.slice (some ⟨gr, 0, none⟩) c cr) c (rtT m n (co2 xss))) ∧ Hid (Bf wr w.heap.size (.int .i64 m) (.slice (some ⟨gA, 0, none⟩) n cp)) ∧ Hid (Below w.heap.size w wr)) (fun _ _ i _ => n - (intOf i).toNat)
          case atStart => exact ⟨0, _, _, _, _, Nat.zero_le _, rfl, rfl, rfl, HL0, HR0, HPa, HBa⟩
          case round =>
            clear HL0 HR0 HPa HBa
            obtain ⟨c, gl, cl, gr, cr, hc, rfl, rfl, rfl, HL, HR, HP, HB⟩ := hrel
            have hz := HB.out.size
            have p1 := HP.out.1.2.1
            have p2 := HP.out.1.2.2
            have zp := HP.out.1.1
            have bl := HL.out.block (g := gl) rfl
            have br := HR.out.block (g := gr) rfl
            by_cases hlt : c < n
            · obtain ⟨q, hq⟩ : ∃ q, q = n - c := ⟨_, rfl⟩
              have HQQ : Hid (q = n - c) := hq
              have HLF : Hid (tab n (hrP m n (co (lst q (fun i => co2 xss i c))) (co2 xss) q q) = lfT m n (co2 xss) c) := by
                unfold Hid lfT
                rw [← hq]
                exact tab_congr fun i j _ => by rw [hrP_congrc (co2 xss) (fun k hk => by unfold co; rw [getD_lst _ _ _ hk]) q (Nat.le_refl _)]
              have hc0 : (0 : Int) ≤ (c : Int) := by omega
              have hc1 : (c : Int) < (n : Int) := by omega
              clear hq
              go_wp2_with fail
              go_cut [9] from 76 to 85 (fun L wx => ∃ gl2 cl2 : Nat, L = .slice (some ⟨gl2, 0, none⟩) (c + 1) cl2 ∧ Hid (OwnTs wx (w.heap.size + 1) 22 [] (some gr) (.slice (some ⟨gl2, 0, none⟩) (c + 1) cl2) (c + 1) (lfT m n (co2 xss))) ∧ Hid (OwnTs wx (w.heap.size + 1) 22 [] (some gl2) (.slice (some ⟨gr, 0, none⟩) c cr) c (rtT m n (co2 xss))) ∧ Hid (Bf wx w.heap.size (.int .i64 m) (.slice (some ⟨gA, 0, none⟩) n cp)) ∧ Hid (Below w.heap.size w wx))
              case first =>
                go_region_law ((first | (go_simp; go_at_call 158; refine (l04Column_any _ (.slice (some ⟨gA, 0, none⟩) n cp) xss (lst q (fun i => co2 xss i c)) n c lo hi ((HV.out.keep HB.out).drewN 1) HT.out hn1 hn hlt (by rw [HQQ.out])).mono ?_; rintro e w3 ⟨A3, c3, rfl, o3, hb3⟩; rw [length_lst] at *; have O3 := Lib.hid o3; have R3 := Lib.hid (below_undrew hb3); have P3 := HP.out.keep R3.out; have p31 := P3.1.2.1; have p32 := P3.1.2.2; have s3 : wr.heap.size ≤ w3.heap.size := hb3.size; clear o3 hb3) | (go_simp; go_at_call 157; refine (l03After_any _ m (.slice A3 q c3) (.slice (some ⟨gA, 0, none⟩) n cp) (lst q (fun i => co2 xss i c)) xss _ n q _ lo hi O3.out (length_lst _ _) (fun k => co_lst_bd (by omega) (fun i => HQ.out i c) q k) ((HV.out.keep HB.out).keep R3.out) HT.out HQ.out hm hm' hn1 hn (by have := HQQ.out; omega) HLF.out).mono ?_; rintro e w4 ⟨A4, c4, rfl, o4, hb4⟩; rw [length_lfT] at *; have O4 := Lib.hid o4; have R4 := Lib.hid (R3.out.trans (hb4.mono R3.out.size)); have s4 : w3.heap.size ≤ w4.heap.size := hb4.size; clear o4 hb4) | (refine stepAppendL 117 22 i0 _ 24 [] Try.underlying117 iP0 iP1 iP2 iP3 rfl (by decide) _ _ (w.heap.size + 1) (some gr) (.slice (some ⟨gl, 0, none⟩) c cl) (.slice A4 n c4) c w4.heap.size (w4.heap.size + 1) w3.heap.size w4.heap.size _ (by rfl) (by rfl) (by rfl) (by rfl) ((HL.out.keep R4.out).keep (Below.alloc (Below.refl _ _) (Nat.le_refl _) _)) (O4.out.alloc _) (by omega) (by simp) (by intro g' hg'; simp [Value.ownBlock] at hg'; omega) (by intro g' hg'; simp at hg'; simp; omega) (by intro q hq; simp at hq) (heap_alloc_new w4 _) (by omega) (by simp; omega) (by simp) ?_; intro gg cap w9 ho9 hg9 hat9)))
                all_goals
                  go_wp2_with fail
                  go_meet
                  have R5 : Below wr.heap.size wr (w4.alloc (.cells #[.slice A4 n c4] 22)) := R4.out.alloc R4.out.size _
                  refine ⟨gg, cap, rfl, ho9, (HR.out.keep R5).other hg9.size (fun k hk hne => hg9.block k hk hne.symm) ?_, ((HP.out.keep R5).grown hg9 (by simp [Value.ownBlock]; omega)), Below.grown (HB.out.trans (R5.mono hz)) hg9 (by simp; omega) (fun b hb => by simp [Value.ownBlock] at hb; omega)⟩
                  rcases hat9 with h | h
                  · simp [Value.ownBlock] at h; exact .inl (by rw [h])
                  · exact .inr (.inr ⟨gg, rfl, by simp; omega⟩)
              case rest =>
                clear HL HR HP HB p1 p2 zp bl br hz
                obtain ⟨gl2, cl2, rfl, HL, HR, HP, HB⟩ := hcut
                have hz := HB.out.size
                have p1 := HP.out.1.2.1
                have p2 := HP.out.1.2.2
                have zp := HP.out.1.1
                have bl := HL.out.block (g := gl2) rfl
                have br := HR.out.block (g := gr) rfl
                obtain ⟨Ar, cr2, q1, o1, l1⟩ := (HV.out.keep HB.out).rowI HT.out hlt
                rw [← HQQ.out] at q1 o1 l1
                have O1 := Lib.hid o1
                have L1 := Lib.hid l1
                have HRF : Hid (tab n (hrP m n (co (xss.getD c [])) (co2 xss) q q) = rtT m n (co2 xss) c) := by
                  unfold Hid rtT
                  rw [← HQQ.out]
                  rfl
                clear o1 l1
                go_wp2_with fail
                go_region_law ((first | (go_simp; go_at_call 157; refine (l03After_any _ m (.slice Ar q cr2) (.slice (some ⟨gA, 0, none⟩) n cp) (xss.getD c []) xss _ n q lo lo hi (O1.out.drewN 1) L1.out (fun k => HQ.out c k) ((HV.out.keep HB.out).drewN 1) HT.out HQ.out hm hm' hn1 hn (by have := HQQ.out; omega) HRF.out).mono ?_; rintro e w4 ⟨A4, c4, rfl, o4, hb4⟩; rw [length_rtT] at *; have O4 := Lib.hid o4; have R4 := Lib.hid (below_undrew hb4); have s4 := hb4.size; (try simp at s4); clear o4 hb4) | (refine stepAppendL 117 22 i0 _ 24 [] Try.underlying117 iP0 iP1 iP2 iP3 rfl (by decide) _ _ (w.heap.size + 1) (some gl2) (.slice (some ⟨gr, 0, none⟩) c cr) (.slice A4 n c4) c w4.heap.size (w4.heap.size + 1) wc.heap.size w4.heap.size _ (by rfl) (by rfl) (by rfl) (by rfl) ((HR.out.keep R4.out).keep (Below.alloc (Below.refl _ _) (Nat.le_refl _) _)) (O4.out.alloc _) (by omega) (by simp) (by intro g' hg'; simp [Value.ownBlock] at hg'; omega) (by intro g' hg'; simp at hg'; simp; omega) (by intro q hq; simp at hq) (heap_alloc_new w4 _) (by omega) (by simp; omega) (by simp) ?_; intro gg cap w9 ho9 hg9 hat9)))
                all_goals
                  go_wp2
                  go_roundw
                  case rel =>
                    have R5 : Below wc.heap.size wc (w4.alloc (.cells #[.slice A4 n c4] 22)) := R4.out.alloc R4.out.size _
                    refine ⟨c + 1, gl2, cl2, gg, cap, by omega, by go_num, rfl, rfl, (HL.out.keep R5).other hg9.size (fun k hk hne => hg9.block k hk hne.symm) ?_, ho9, ((HP.out.keep R5).grown hg9 (by simp [Value.ownBlock]; omega)), Below.grown (HB.out.trans (R5.mono hz)) hg9 (by simp; omega) (fun b hb => by simp [Value.ownBlock] at hb; omega)⟩
                    rcases hat9 with h | h
                    · simp [Value.ownBlock] at h; exact .inl (by rw [h])
                    · exact .inr (.inr ⟨gg, rfl, by simp; omega⟩)
                  case measure => simp [intOf]; omega
            · have hkn : c = n := by omega
              have hl := HL.out
              have hr := HR.out
              rw [hkn] at hl hr
              have HLn := Lib.hid hl
              have HRn := Lib.hid hr
              have hd7 : decide ((c : Int) < (n : Int)) = false := by simp; omega
              clear hl hr HL HR hkn
              obtain ⟨w4, hw4⟩ : ∃ w4, w4 = wr := ⟨_, rfl⟩
              rw [← hw4] at HLn HRn HP HB ⊢
              clear hw4
              have HB4 := HB
              have hz4 := HB4.out.size
              clear p1 p2 zp bl br hz
              go_wp2
              go_loopw [12] (fun i wr => ∃ a : Nat, a ≤ n ∧ i = .int .i64 a ∧ Hid (∀ a' b c, a' < a → a' + b + c < n → hrP m n (fun i => co2 xss i c) (co2 xss) (n - c) (n - c) a' b = hrP m n (fun j => co2 xss a' j) (co2 xss) (n - a') (n - a') b c) ∧ Hid (Below w4.heap.size w4 wr)) (fun i _ => n + 1 - (intOf i).toNat)
              case atStart => exact ⟨0, Nat.zero_le _, rfl, (fun a b c h => absurd h (Nat.not_lt_zero _)), Below.refl _ _⟩
              case round =>
                obtain ⟨a, ha, rfl, K1, HC⟩ := hrel
                by_cases hla : a < n
                · have hda : decide ((a : Int) < (n : Int)) = true := by simp; omega
                  have hda2 : (a : Int) < (n : Int) := by omega
                  go_wp2
                  go_loopw [13] (fun i wr => ∃ b : Nat, a + b ≤ n ∧ i = .int .i64 b ∧ Hid (∀ b' c, b' < b → a + b' + c < n → hrP m n (fun i => co2 xss i c) (co2 xss) (n - c) (n - c) a b' = hrP m n (fun j => co2 xss a j) (co2 xss) (n - a) (n - a) b' c) ∧ Hid (Below w4.heap.size w4 wr)) (fun i _ => n + 1 - (intOf i).toNat)
                  case atStart => exact ⟨0, by omega, rfl, (fun b c h => absurd h (Nat.not_lt_zero _)), HC⟩
                  case round =>
                    clear HC
                    obtain ⟨b, hb, rfl, K2, HC⟩ := hrel
                    by_cases hlb : a + b < n
                    · have hdb : decide ((a : Int) + (b : Int) < (n : Int)) = true := by simp; omega
                      have hdb2 : (a : Int) + (b : Int) < (n : Int) := by omega
                      go_wp2
                      go_loopw [14] (fun i wr => ∃ c : Nat, a + b + c ≤ n ∧ i = .int .i64 c ∧ Hid (∀ c', c' < c → a + b + c' < n → hrP m n (fun i => co2 xss i c') (co2 xss) (n - c') (n - c') a b = hrP m n (fun j => co2 xss a j) (co2 xss) (n - a) (n - a) b c') ∧ Hid (Below w4.heap.size w4 wr)) (fun i _ => n + 1 - (intOf i).toNat)
                      case atStart => exact ⟨0, by omega, rfl, (fun c h => absurd h (Nat.not_lt_zero _)), HC⟩
                      case round =>
                        clear HC
                        obtain ⟨c, hc, rfl, K3, HC⟩ := hrel
                        by_cases hlc : a + b + c < n
                        · obtain ⟨g1, g2, c2, g3, c3, e1, r1, r2, r3⟩ := (HLn.out.keep HC.out).cell3 (k := c) (a := a) (b := b) rfl (by omega) (by omega)
                          obtain ⟨g4, g5, c5, g6, c6, e2, r4, r5, r6⟩ := (HRn.out.keep HC.out).cell3 (k := a) (a := b) (b := c) rfl (by omega) (by omega)
                          simp only [Option.some.injEq, Addr.mk.injEq, and_true] at e1 e2
                          subst e1 e2
                          obtain ⟨x, hx⟩ : ∃ x, hrP m n (fun i => co2 xss i c) (co2 xss) (n - c) (n - c) a b = x := ⟨_, rfl⟩
                          obtain ⟨y, hy⟩ : ∃ y, hrP m n (fun j => co2 xss a j) (co2 xss) (n - a) (n - a) b c = y := ⟨_, rfl⟩
                          have HX : Hid (hrP m n (fun i => co2 xss i c) (co2 xss) (n - c) (n - c) a b = x) := hx
                          have HY : Hid (hrP m n (fun j => co2 xss a j) (co2 xss) (n - a) (n - a) b c = y) := hy
                          rw [hx] at r3
                          rw [hy] at r6
                          obtain ⟨ra, hra⟩ : ∃ ra, ra = n - a := ⟨_, rfl⟩
                          obtain ⟨rb, hrb⟩ : ∃ rb, rb = n - b := ⟨_, rfl⟩
                          rw [← hra] at r2
                          rw [← hrb] at r5
                          have hra2 : b < ra := by omega
                          have hrb2 : c < rb := by omega
                          have hra3 : (b : Int) < (ra : Int) := by omega
                          have hrb3 : (c : Int) < (rb : Int) := by omega
                          have ha3 : a < n := by omega
                          have hb3 : b < n := by omega
                          have hc3 : c < n := by omega
                          have ha4 : (a : Int) < (n : Int) := by omega
                          have hb4 : (b : Int) < (n : Int) := by omega
                          have hc4 : (c : Int) < (n : Int) := by omega
                          have ha5 : (0 : Int) ≤ (a : Int) := by omega
                          have hb5' : (0 : Int) ≤ (b : Int) := by omega
                          have hc5 : (0 : Int) ≤ (c : Int) := by omega
                          have hle : (a : Int) + (b : Int) + (c : Int) < (n : Int) := by omega
                          clear hx hy hra hrb
                          by_cases hx0 : x = y
                          · have hb2 : (x != y) = false := by simp [hx0]
                            have hb5 : decide (x = y) = true := by simp [hx0]
                            have HN : Hid (∀ c', c' < c + 1 → a + b + c' < n → hrP m n (fun i => co2 xss i c') (co2 xss) (n - c') (n - c') a b = hrP m n (fun j => co2 xss a j) (co2 xss) (n - a) (n - a) b c') := by
                              intro c' h1 h2
                              by_cases h : c' = c
                              · subst h; rw [HX.out, HY.out, hx0]
                              · exact K3.out c' (by omega) h2
                            have HXY := Lib.hid hx0
                            clear hx0
                            go_wp2
                            go_quiet (fail)
                            go_wp2
                            go_roundw
                            case rel => exact ⟨c + 1, by omega, by go_num, HN, below_drewN HC.out _⟩
                            case measure => simp [intOf]; omega
                          · have hb2 : (x != y) = true := by simpa using hx0
                            have hb5 : decide (x = y) = false := by simpa using hx0
                            have HF : Hid (lawB m n (co2 xss) = false) := by
                              unfold Hid
                              rw [Bool.eq_false_iff]
                              intro h
                              have := ((lawB_iff m n _).1 h).2.2 a b c hlc
                              rw [HX.out, HY.out] at this
                              exact hx0 this
                            go_wp2
                            go_quiet (fail)
                            go_wp2
                            go_ret
                            refine ⟨?_, (below_drewN (HB4.out.trans (HC.out.mono hz4)) _).alloc (by have := HC.out.size; simp; omega) _⟩
                            rw [HF.out]
                            exact ⟨_, _, _, rfl⟩
                        · have hd8 : decide ((a : Int) + (b : Int) + (c : Int) < (n : Int)) = false := by simp; omega
                          go_wp2
                          go_roundw
                          case rel =>
                            refine ⟨b + 1, by omega, by go_num, fun b' c' h1 h2 => ?_, HC⟩
                            by_cases h : b' = b
                            · subst h; exact K3.out c' (by omega) h2
                            · exact K2.out b' c' (by omega) h2
                          case measure => simp [intOf]; omega
                    · have hd9 : decide ((a : Int) + (b : Int) < (n : Int)) = false := by simp; omega
                      go_wp2
                      go_roundw
                      case rel =>
                        refine ⟨a + 1, by omega, by go_num, fun a' b' c' h1 h2 => ?_, HC⟩
                        by_cases h : a' = a
                        · subst h; exact K2.out b' c' (by omega) h2
                        · exact K1.out a' b' c' (by omega) h2
                      case measure => simp [intOf]; omega
                · have hd9 : decide ((a : Int) < (n : Int)) = false := by simp; omega
                  have HF : Hid (lawB m n (co2 xss) = true) := (lawB_iff m n _).2 ⟨H1'.out, H2'.out, fun a' b' c' h => K1.out a' b' c' (by omega) h⟩
                  go_wp2
                  go_ret
                  refine ⟨?_, HB4.out.trans (HC.out.mono hz4)⟩
                  rw [HF.out]
                  rfl

/-! ### IsLaw -/
def IsLawR (m : Int) (xss : List (List Int)) : Bool := isPl m xss && lawB m xss.length (co2 xss)
theorem isPl_mod {m : Int} {xss : List (List Int)} (h : isPl m xss = true) : 2 ≤ m ∧ m ≤ 3000000000 := by
  have h1 := (isPl_true h).1
  unfold isModB at h1
  have := inB_true.1 h1
  omega
set_option maxHeartbeats 2000000 in
set_option maxRecDepth 8000 in
theorem l04Is_any (w : World) (m : Int) (v : Value) (xss : List (List Int)) (lo hi : Nat) (hv : OwnP w lo hi v xss) (hl : szP xss ≤ 2000000) :
    Calls Try.prog 80 #[.agg #[.int .i64 m, v]] w (RetB w (IsLawR m xss)) := by
  obtain ⟨A, c, rfl, -, -⟩ := hv.form
  have HV := Lib.hid hv
  clear hv
  cases hp : isPl m xss
  · have HF : Hid (IsLawR m xss = false) := by simp [Hid, IsLawR, hp]
    have HP := Lib.hid hp
    clear hp
    go_enter Try.func80, Try.ntmps80
    go_wp2_with (go_at_call 74; refine (l03Is_any _ m (.slice A xss.length c) xss lo hi (HV.out.alloc _) hl).mono ?_; rintro e w1 ⟨rfl, hb1⟩; rw [HP.out])
    go_ret
    exact ⟨by rw [HF.out]; rfl, (below_alloc1 w _).trans (hb1.mono (by simp))⟩
  · have ht := isPl_tri hp
    have hq := isPl_num2 hp
    have hm := isPl_mod hp
    have hn := (isPl_true hp).2.1
    have HF : Hid (IsLawR m xss = lawB m xss.length (co2 xss)) := by simp [Hid, IsLawR, hp]
    have HP := Lib.hid hp
    have HT := Lib.hid ht
    have HQ := Lib.hid hq
    clear hp ht hq
    go_enter Try.func80, Try.ntmps80
    cases hb : lawB m xss.length (co2 xss)
    · have HLB := Lib.hid hb
      clear hb
      go_wp2_with (first | (go_at_call 74; refine (l03Is_any _ m (.slice A xss.length c) xss lo hi (HV.out.alloc _) hl).mono ?_; rintro e w1 ⟨rfl, hb1⟩; rw [HP.out]; have P1 : Bf w1 w.heap.size (.int .i64 m) (.slice A xss.length c) := (Bf.alloc1 w _ _ 24).keep hb1; have p1 := P1.1.2.1; have p2 := P1.1.2.2; have HB1 := Lib.hid ((below_alloc1 w (.cells #[.int .i64 m, .slice A xss.length c] 24)).trans (hb1.mono (by simp)))) | (go_at_call 143; refine (l04Fault_any _ m _ xss xss.length lo hi (HV.out.keep HB1.out) HT.out HQ.out hm.1 hm.2 (by omega) (by omega)).mono ?_; rintro e w2 ⟨hr, hb2⟩; rw [HLB.out] at hr; simp only [Bool.false_eq_true, if_false] at hr; obtain ⟨g, k, c2, rfl⟩ := hr))
      go_ret
      exact ⟨by rw [HF.out, HLB.out]; first | rfl | (simp; done) | (simp; omega), HB1.out.trans (hb2.mono HB1.out.size)⟩
    · have HLB := Lib.hid hb
      clear hb
      go_wp2_with (first | (go_at_call 74; refine (l03Is_any _ m (.slice A xss.length c) xss lo hi (HV.out.alloc _) hl).mono ?_; rintro e w1 ⟨rfl, hb1⟩; rw [HP.out]; have P1 : Bf w1 w.heap.size (.int .i64 m) (.slice A xss.length c) := (Bf.alloc1 w _ _ 24).keep hb1; have p1 := P1.1.2.1; have p2 := P1.1.2.2; have HB1 := Lib.hid ((below_alloc1 w (.cells #[.int .i64 m, .slice A xss.length c] 24)).trans (hb1.mono (by simp)))) | (go_at_call 143; refine (l04Fault_any _ m _ xss xss.length lo hi (HV.out.keep HB1.out) HT.out HQ.out hm.1 hm.2 (by omega) (by omega)).mono ?_; rintro e w2 ⟨hr, hb2⟩; rw [HLB.out] at hr; simp only [if_true] at hr; subst hr))
      go_ret
      exact ⟨by rw [HF.out, HLB.out]; first | rfl | (simp; done) | (simp; omega), HB1.out.trans (hb2.mono HB1.out.size)⟩
theorem sIsLawR_any (w : World) (m : Int) (v : Value) (xss : List (List Int)) (lo hi : Nat) (hv : OwnP w lo hi v xss) (hl : szP xss ≤ 2000000) :
    Calls Try.prog 18 #[.agg #[.int .i64 m, v]] w (RetB w (IsLawR m xss)) := by
  obtain ⟨A, c, rfl, -, -⟩ := hv.form
  have HV := Lib.hid hv
  clear hv
  go_enter Try.func18, Try.ntmps18
  go_wp2_with (go_at_call 80; refine (l04Is_any _ m (.slice A xss.length c) xss lo hi (HV.out.alloc _) hl).mono ?_; rintro e w1 ⟨rfl, hb1⟩)
  go_ret
  exact ⟨rfl, (below_alloc1 w _).trans (hb1.mono (by simp))⟩
set_option maxHeartbeats 2000000 in
set_option maxRecDepth 8000 in
theorem iIsLawR_any (w : World) (m : Int) (v : Value) (xss : List (List Int)) (lo hi : Nat) (hv : OwnP w lo hi v xss) (hl : szP xss ≤ 2000000) :
    Calls Try.prog 19 #[.agg #[.int .i64 m, v]] w (RetB w (IsLawR m xss)) := by
  obtain ⟨A, c, rfl, -, -⟩ := hv.form
  have HV := Lib.hid hv
  clear hv
  cases hp : isPl m xss
  · have HF : Hid (IsLawR m xss = false) := by simp [Hid, IsLawR, hp]
    have HP := Lib.hid hp
    clear hp
    go_enter Try.func19, Try.ntmps19
    go_wp2_with (go_at_call 78; refine (iIsPlane_any _ m (.slice A xss.length c) xss lo hi (HV.out.alloc _) hl).mono ?_; rintro e w1 ⟨rfl, hb1⟩; rw [HP.out])
    go_ret
    exact ⟨by rw [HF.out]; rfl, (below_alloc1 w _).trans (hb1.mono (by simp))⟩
  · have ht := isPl_tri hp
    have hq := isPl_num2 hp
    have hm := isPl_mod hp
    have hn := (isPl_true hp).2.1
    have HF : Hid (IsLawR m xss = lawB m xss.length (co2 xss)) := by simp [Hid, IsLawR, hp]
    have HP := Lib.hid hp
    have HT := Lib.hid ht
    have HQ := Lib.hid hq
    clear hp ht hq
    have hnil : ∀ (w : World) (a : Option Addr) (n c : Nat), (binOp .eql 45 (.slice a n c) (.slice none 0 0)).run Try.prog w = .ok (.bool a.isNone) w := fun w a n c => Lib.run_eql_slice_nil w _ _ a n c 0 0 Try.underlying45
    go_enter Try.func19, Try.ntmps19
    cases hb : lawB m xss.length (co2 xss)
    · have HLB := Lib.hid hb
      clear hb
      go_wp2_with (first | (go_at_call 78; refine (iIsPlane_any _ m (.slice A xss.length c) xss lo hi (HV.out.alloc _) hl).mono ?_; rintro e w1 ⟨rfl, hb1⟩; rw [HP.out]; have P1 : Bf w1 w.heap.size (.int .i64 m) (.slice A xss.length c) := (Bf.alloc1 w _ _ 24).keep hb1; have p1 := P1.1.2.1; have p2 := P1.1.2.2; have HB1 := Lib.hid ((below_alloc1 w (.cells #[.int .i64 m, .slice A xss.length c] 24)).trans (hb1.mono (by simp)))) | (go_at_call 81; refine (axioms_any _ m _ xss xss.length lo hi (HV.out.keep HB1.out) HT.out HQ.out hm.1 hm.2 (by omega) (by omega)).mono ?_; rintro e w2 ⟨hr, hb2⟩; rw [HLB.out] at hr; simp only [Bool.false_eq_true, if_false] at hr; obtain ⟨g, k, c2, rfl⟩ := hr))
      go_ret
      exact ⟨by rw [HF.out, HLB.out]; first | rfl | (simp; done) | (simp; omega), HB1.out.trans (hb2.mono HB1.out.size)⟩
    · have HLB := Lib.hid hb
      clear hb
      go_wp2_with (first | (go_at_call 78; refine (iIsPlane_any _ m (.slice A xss.length c) xss lo hi (HV.out.alloc _) hl).mono ?_; rintro e w1 ⟨rfl, hb1⟩; rw [HP.out]; have P1 : Bf w1 w.heap.size (.int .i64 m) (.slice A xss.length c) := (Bf.alloc1 w _ _ 24).keep hb1; have p1 := P1.1.2.1; have p2 := P1.1.2.2; have HB1 := Lib.hid ((below_alloc1 w (.cells #[.int .i64 m, .slice A xss.length c] 24)).trans (hb1.mono (by simp)))) | (go_at_call 81; refine (axioms_any _ m _ xss xss.length lo hi (HV.out.keep HB1.out) HT.out HQ.out hm.1 hm.2 (by omega) (by omega)).mono ?_; rintro e w2 ⟨hr, hb2⟩; rw [HLB.out] at hr; simp only [if_true] at hr; subst hr))
      go_ret
      exact ⟨by rw [HF.out, HLB.out]; first | rfl | (simp; done) | (simp; omega), HB1.out.trans (hb2.mono HB1.out.size)⟩

/-! ### The laws' walks, printed by genlaw2.py -/
set_option maxHeartbeats 4000000 in
theorem FnExactIsLaw_walk (w : World) (m0 : Int) (v0 : Value) (xs0 : List (List Int)) (hv0 : RdP w v0 xs0) : Calls Try.prog 5 #[.agg #[.int .i64 m0, v0]] w fun e w' => e = .returned (.bool true) ∧ Below w.heap.size w w' := by
  obtain ⟨A0, c0, e0⟩ := hv0.form
  subst e0
  obtain ⟨r0, HR⟩ : ∃ r0, Hid (IsLawR m0 xs0 = r0) := ⟨_, rfl⟩
  obtain ⟨r, hr⟩ : ∃ r, r = r0 := ⟨_, rfl⟩
  subst hr
  by_cases hz0 : 1048576 < ((szP xs0) : Int)
  · skip
    have HZ0 := Lib.hid (szN_lt hz0)
    go_enter Try.func5, Try.ntmps5
    go_wp2_with fail
    refine (szP_any _ m0 _ xs0 (1048576) (hv0.below (by (repeat (first | assumption | exact Below.refl _ _ | refine Below.alloc ?_ (by first | omega | (simp; done) | (simp; omega)) _ | refine Below.setCell ?_ (by first | omega | (simp; done) | (simp; omega)) _ | refine below_drewN ?_ _)))) (by omega) (by omega)).mono ?_
    rintro e w1 ⟨rfl, hb1⟩
    rw [HZ0.out]
    have R : Below w.heap.size w w1 := Below.trans (by (repeat (first | assumption | exact Below.refl _ _ | refine Below.alloc ?_ (by first | omega | (simp; done) | (simp; omega)) _ | refine Below.setCell ?_ (by first | omega | (simp; done) | (simp; omega)) _ | refine below_drewN ?_ _))) (hb1.mono (by first | exact Nat.le_refl _ | (simp; done) | (simp; omega)))
    have s1 : w.heap.size ≤ w1.heap.size := R.size
    have K1 : Hid (Below w.heap.size w w1) := R
    have b0 : Hid (Bx w1 w.heap.size (.int .i64 m0) (.slice A0 xs0.length c0)) := ⟨by have := hb1.size; simp at this; omega, by rw [hb1.cell (by first | (simp; done) | (simp; omega))]; simp, by rw [hb1.cell (by first | (simp; done) | (simp; omega))]; simp⟩
    clear R hb1
    have b0_c := b0.out.2.1
    have b0_d := b0.out.2.2
    have b0_z := b0.out.1
    go_wp2
    go_ret
    exact ⟨rfl, K1.out⟩
  have HZ0 := Lib.hid (szN_ge hz0)
  have hl0 : ((szP xs0) : Int) ≤ 1048576 := by omega
  clear hz0
  have hq0 := cntP_le_szP xs0
  have hq0' := length_le_szP xs0
  go_enter Try.func5, Try.ntmps5
  go_wp2_with fail
  refine (szP_any _ m0 _ xs0 (1048576) (hv0.below (by (repeat (first | assumption | exact Below.refl _ _ | refine Below.alloc ?_ (by first | omega | (simp; done) | (simp; omega)) _ | refine Below.setCell ?_ (by first | omega | (simp; done) | (simp; omega)) _ | refine below_drewN ?_ _)))) (by omega) (by omega)).mono ?_
  rintro e w2 ⟨rfl, hb2⟩
  rw [HZ0.out]
  have R : Below w.heap.size w w2 := Below.trans (by (repeat (first | assumption | exact Below.refl _ _ | refine Below.alloc ?_ (by first | omega | (simp; done) | (simp; omega)) _ | refine Below.setCell ?_ (by first | omega | (simp; done) | (simp; omega)) _ | refine below_drewN ?_ _))) (hb2.mono (by first | exact Nat.le_refl _ | (simp; done) | (simp; omega)))
  have s2 : w.heap.size ≤ w2.heap.size := R.size
  have K2 : Hid (Below w.heap.size w w2) := R
  have b0 : Hid (Bx w2 w.heap.size (.int .i64 m0) (.slice A0 xs0.length c0)) := ⟨by have := hb2.size; simp at this; omega, by rw [hb2.cell (by first | (simp; done) | (simp; omega))]; simp, by rw [hb2.cell (by first | (simp; done) | (simp; omega))]; simp⟩
  clear R hb2
  have b0_c := b0.out.2.1
  have b0_d := b0.out.2.2
  have b0_z := b0.out.1
  go_wp2_with fail
  refine (toP_any _ m0 _ xs0 (hv0.below K2.out) (by omega)).mono ?_
  rintro e w3 ⟨A_p0, c_p0, rfl, o_p0, hb3⟩
  clear b0_c b0_d b0_z
  have o_p0' := (o_p0).mono (show w2.heap.size ≤ _ from by first | exact Nat.le_refl _ | (simp; done) | (simp; omega)) (Nat.le_refl _)
  clear o_p0
  have R : Below w2.heap.size w2 w3 := Below.trans (by (repeat (first | assumption | exact Below.refl _ _ | refine Below.alloc ?_ (by first | omega | (simp; done) | (simp; omega)) _ | refine Below.setCell ?_ (by first | omega | (simp; done) | (simp; omega)) _ | refine below_drewN ?_ _))) (hb3.mono (by first | exact Nat.le_refl _ | (simp; done) | (simp; omega)))
  have s3 : w2.heap.size ≤ w3.heap.size := R.size
  have K3 : Hid (Below w.heap.size w w3) := K2.out.trans (R.mono (by omega))
  replace b0 : Hid (Bx w3 w.heap.size (.int .i64 m0) (.slice A0 xs0.length c0)) := b0.out.keep R
  clear R hb3
  have p0 : Hid (OwnP w3 w2.heap.size w3.heap.size (.slice A_p0 xs0.length c_p0) xs0) := o_p0'
  clear o_p0'
  have b0_c := b0.out.2.1
  have b0_d := b0.out.2.2
  have b0_z := b0.out.1
  go_wp2_with fail
  refine (sIsLawR_any _ m0 (.slice A_p0 xs0.length c_p0) xs0 w2.heap.size w3.heap.size (p0.out.keep (by (repeat (first | assumption | exact Below.refl _ _ | refine Below.alloc ?_ (by first | omega | (simp; done) | (simp; omega)) _ | refine Below.setCell ?_ (by first | omega | (simp; done) | (simp; omega)) _ | refine below_drewN ?_ _)))) (by omega)).mono ?_
  rintro e w4 h_r
  replace h_r := h_r.of HR
  obtain ⟨rfl, hb4⟩ := h_r
  clear b0_c b0_d b0_z
  have R : Below w3.heap.size w3 w4 := Below.trans (by (repeat (first | assumption | exact Below.refl _ _ | refine Below.alloc ?_ (by first | omega | (simp; done) | (simp; omega)) _ | refine Below.setCell ?_ (by first | omega | (simp; done) | (simp; omega)) _ | refine below_drewN ?_ _))) (hb4.mono (by first | exact Nat.le_refl _ | (simp; done) | (simp; omega)))
  have s4 : w3.heap.size ≤ w4.heap.size := R.size
  have K4 : Hid (Below w.heap.size w w4) := K3.out.trans (R.mono (by omega))
  replace b0 : Hid (Bx w4 w.heap.size (.int .i64 m0) (.slice A0 xs0.length c0)) := b0.out.keep R
  replace p0 : Hid (OwnP w4 w2.heap.size w3.heap.size (.slice A_p0 xs0.length c_p0) xs0) := p0.out.keep R
  clear R hb4
  clear p0
  have b0_c := b0.out.2.1
  have b0_d := b0.out.2.2
  have b0_z := b0.out.1
  go_wp2_with fail
  refine (toP_any _ m0 _ xs0 (hv0.below K4.out) (by omega)).mono ?_
  rintro e w5 ⟨A_x0, c_x0, rfl, o_x0, hb5⟩
  clear b0_c b0_d b0_z
  have o_x0' := (o_x0).mono (show w4.heap.size ≤ _ from by first | exact Nat.le_refl _ | (simp; done) | (simp; omega)) (Nat.le_refl _)
  clear o_x0
  have R : Below w4.heap.size w4 w5 := Below.trans (by (repeat (first | assumption | exact Below.refl _ _ | refine Below.alloc ?_ (by first | omega | (simp; done) | (simp; omega)) _ | refine Below.setCell ?_ (by first | omega | (simp; done) | (simp; omega)) _ | refine below_drewN ?_ _))) (hb5.mono (by first | exact Nat.le_refl _ | (simp; done) | (simp; omega)))
  have s5 : w4.heap.size ≤ w5.heap.size := R.size
  have K5 : Hid (Below w.heap.size w w5) := K4.out.trans (R.mono (by omega))
  replace b0 : Hid (Bx w5 w.heap.size (.int .i64 m0) (.slice A0 xs0.length c0)) := b0.out.keep R
  clear R hb5
  have x0 : Hid (OwnP w5 w4.heap.size w5.heap.size (.slice A_x0 xs0.length c_x0) xs0) := o_x0'
  clear o_x0'
  have b0_c := b0.out.2.1
  have b0_d := b0.out.2.2
  have b0_z := b0.out.1
  go_wp2_with fail
  refine (iIsLawR_any _ m0 (.slice A_x0 xs0.length c_x0) xs0 w4.heap.size w5.heap.size (x0.out.keep (by (repeat (first | assumption | exact Below.refl _ _ | refine Below.alloc ?_ (by first | omega | (simp; done) | (simp; omega)) _ | refine Below.setCell ?_ (by first | omega | (simp; done) | (simp; omega)) _ | refine below_drewN ?_ _)))) (by omega)).mono ?_
  rintro e w6 h_r
  replace h_r := h_r.of HR
  obtain ⟨rfl, hb6⟩ := h_r
  clear b0_c b0_d b0_z
  have R : Below w5.heap.size w5 w6 := Below.trans (by (repeat (first | assumption | exact Below.refl _ _ | refine Below.alloc ?_ (by first | omega | (simp; done) | (simp; omega)) _ | refine Below.setCell ?_ (by first | omega | (simp; done) | (simp; omega)) _ | refine below_drewN ?_ _))) (hb6.mono (by first | exact Nat.le_refl _ | (simp; done) | (simp; omega)))
  have s6 : w5.heap.size ≤ w6.heap.size := R.size
  have K6 : Hid (Below w.heap.size w w6) := K5.out.trans (R.mono (by omega))
  replace b0 : Hid (Bx w6 w.heap.size (.int .i64 m0) (.slice A0 xs0.length c0)) := b0.out.keep R
  replace x0 : Hid (OwnP w6 w4.heap.size w5.heap.size (.slice A_x0 xs0.length c_x0) xs0) := x0.out.keep R
  have bx0 : Hid (Bx w6 w5.heap.size (.int .i64 m0) (.slice A_x0 xs0.length c_x0)) := ⟨by have := hb6.size; simp at this; omega, by rw [hb6.cell (by first | (simp; done) | (simp; omega))]; simp, by rw [hb6.cell (by first | (simp; done) | (simp; omega))]; simp⟩
  clear R hb6
  have b0_c := b0.out.2.1
  have b0_d := b0.out.2.2
  have b0_z := b0.out.1
  have bx0_c := bx0.out.2.1
  have bx0_d := bx0.out.2.2
  have bx0_z := bx0.out.1
  go_wp2
  clear b0_c b0_d b0_z
  clear bx0_c bx0_d bx0_z
  have L0 : Below w.heap.size w w6.drew := below_drew K6.out
  have T0 : Hid (Bx w6.drew w.heap.size (.int .i64 m0) (.slice A0 xs0.length c0) ∧ Bx w6.drew w5.heap.size (.int .i64 m0) (.slice A_x0 xs0.length c_x0) ∧ OwnP w6.drew w4.heap.size w5.heap.size (.slice A_x0 xs0.length c_x0) xs0 ∧ Below w.heap.size w w6.drew ∧ w6.heap.size ≤ w6.drew.heap.size) := ⟨b0.out, bx0.out, x0.out, L0, Nat.le_refl _⟩
  go_region_held3 (fun w' => w'.cell? ⟨w.heap.size, 0, none⟩ = some (.int .i64 m0) ∧ w'.cell? ⟨w.heap.size, 1, none⟩ = some (.slice A0 xs0.length c0) ∧ w'.cell? ⟨w5.heap.size, 0, none⟩ = some (.int .i64 m0) ∧ w'.cell? ⟨w5.heap.size, 1, none⟩ = some (.slice A_x0 xs0.length c_x0) ∧ Hid (Bx w' w.heap.size (.int .i64 m0) (.slice A0 xs0.length c0) ∧ Bx w' w5.heap.size (.int .i64 m0) (.slice A_x0 xs0.length c_x0) ∧ OwnP w' w4.heap.size w5.heap.size (.slice A_x0 xs0.length c_x0) xs0 ∧ Below w.heap.size w w' ∧ w6.heap.size ≤ w'.heap.size))
    (first | exact ⟨(T0.out.1).2.1, (T0.out.1).2.2, (T0.out.2.1).2.1, (T0.out.2.1).2.2, T0⟩ | exact ⟨(T1.out.1).2.1, (T1.out.1).2.2, (T1.out.2.1).2.1, (T1.out.2.1).2.2, T1⟩ | exact ⟨(T2.out.1).2.1, (T2.out.1).2.2, (T2.out.2.1).2.1, (T2.out.2.1).2.2, T2⟩)
    (first
      | (go_at_call 16; refine (toP_any _ m0 _ xs0 (hv0.below L0) (by omega)).mono ?_; rintro e w7 ⟨A_t, c_t, rfl, o_t, hbA⟩; have T1 : Hid (Bx w7 w.heap.size (.int .i64 m0) (.slice A0 xs0.length c0) ∧ Bx w7 w5.heap.size (.int .i64 m0) (.slice A_x0 xs0.length c_x0) ∧ OwnP w7 w4.heap.size w5.heap.size (.slice A_x0 xs0.length c_x0) xs0 ∧ Below w.heap.size w w7 ∧ w6.heap.size ≤ w7.heap.size) := ⟨(T0.out.1).keep hbA, (T0.out.2.1).keep hbA, (T0.out.2.2.1).keep hbA, (T0.out.2.2.2.1).trans (hbA.mono (Nat.le_trans (show w.heap.size ≤ w6.heap.size from by omega) (T0.out.2.2.2.2))), Nat.le_trans (T0.out.2.2.2.2) hbA.size⟩)
      | (go_at_call 11; refine (eqP_any _ m0 m0 _ _ xs0 xs0 (T1.out.2.2.1).rd o_t.rd).mono ?_; rintro e w8 ⟨rfl, hbB⟩; have T2 : Hid (Bx w8 w.heap.size (.int .i64 m0) (.slice A0 xs0.length c0) ∧ Bx w8 w5.heap.size (.int .i64 m0) (.slice A_x0 xs0.length c_x0) ∧ OwnP w8 w4.heap.size w5.heap.size (.slice A_x0 xs0.length c_x0) xs0 ∧ Below w.heap.size w w8 ∧ w6.heap.size ≤ w8.heap.size) := ⟨(T1.out.1).keep hbB, (T1.out.2.1).keep hbB, (T1.out.2.2.1).keep hbB, (T1.out.2.2.2.1).trans (hbB.mono (Nat.le_trans (show w.heap.size ≤ w6.heap.size from by omega) (T1.out.2.2.2.2))), Nat.le_trans (T1.out.2.2.2.2) hbB.size⟩))
  have s8 : w6.heap.size ≤ w8.heap.size := T2.out.2.2.2.2
  have K8 : Hid (Below w.heap.size w w8) := T2.out.2.2.2.1
  replace b0 : Hid (Bx w8 w.heap.size (.int .i64 m0) (.slice A0 xs0.length c0)) := T2.out.1
  replace bx0 : Hid (Bx w8 w5.heap.size (.int .i64 m0) (.slice A_x0 xs0.length c_x0)) := T2.out.2.1
  replace x0 : Hid (OwnP w8 w4.heap.size w5.heap.size (.slice A_x0 xs0.length c_x0) xs0) := T2.out.2.2.1
  clear T0 T1 T2 L0 o_t
  have b0_c := b0.out.2.1
  have b0_d := b0.out.2.2
  have b0_z := b0.out.1
  have bx0_c := bx0.out.2.1
  have bx0_d := bx0.out.2.2
  have bx0_z := bx0.out.1
  go_wp2
  go_ret
  exact ⟨rfl, K8.out⟩


end Go.Proofs.Ytmppmnmkhfcoaaa
