/- Contracts over this seat's translation. Condition: each contract's own. -/
import Derived.Test.YtglbccikdglcgaaGreatDoorC
import Derived.Test.YtglbccikdglcgaaGreatDoorShelf
import Derived.ProofKit
import Derived.Laws.Bits64b
import Derived.Lib.Mul64
import Derived.OpenShut
import Derived.Below
import Derived.ChangeSame
import Derived.Deep.Modes
import Derived.Lib.SmallJoins
import Derived.ChangeSlices
import Derived.WalkKit
import Derived.WalkSpells
import Derived.WalkLawsBesides
import Derived.Deep.QuietTactic
import Derived.BigQuiet
import Derived.Deep.RegionHeld3
import Derived.Deep.RegionWith
import Derived.Deep.RegionLaw
import Derived.Deep.AppendLies
import Derived.Laws.CopyOwn
import Derived.Deep.DeepCutAuto
import Derived.Deep.OwnRows
import Derived.Deep.LoopGhost
import Derived.Deep.DeepFit
import Derived.Deep.DeepMust
import Derived.Deep.Draws
import Derived.Deep.CutRange
import Derived.Maps.AppendAt
import Derived.Lib.Hide
import Derived.StillTailTactics
import Derived.Laws.MakeOwn
import Derived.Deep.Matrix
import Derived.ChangeAgain
import Derived.Lib.SplitLaws
import Derived.Lib.ParseIntB
import Derived.Lib.ItoaMem
import Derived.Lib.Join
import Derived.Lib.IndexBytes
set_option linter.unusedVariables false
open Go Go.RowKit
namespace Go.Proofs.YtglbccikdglcgaaGreatDoor
/-! ### Lists of texts in memory -/
/-- In world w the slice value v holds the texts ts, in a block from B on. -/
def OwnT (w : World) (B : Nat) (v : Value) (ts : List ByteArray) : Prop := w.ownsRow B 9 1 v ts.length (ts.map Value.string)
theorem OwnT.drewN {w : World} {B : Nat} {v : Value} {ts : List ByteArray} (h : OwnT w B v ts) (n : Nat) : OwnT (w.drewN n) B v ts := h
theorem OwnT.alloc {w : World} {B : Nat} {v : Value} {ts : List ByteArray} (h : OwnT w B v ts) (o : Obj) : OwnT (w.alloc o) B v ts := World.ownsRow.alloc h o
theorem OwnT.mono {w : World} {B B' : Nat} {v : Value} {ts : List ByteArray} (h : OwnT w B v ts) (hb : B' ≤ B) : OwnT w B' v ts := by
  rcases h.2 with h0 | ⟨g, cap, cur, h1, h2, h3⟩
  · exact ⟨h.1, .inl h0⟩
  · exact ⟨h.1, .inr ⟨g, cap, cur, h1, by omega, h3⟩⟩
theorem OwnT.keep {w w' : World} {B C : Nat} {v : Value} {ts : List ByteArray} (h : OwnT w B v ts) (hb : Below C w w') (hC : w.heap.size ≤ C) : OwnT w' B v ts := by
  rcases h.2 with h0 | ⟨g, cap, cur, h1, h2, h3, h4⟩
  · exact ⟨h.1, .inl h0⟩
  · exact ⟨h.1, .inr ⟨g, cap, cur, h1, h2, (hb.block g (by have := lt_of_block h3; omega)).trans h3, h4⟩⟩
/-- The slice value opened. -/
theorem OwnT.open_ {w : World} {B : Nat} {v : Value} {ts : List ByteArray} (h : OwnT w B v ts) :
    ∃ A c, v = .slice A ts.length c ∧ ts.length ≤ c ∧ c ≤ maxLen ∧ ∀ k, k < ts.length → ∃ g, A = some ⟨g, 0, none⟩ ∧ B ≤ g ∧ g < w.heap.size ∧ w.cell? ⟨g, k, none⟩ = some (.string (ts.getD k ByteArray.empty)) ∧ w.frozen? ⟨g, k, none⟩ = false := by
  rcases h.2 with ⟨rfl, h1⟩ | ⟨g, cap, cur, rfl, h2, h3, h4, h5, h6, h7⟩
  · refine ⟨none, 0, by rw [h1], by omega, by unfold maxLen; omega, fun k hk => by omega⟩
  · refine ⟨_, cap, rfl, h4, h5, fun k hk => ⟨g, rfl, h2, lt_of_block h3, ?_, ?_⟩⟩
    · have hx := World.ownsRow.cellAt (g := g) (cap := cap) h k (by omega)
      rw [hx, List.getElem?_map, List.getD_eq_getElem?_getD, List.getElem?_eq_getElem hk]
      rfl
    · exact World.ownsRow.frozenAt (g := g) (cap := cap) h k
theorem OwnT.nil_ (w : World) (B : Nat) : OwnT w B (.slice none 0 0) [] := World.ownsRow_nil _ _ _ _
theorem OwnT.lit0 (w : World) {B : Nat} (hB : B ≤ w.heap.size) : OwnT (w.alloc (.cells #[] 9)) B (.slice (some ⟨w.heap.size, 0, none⟩) 0 0) [] :=
  World.ownsRow_lit w #[] 0 hB (by unfold maxLen; omega) rfl
theorem OwnT.lit (w : World) (ts : List ByteArray) {B : Nat} (hB : B ≤ w.heap.size) (hl : ts.length ≤ maxLen) : OwnT (w.alloc (.cells (ts.map Value.string).toArray 9)) B (.slice (some ⟨w.heap.size, 0, none⟩) ts.length ts.length) ts := by
  have := World.ownsRow_lit (e := 9) (size := 1) w (ts.map Value.string).toArray ts.length hB hl (by simp)
  simpa [OwnT] using this
theorem OwnT.form {w : World} {B : Nat} {v : Value} {ts : List ByteArray} (h : OwnT w B v ts) : ∃ A c, v = .slice A ts.length c := by
  obtain ⟨A, c, h1, _⟩ := h.open_
  exact ⟨A, c, h1⟩
theorem OwnT.block_ge {w : World} {B g : Nat} {v : Value} {ts : List ByteArray} (h : OwnT w B v ts) (hg : v.ownBlock = some g) : B ≤ g ∧ g < w.heap.size := by
  rcases h.2 with ⟨rfl, _⟩ | ⟨g', cap, cur, rfl, h2, h3, _⟩
  · simp [Value.ownBlock] at hg
  · have : g' = g := by simpa [Value.ownBlock] using hg
    subst this
    exact ⟨h2, lt_of_block h3⟩
theorem OwnT.grown_below {w0 w w' : World} {B C : Nat} {v : Value} {ts : List ByteArray} (h : OwnT w B v ts) (hb : Below C w0 w) (hg : w.grownBy w' v.ownBlock) (hC : C ≤ B) (hC' : C ≤ w.heap.size) : Below C w0 w' :=
  hb.grown hg hC' fun k hk => by have := (h.block_ge hk).1; omega
theorem OwnT.of_block {w w' : World} {B : Nat} {v : Value} {ts : List ByteArray} (h : OwnT w B v ts) (hb : ∀ g, v.ownBlock = some g → w'.heap[g]? = w.heap[g]?) : OwnT w' B v ts := by
  rcases h.2 with h0 | ⟨g, cap, cur, h1, h2, h3, h4⟩
  · exact ⟨h.1, .inl h0⟩
  · exact ⟨h.1, .inr ⟨g, cap, cur, h1, h2, (hb g (by rw [h1]; rfl)).trans h3, h4⟩⟩
theorem T.infoStr : (Tryz.prog.info? 9).map (fun i => (i.zero, i.size, i.bytes)) = some (some (.string ByteArray.empty), 1, 16) := by kernel_rfl
/-- append of one text. -/
theorem appendT {W : World} {ops : Array Oper} {rest : List Oper} {o : Oper} {a : Act} {Q : Exit → Act → World → Prop} (s x : Operand) (B : Nat) (v : Value) (ts : List ByteArray) (y : ByteArray) (b : Nat)
    (hgd : o.guard = none) (ho : o.op = .call { callee := .builtin .append, args := #[s, x], argTypes := #[61, 61] })
    (hs : a.eval s = v) (hx : a.eval x = .slice (some ⟨b, 0, none⟩) 1 1) (hv : OwnT W B v ts) (hb : W.heap[b]? = some (.cells #[.string y] 9 (0, 0))) (hl : ts.length ≤ 1000000000000) (hB : B ≤ W.heap.size)
    (h : ∀ v' w', OwnT w' B v' (ts ++ [y]) → W.grownBy w' v.ownBlock → wpList Tryz.prog ops Q rest (a.put o.dst v') w') :
    wpList Tryz.prog ops Q (o :: rest) a W := by
  obtain ⟨i0, hi, hz0, hz1, hz2⟩ := info_parts T.infoStr
  refine wpList_append_own W hgd s x 61 ho B 9 i0 (.string ByteArray.empty) 1 16 Tryz.underlying61 hi hz0 hz1 hz2 rfl (by decide) v ts.length (ts.map Value.string) hs hv ⟨b, 0, none⟩ 1 1 [.string y] hx rfl (World.news_of_block (cs := #[.string y]) hb) (fun u hu => by simp at hu; subst hu; rfl) (by unfold maxLen; omega) (by omega) hB ?_
  intro v' w' h1 h2 _
  refine h v' w' ?_ h2
  unfold OwnT
  simpa using h1
theorem heap_own (w : World) (o : Obj) : (w.alloc o).heap[w.heap.size]? = some o := heap_alloc_new w o

/-! ### Texts: the plain laws -/
/-- The value of digits behind acc. -/
def numA (acc : Nat) (l : List UInt8) : Nat := l.foldl (fun n c => n * 10 + (c.toNat - 48)) acc
def digB (c : UInt8) : Bool := decide (48 ≤ c.toNat) && decide (c.toNat ≤ 57)
def Dig (l : List UInt8) : Prop := ∀ c ∈ l, digB c = true
theorem digB_true {c : UInt8} : digB c = true ↔ 48 ≤ c.toNat ∧ c.toNat ≤ 57 := by simp [digB]
theorem numA_cons (acc : Nat) (c : UInt8) (l : List UInt8) : numA acc (c :: l) = numA (acc * 10 + (c.toNat - 48)) l := by simp only [numA, List.foldl_cons]
theorem numA_snoc (acc : Nat) (l : List UInt8) (c : UInt8) : numA acc (l ++ [c]) = numA acc l * 10 + (c.toNat - 48) := by simp [numA]
theorem numA_lt (l : List UInt8) : ∀ (acc : Nat), Dig l → numA acc l < (acc + 1) * 10 ^ l.length := by
  induction l with
  | nil => intro acc _; simp [numA]
  | cons c l ih =>
    intro acc h
    have hc := digB_true.1 (h c (List.mem_cons_self ..))
    have ih := ih (acc * 10 + (c.toNat - 48)) fun d hd => h d (List.mem_cons_of_mem _ hd)
    rw [numA_cons, List.length_cons, Nat.pow_succ, Nat.mul_comm (10 ^ l.length), ← Nat.mul_assoc]
    exact Nat.lt_of_lt_of_le ih (Nat.mul_le_mul_right _ (by omega))
theorem head?_app {l r : List UInt8} (h : l ≠ []) : (l ++ r).head? = l.head? := by
  cases l with
  | nil => exact absurd rfl h
  | cons c l => rfl
theorem pow_le_nDigits : ∀ (k u : Nat), k + 2 ≤ Lib.nDigits u → 10 ^ (k + 1) ≤ u
  | k, u, hk => by
    by_cases hu : u < 10
    · rw [Lib.nDigits_small hu] at hk; omega
    · rw [Lib.nDigits_big hu] at hk
      cases k with
      | zero => simp; omega
      | succ k =>
        have := pow_le_nDigits k (u / 10) (by omega)
        rw [Nat.pow_succ]; omega
theorem numA_ge : ∀ (l : List UInt8) (acc : Nat), acc ≤ numA acc l
  | [], _ => Nat.le_refl _
  | c :: l, acc => by
    rw [numA_cons]
    have := numA_ge l (acc * 10 + (c.toNat - 48))
    omega
/-- l01Value: what it is of nine digits at most. -/
def valGo : Nat → List UInt8 → Int
  | n, [] => (n : Int)
  | n, c :: l => if digB c then valGo (n * 10 + (c.toNat - 48)) l else -1
def valL (s : List UInt8) : Int := if s = [] ∨ 9 < s.length ∨ (1 < s.length ∧ s.head? = some 48) then -1 else valGo 0 s
theorem valGo_dig : ∀ (l : List UInt8) (n : Nat), Dig l → valGo n l = (numA n l : Int)
  | [], _, _ => rfl
  | c :: l, n, h => by
    rw [valGo, if_pos (h c (by simp)), valGo_dig l _ fun d hd => h d (by simp [hd])]
    rfl
theorem valGo_not : ∀ (l : List UInt8) (n : Nat), ¬ Dig l → valGo n l = -1
  | [], _, h => absurd (fun c hc => by cases hc) h
  | c :: l, n, h => by
    rw [valGo]
    by_cases hc : digB c = true
    · rw [if_pos hc]
      refine valGo_not l _ fun hl => h fun d hd => ?_
      rcases List.mem_cons.1 hd with rfl | hd
      · exact hc
      · exact hl d hd
    · rw [if_neg hc]
theorem toNat_ofNat_small {k : Nat} (h : k < 256) : (UInt8.ofNat k).toNat = k := by simp; omega
theorem decDigits_dig (u : Nat) : Dig (Lib.decDigits u) := by
  induction u using Nat.strongRecOn with
  | _ u ih =>
    intro c hc
    rw [Lib.decDigits] at hc
    split at hc
    · rw [List.mem_singleton] at hc
      subst hc
      rw [digB_true, toNat_ofNat_small (by omega)]; omega
    · rcases List.mem_append.1 hc with h | h
      · exact ih _ (by omega) c h
      · rw [List.mem_singleton] at h
        subst h
        rw [digB_true, toNat_ofNat_small (by omega)]; omega
theorem numA_decDigits (u : Nat) : numA 0 (Lib.decDigits u) = u := by
  induction u using Nat.strongRecOn with
  | _ u ih =>
    rw [Lib.decDigits]
    split
    · rw [numA_cons, toNat_ofNat_small (by omega)]; simp [numA]
    · rw [numA_snoc, ih _ (by omega), toNat_ofNat_small (by omega)]; omega
theorem decDigits_ne (u : Nat) : Lib.decDigits u ≠ [] := by
  rw [Lib.decDigits]; split <;> simp
/-- No leading zero. -/
def NoLead (l : List UInt8) : Prop := 1 < l.length → l.head? ≠ some 48
theorem u8_eq {c : UInt8} {k : Nat} (h : c.toNat = k) : c = UInt8.ofNat k := by rw [← h]; exact (UInt8.ofNat_toNat).symm
theorem decDigits_lead (u : Nat) : NoLead (Lib.decDigits u) := by
  induction u using Nat.strongRecOn with
  | _ u ih =>
    rw [Lib.decDigits]
    split
    · intro h; simp at h
    · intro _
      have hne := decDigits_ne (u / 10)
      rw [head?_app hne]
      by_cases h1 : 1 < (Lib.decDigits (u / 10)).length
      · exact ih _ (by omega) h1
      · rw [Lib.decDigits]
        by_cases h2 : u / 10 < 10
        · rw [dif_pos h2]
          simp only [List.head?_cons]
          intro e
          have := congrArg (Option.map UInt8.toNat) e
          simp only [Option.map_some, Option.some.injEq] at this
          rw [toNat_ofNat_small (by omega)] at this
          have h48 : (48 : UInt8).toNat = 48 := rfl
          omega
        · exfalso
          rw [Lib.decDigits_length, Lib.nDigits_big h2] at h1
          have := Lib.nDigits_pos (u / 10 / 10)
          omega
theorem decDigits_num : ∀ (n : Nat) (l : List UInt8), l.length = n → l ≠ [] → Dig l → NoLead l → Lib.decDigits (numA 0 l) = l
  | 0, l, hn, hne, _, _ => absurd (List.eq_nil_of_length_eq_zero hn) hne
  | n + 1, l, hn, hne, hd, hl => by
    obtain ⟨l', c, rfl⟩ : ∃ l' c, l = l' ++ [c] := ⟨l.dropLast, l.getLast hne, (List.dropLast_concat_getLast hne).symm⟩
    have hc := digB_true.1 (hd c (by simp))
    have hc' : UInt8.ofNat (48 + (c.toNat - 48)) = c := by rw [show 48 + (c.toNat - 48) = c.toNat by omega]; exact UInt8.ofNat_toNat
    rw [numA_snoc]
    by_cases he : l' = []
    · subst he
      rw [Lib.decDigits, dif_pos (by simp [numA]; omega)]
      simp only [numA, List.foldl_nil, Nat.zero_mul, Nat.zero_add, List.nil_append, hc']
    · have hd' : Dig l' := fun d h => hd d (by simp [h])
      have hh : l'.head? ≠ some 48 := by
        have hpos := List.length_pos_iff.2 he
        have := hl (by simp; omega)
        rwa [head?_app he] at this
      have ih := decDigits_num n l' (by simp at hn; omega) he hd' fun _ => hh
      have hpos : 1 ≤ numA 0 l' := by
        obtain ⟨d, r, rfl⟩ := List.exists_cons_of_ne_nil he
        rw [numA_cons]
        have h1 := digB_true.1 (hd' d (by simp))
        have h2 : d.toNat ≠ 48 := fun e => hh (by simp [u8_eq e])
        have := numA_ge r (0 * 10 + (d.toNat - 48))
        omega
      rw [Lib.decDigits, dif_neg (by omega), show (numA 0 l' * 10 + (c.toNat - 48)) / 10 = numA 0 l' by omega, ih, show (numA 0 l' * 10 + (c.toNat - 48)) % 10 = c.toNat - 48 by omega, hc']
theorem parseUintM_dig (M : Nat) : ∀ (l : List UInt8) (acc : Nat), Dig l → numA acc l ≤ M → M < 18446744073709551616 → Lib.parseUintM M acc l = .ok (numA acc l)
  | [], _, _, _, _ => rfl
  | c :: l, acc, h, hM, hMM => by
    have hc := digB_true.1 (h c (by simp))
    have hge := numA_ge l (acc * 10 + (c.toNat - 48))
    rw [numA_cons] at hM
    rw [Lib.parseUintM, if_pos hc, if_neg (by omega), if_neg (by omega), parseUintM_dig M l _ (fun d hd => h d (by simp [hd])) hM hMM, numA_cons]
/-- readDecimal's number and whether it is one; the number is of no use where it is none. -/
def decOk (s : List UInt8) (v : Int) : Prop := s.length ≤ 15 ∧ Lib.parseIntB 64 s = .ok v ∧ Lib.itoa v = s
theorem itoa_nat (u : Nat) : Lib.itoa (u : Int) = Lib.decDigits u := Lib.itoa_nonneg u
theorem valL_of_decOk {s : List UInt8} {v : Int} (h : decOk s v) (h0 : 0 ≤ v) (h1 : v < 1000000000) : valL s = v := by
  obtain ⟨_, _, hs⟩ := h
  obtain ⟨u, rfl⟩ := Int.eq_ofNat_of_zero_le h0
  rw [itoa_nat] at hs
  subst hs
  have hlen : (Lib.decDigits u).length ≤ 9 := by
    rw [Lib.decDigits_length]
    rcases Nat.lt_or_ge 9 (Lib.nDigits u) with c | c
    · exfalso
      have h := pow_le_nDigits 8 u (by omega)
      have : (10 : Nat) ^ (8 + 1) = 1000000000 := by decide
      omega
    · exact c
  unfold valL
  rw [if_neg, valGo_dig _ _ (decDigits_dig u), numA_decDigits]
  rintro (h | h | h)
  · exact decDigits_ne u h
  · omega
  · exact decDigits_lead u h.1 h.2
theorem decOk_of_valL {s : List UInt8} {v : Int} (h : valL s = v) (h0 : 0 ≤ v) : decOk s v ∧ v < 1000000000 := by
  unfold valL at h
  split at h
  · omega
  · rename_i hc
    simp only [not_or, not_and] at hc
    obtain ⟨h1, h2, h3⟩ := hc
    by_cases hd : Dig s
    · rw [valGo_dig _ _ hd] at h
      have hlt := numA_lt s 0 hd
      have hp : 10 ^ s.length ≤ 10 ^ 9 := Nat.pow_le_pow_right (by omega) (by omega)
      have hp9 : (10 : Nat) ^ 9 = 1000000000 := by decide
      have hb : numA 0 s < 1000000000 := by omega
      subst h
      refine ⟨⟨by omega, ?_, ?_⟩, by omega⟩
      · cases s with
        | nil => exact absurd rfl h1
        | cons c r =>
          have hcd := digB_true.1 (hd c (by simp))
          have e := parseUintM_dig (2 ^ 64 - 1) (c :: r) 0 hd (by omega) (by omega)
          simp only [Lib.parseIntB, Lib.parseUintB]
          rw [if_neg (by omega : ¬ (c.toNat = 43 ∨ c.toNat = 45)), if_neg (by simp), e]
          simp only
          rw [if_neg (by omega), if_neg (by omega), if_neg (by omega)]
      · rw [itoa_nat]
        exact decDigits_num _ s rfl h1 hd h3
    · rw [valGo_not _ _ hd] at h; omega
/-! Parts between separators. -/
def spl (c : UInt8) : List UInt8 → List (List UInt8)
  | [] => [[]]
  | x :: r => if x = c then [] :: spl c r else match spl c r with
    | [] => [[x]]
    | h :: t => (x :: h) :: t
theorem spl_ne (c : UInt8) (l : List UInt8) : spl c l ≠ [] := by
  cases l with
  | nil => simp [spl]
  | cons x r =>
    rw [spl]
    split
    · simp
    · split <;> simp
theorem index_one_eq (c : UInt8) (l : List UInt8) : Lib.index (c :: l) [c] = 0 := by rw [Lib.index]; simp [List.isPrefixOf]
theorem index_one_ne (b c : UInt8) (l : List UInt8) (h : b ≠ c) : Lib.index (b :: l) [c] = if Lib.index l [c] == -1 then -1 else Lib.index l [c] + 1 := by
  have hp : ([c] : List UInt8).isPrefixOf (b :: l) = false := by simp [List.isPrefixOf, Ne.symm h]
  rw [Lib.index, hp]; simp
theorem splitK_spl (c : UInt8) : ∀ (l : List UInt8) (k : Nat), k = l.count c → Lib.splitK [c] 0 k l = spl c l
  | [], k, h => by simp at h; subst h; rfl
  | x :: r, k, h => by
    by_cases hx : x = c
    · subst hx
      rw [List.count_cons_self] at h
      subst h
      rw [Lib.splitK, index_one_eq, if_neg (by decide), spl, if_pos rfl]
      simp only [Int.toNat_zero, Nat.zero_add, Nat.add_zero, List.take_zero, List.length_singleton, List.drop_succ_cons, List.drop_zero]
      rw [splitK_spl x r _ rfl]
    · rw [List.count_cons_of_ne (by simpa using hx)] at h
      have ih := splitK_spl c r k h
      rw [spl, if_neg hx]
      cases k with
      | zero =>
        rw [Lib.splitK] at ih ⊢
        rw [← ih]
      | succ k =>
        rw [Lib.splitK] at ih ⊢
        rw [index_one_ne x c r hx]
        by_cases hm : Lib.index r [c] = -1
        · rw [hm] at ih ⊢
          simp only [beq_self_eq_true, if_true] at ih ⊢
          rw [← ih]
        · have hge := Lib.index_ge r [c]
          obtain ⟨i, hi⟩ : ∃ i : Nat, Lib.index r [c] = (i : Int) := ⟨(Lib.index r [c]).toNat, by omega⟩
          rw [hi] at ih ⊢
          have e1 : ((i : Int) == -1) = false := by first | (simp; done) | (simp; omega)
          have e2 : ((i : Int) + 1 == -1) = false := by first | (simp; done) | (simp; omega)
          simp only [e1, e2, Bool.false_eq_true, if_false] at ih ⊢
          rw [show ((i : Int) + 1).toNat = i + 1 by omega]
          rw [show (i : Int).toNat = i by omega] at ih
          simp only [Nat.add_zero, List.length_singleton, List.take_succ_cons, List.drop_succ_cons] at ih ⊢
          rw [← ih]
theorem split_spl (c : UInt8) (l : List UInt8) : Lib.split l [c] = spl c l := splitK_spl c l _ (Lib.count_one c l)

/-! ### l01Split -/
/-- A new list of texts is returned. -/
def NewT (w : World) (ws : List (List UInt8)) (e : Ending) (w' : World) : Prop :=
  ∃ A c ts, e = .returned (.slice A ts.length c) ∧ OwnT w' w.heap.size (.slice A ts.length c) ts ∧ Hid (ts.map (fun t : ByteArray => t.data.toList) = ws) ∧ Below w.heap.size w w'
def preP (p : List UInt8) : List (List UInt8) → List (List UInt8)
  | [] => [p]
  | h :: t => (p ++ h) :: t
theorem preP_nil {ws : List (List UInt8)} (h : ws ≠ []) : preP [] ws = ws := by
  cases ws with
  | nil => exact absurd rfl h
  | cons a t => rfl
theorem spl_cut {c x : UInt8} {l : List UInt8} {k a : Nat} (hk : k < l.length) (hx : l[k]? = some x) (ha : a ≤ k) :
    (x = c → preP ((l.take k).drop a) (spl c (l.drop k)) = (l.take k).drop a :: preP ((l.take (k + 1)).drop (k + 1)) (spl c (l.drop (k + 1)))) ∧
    (x ≠ c → preP ((l.take k).drop a) (spl c (l.drop k)) = preP ((l.take (k + 1)).drop a) (spl c (l.drop (k + 1)))) := by
  have e : l.drop k = x :: l.drop (k + 1) := by
    rw [List.drop_eq_getElem_cons hk]
    rw [List.getElem?_eq_getElem hk] at hx
    simp only [Option.some.injEq] at hx
    rw [hx]
  have e2 : l.take (k + 1) = l.take k ++ [x] := by
    rw [List.take_succ_eq_append_getElem hk]
    rw [List.getElem?_eq_getElem hk] at hx
    simp only [Option.some.injEq] at hx
    rw [hx]
  have hlen : (l.take k).length = k := by simp; omega
  constructor
  · intro h
    rw [e, spl, if_pos h]
    have : (l.take (k + 1)).drop (k + 1) = [] := by simp
    rw [this, preP_nil (spl_ne _ _)]
    simp [preP]
  · intro h
    rw [e, spl, if_neg h, e2, List.drop_append_of_le_length (by omega)]
    rcases hs : spl c (l.drop (k + 1)) with _ | ⟨b, t⟩
    · exact absurd hs (spl_ne _ _)
    · simp [preP]
set_option maxRecDepth 4000 in
theorem l01Split_any (w : World) (s : ByteArray) (b : Int) (c : UInt8) (hc : b = (c.toNat : Int)) (hs : s.size ≤ 4294967200) :
    Calls Tryz.prog 38 #[.string s, .int .u8 b] w (NewT w (spl c s.data.toList)) := by
  have HSZ := Lib.hid (Lib.size_eq s)
  have HC := Lib.hid hc
  clear hc
  go_enter Tryz.func38, Tryz.ntmps38
  go_wp2
  go_loopw [5, 6, 7] (fun r q i wr => ∃ (k a : Nat) (A : Option Addr) (cc : Nat) (ts : List ByteArray), k ≤ s.size ∧ a ≤ k ∧ i = .int .i64 k ∧ q = .int .i64 a ∧ r = .slice A ts.length cc ∧ ts.length ≤ k ∧ Hid (OwnT wr w.heap.size (.slice A ts.length cc) ts) ∧ Hid (ts.map (fun t : ByteArray => t.data.toList) ++ preP ((s.data.toList.take k).drop a) (spl c (s.data.toList.drop k)) = spl c s.data.toList) ∧ Hid (Below w.heap.size w wr)) (fun _ _ i _ => s.size - (intOf i).toNat)
  case atStart => exact ⟨0, 0, _, _, [], Nat.zero_le _, Nat.le_refl _, rfl, rfl, rfl, Nat.le_refl _, OwnT.lit0 w (Nat.le_refl _), by unfold Hid; simp [preP_nil (spl_ne _ _)], by unfold Hid; (repeat (first | assumption | exact Below.refl _ _ | refine Below.alloc ?_ (by first | omega | (simp; done) | (simp; omega)) _ | refine Below.setCell ?_ (by first | omega | (simp; done) | (simp; omega)) _ | refine below_drewN ?_ _))⟩
  case round =>
    obtain ⟨k, a, A, cc, ts, hk, ha, rfl, rfl, rfl, hl, ho, hp, hb⟩ := hrel
    have hz := hb.out.size
    by_cases hlt : k < s.size
    · have hk0 : (0 : Int) ≤ (k : Int) := by omega
      have hk1 : (k : Int) < (s.size : Int) := by omega
      have ha1 : (a : Int) ≤ (k : Int) := by omega
      have hlt2 : ((k : Int).toNat) < s.size := by omega
      have HX := Lib.hid (spl_cut (c := c) (by rw [← HSZ.out]; exact hlt) (Lib.data_getElem? s k hlt) ha)
      by_cases hx : s[k] = c
      · have hx1 : ((s[k].toNat : Nat) : Int) = b := by rw [hx, HC.out]
        have HX2 := Lib.hid (HX.out.1 hx)
        clear hx HX
        go_wp2_with (at_builtin; refine appendT _ _ w.heap.size (.slice A ts.length cc) ts (s.extract a k) wr.heap.size (by rfl) (by rfl) (by rfl) (by rfl) (ho.out.alloc _) (heap_own _ _) (by omega) (by simp; omega) ?_; intro v' w1 ho1 hg1; obtain ⟨A', c', e1⟩ := ho1.form; subst e1)
        go_roundw
        case rel =>
          refine ⟨k + 1, k + 1, A', c', ts ++ [s.extract a k], by omega, Nat.le_refl _, by go_num, by go_num, by simp, by simp; omega, ho1, ?_, ?_⟩
          · unfold Hid
            rw [List.map_append, List.append_assoc, ← hp.out, HX2.out]
            simp only [List.map_cons, List.map_nil, List.singleton_append, Lib.extract_data]
            rw [show (s.data.toList.take k).drop a = (s.data.toList.drop a).take (k - a) from List.drop_take ..]
          · exact (ho.out.alloc _).grown_below (hb.out.alloc hz _) hg1 (Nat.le_refl _) (by simp; omega)
        case measure => simp [intOf]; omega
      · have hx1 : (((s[k].toNat : Nat) : Int) == b) = false := by
          rw [beq_eq_false_iff_ne, HC.out]
          intro h
          exact hx (Lib.byte_eq_of_toNat h)
        have hx2 : ¬ ((s[k].toNat : Nat) : Int) = b := by simpa using hx1
        have HX2 := Lib.hid (HX.out.2 hx)
        clear hx HX
        go_wp2
        go_roundw
        case rel => exact ⟨k + 1, a, A, cc, ts, by omega, by omega, by go_num, rfl, rfl, by omega, ho, by unfold Hid; rw [← HX2.out]; exact hp.out, hb⟩
        case measure => simp [intOf]; omega
    · obtain rfl : k = s.size := by omega
      have hk0 : (0 : Int) ≤ (a : Int) := by omega
      have ha1 : (a : Int) ≤ (s.size : Int) := by omega
      go_wp2_with (at_builtin; refine appendT _ _ w.heap.size (.slice A ts.length cc) ts (s.extract a s.size) wr.heap.size (by rfl) (by rfl) (by rfl) (by rfl) (ho.out.alloc _) (heap_own _ _) (by omega) (by simp; omega) ?_; intro v' w1 ho1 hg1; obtain ⟨A', c', e1⟩ := ho1.form; subst e1)
      go_ret
      refine ⟨A', c', ts ++ [s.extract a s.size], by rw [List.length_append]; rfl, ho1, ?_, ?_⟩
      · unfold Hid
        rw [List.map_append, ← hp.out]
        simp only [List.map_cons, List.map_nil, Lib.extract_to_end]
        have e : s.data.toList.drop s.size = [] := by rw [HSZ.out]; simp
        have e2 : s.data.toList.take s.size = s.data.toList := List.take_of_length_le (by rw [HSZ.out]; exact Nat.le_refl _)
        rw [e, e2]
        simp [spl, preP]
      · exact (ho.out.alloc _).grown_below (hb.out.alloc hz _) hg1 (Nat.le_refl _) (by simp; omega)
/-! ### l01Value -/
theorem valGo_step {l : List UInt8} {k n : Nat} {x : UInt8} (hk : k < l.length) (hx : l[k]? = some x) :
    valGo n (l.drop k) = if digB x then valGo (n * 10 + (x.toNat - 48)) (l.drop (k + 1)) else -1 := by
  have e : l.drop k = x :: l.drop (k + 1) := by
    rw [List.drop_eq_getElem_cons hk]
    rw [List.getElem?_eq_getElem hk] at hx
    simp only [Option.some.injEq] at hx
    rw [hx]
  rw [e, valGo]
theorem pow10_le {k : Nat} (h : k ≤ 9) : 10 ^ k ≤ 1000000000 := Nat.pow_le_pow_right (n := 10) (by omega) h
theorem valL_bad {s : List UInt8} (h : s = [] ∨ 9 < s.length ∨ (1 < s.length ∧ s.head? = some 48)) : valL s = -1 := by unfold valL; rw [if_pos h]
theorem valL_go {s : List UInt8} (h : ¬ (s = [] ∨ 9 < s.length ∨ (1 < s.length ∧ s.head? = some 48))) : valL s = valGo 0 s := by unfold valL; rw [if_neg h]
set_option maxRecDepth 4000 in
theorem l01Value_any (w : World) (s : ByteArray) (hs : s.size ≤ 4294967200) :
    Calls Tryz.prog 40 #[.string s] w fun e w' => e = .returned (.int .i64 (valL s.data.toList)) ∧ ∃ n, w' = w.drewN n := by
  have HSZ := Lib.hid (Lib.size_eq s)
  by_cases h0 : s.size = 0
  · have g0 : ((s.size : Int) == 0) = true := by simpa using h0
    have HF : Hid (valL s.data.toList = -1) := valL_bad (.inl (List.eq_nil_of_length_eq_zero (by rw [← HSZ.out]; exact h0)))
    clear h0
    go_enter Tryz.func40, Tryz.ntmps40
    go_wp2
    go_ret
    exact ⟨by rw [HF.out]; rfl, 0, rfl⟩
  have g0 : ((s.size : Int) == 0) = false := by simpa using h0
  by_cases h9 : 9 < s.size
  · have g9 : (9 : Int) < (s.size : Int) := by omega
    have HF : Hid (valL s.data.toList = -1) := valL_bad (.inr (.inl (by rw [← HSZ.out]; exact h9)))
    clear h0 h9
    go_enter Tryz.func40, Tryz.ntmps40
    go_wp2
    go_ret
    exact ⟨by rw [HF.out]; rfl, 0, rfl⟩
  have g9 : ¬ (9 : Int) < (s.size : Int) := by omega
  have hsz0 : 0 < s.size := by omega
  have hhead : s.data.toList.head? = some s[0] := by have := Lib.data_getElem? s 0 hsz0; rw [List.head?_eq_getElem?]; exact this
  have g2 : (0 : Int) ≤ 0 ∧ (0 : Int) < (s.size : Int) := by omega
  have g3 : (0 : Int).toNat < s.size := by simp; omega
  have main : Hid (valL s.data.toList = valGo 0 s.data.toList) → ((1 < s.size) → ((((s[0].toNat : Nat) : Int) == 48) = false)) → Calls Tryz.prog 40 #[.string s] w fun e w' => e = .returned (.int .i64 (valL s.data.toList)) ∧ ∃ n, w' = w.drewN n := by
    intro HV hd
    have loop : True := trivial
    by_cases h1 : 1 < s.size
    all_goals
      first
        | (have g1 : (1 : Int) < (s.size : Int) := by omega)
        | (have g1 : ¬ (1 : Int) < (s.size : Int) := by omega)
      try (replace hd := hd h1)
      clear hhead h1
      go_enter Tryz.func40, Tryz.ntmps40
      go_wp2
      go_loopw [3, 4] (fun q i wr => ∃ k n : Nat, k ≤ s.size ∧ i = .int .i64 k ∧ q = .int .i64 n ∧ Hid (n < 10 ^ k) ∧ Hid (valL s.data.toList = valGo n (s.data.toList.drop k)) ∧ ∃ d, wr = w.drewN d) (fun _ i _ => s.size - (intOf i).toNat)
      case atStart => exact ⟨0, 0, Nat.zero_le _, rfl, rfl, by unfold Hid; omega, by rw [List.drop_zero]; exact HV, 0, rfl⟩
      case round =>
        obtain ⟨k, n, hk, rfl, rfl, hn, hp, d, rfl⟩ := hrel
        by_cases hlt : k < s.size
        · have hk0 : (0 : Int) ≤ (k : Int) := by omega
          have hk1 : (k : Int) < (s.size : Int) := by omega
          have hlt2 : ((k : Int).toNat) < s.size := by omega
          have hb10 : n < 100000000 := Nat.lt_of_lt_of_le hn.out (Nat.pow_le_pow_right (n := 10) (i := k) (j := 8) (by omega) (by omega))
          have HX := Lib.hid (valGo_step (n := n) (by rw [← HSZ.out]; exact hlt) (Lib.data_getElem? s k hlt))
          by_cases hx : digB s[k] = true
          · have hx1 := digB_true.1 hx
            have HX2 : Hid (valL s.data.toList = valGo (n * 10 + (s[k].toNat - 48)) (s.data.toList.drop (k + 1))) := by
              unfold Hid; rw [hp.out, HX.out, if_pos hx]
            have HN : Hid (n * 10 + (s[k].toNat - 48) < 10 ^ (k + 1)) := by
              have := hn.out
              unfold Hid; rw [Nat.pow_succ]; omega
            clear hx HX hp hn
            generalize hxx : s[k].toNat = x at *
            go_wp2
            go_roundw
            case rel => exact ⟨k + 1, n * 10 + (x - 48), by omega, by go_num, by first | go_num | (congr 1; omega), HN, HX2, _, rfl⟩
            case measure => simp [intOf]; omega
          · have HF : Hid (valL s.data.toList = -1) := by unfold Hid; rw [hp.out, HX.out, if_neg hx]
            have hx1 : s[k].toNat < 48 ∨ 57 < s[k].toNat := by
              rw [digB_true] at hx; omega
            clear hx HX hp hn
            generalize hxx : s[k].toNat = x at *
            rcases hx1 with hx1 | hx1
            all_goals
              have hx2 : (x : Int) < 48 ∨ ¬ (x : Int) < 48 := by omega
              go_wp2
              go_ret
              exact ⟨by rw [HF.out]; rfl, _, rfl⟩
        · obtain rfl : k = s.size := by omega
          have HF : Hid (valL s.data.toList = (n : Int)) := by
            unfold Hid; rw [hp.out, List.drop_of_length_le (by rw [← HSZ.out]; exact Nat.le_refl _)]; rfl
          go_wp2
          go_ret
          exact ⟨by rw [HF.out]; rfl, _, rfl⟩
  by_cases h1 : 1 < s.size ∧ s[0].toNat = 48
  · obtain ⟨h1, h2⟩ := h1
    have g1 : (1 : Int) < (s.size : Int) := by omega
    have hd : ((((s[0].toNat : Nat) : Int) == 48) = true) := by rw [h2]; rfl
    have HF : Hid (valL s.data.toList = -1) := valL_bad (.inr (.inr ⟨by rw [← HSZ.out]; exact h1, by rw [hhead]; congr 1; exact u8_eq h2⟩))
    clear main hhead
    go_enter Tryz.func40, Tryz.ntmps40
    go_wp2
    go_ret
    exact ⟨by rw [HF.out]; rfl, 0, rfl⟩
  · refine main (valL_go ?_) fun h => ?_
    · rintro (h | h | ⟨h, h'⟩)
      · apply h0; rw [HSZ.out, h]; rfl
      · apply h9; rw [HSZ.out]; exact h
      · apply h1
        refine ⟨by rw [HSZ.out]; exact h, ?_⟩
        rw [hhead] at h'
        simp only [Option.some.injEq] at h'
        rw [h']; rfl
    · rw [beq_eq_false_iff_ne]
      intro e
      exact h1 ⟨h, by omega⟩

/-! ### l02Read -/
theorem spl_len (c : UInt8) : ∀ l : List UInt8, (spl c l).length ≤ l.length + 1
  | [] => by simp [spl]
  | x :: r => by
    have ih := spl_len c r
    rw [spl]
    split
    · simp; omega
    · split
      · simp
      · rename_i h t e; rw [e] at ih; simp at ih ⊢; omega
theorem spl_piece (c : UInt8) : ∀ l : List UInt8, ∀ p ∈ spl c l, p.length ≤ l.length
  | [], p, hp => by simp [spl] at hp; simp [hp]
  | x :: r, p, hp => by
    have ih := spl_piece c r
    rw [spl] at hp
    split at hp
    · rcases List.mem_cons.1 hp with e | e
      · rw [e]; simp
      · have := ih p e; simp; omega
    · split at hp
      · simp at hp; simp [hp]
      · rename_i h t e
        rcases List.mem_cons.1 hp with e2 | e2
        · have := ih h (by rw [e]; simp)
          rw [e2]; simp; exact this
        · have := ih p (by rw [e]; simp [e2])
          simp; omega
theorem datas_size {ts : List ByteArray} {ws : List (List UInt8)} {n : Nat} (h : ts.map (fun t : ByteArray => t.data.toList) = ws) (hw : ∀ p ∈ ws, p.length ≤ n) (k : Nat) : (ts.getD k ByteArray.empty).size ≤ n := by
  rw [List.getD_eq_getElem?_getD]
  cases hk : ts[k]? with
  | none => simp
  | some t =>
    simp only [Option.getD_some]
    rw [Lib.size_eq]
    exact hw _ (by rw [← h]; exact List.mem_map.2 ⟨t, List.mem_of_getElem? hk, rfl⟩)
theorem datas_getD {ts : List ByteArray} {ws : List (List UInt8)} (h : ts.map (fun t : ByteArray => t.data.toList) = ws) {k : Nat} (hk : k < ts.length) : ws[k]? = some (ts.getD k ByteArray.empty).data.toList := by
  rw [← h, List.getElem?_map, List.getD_eq_getElem?_getD, List.getElem?_eq_getElem hk]
  rfl
theorem map_take_succ {α β : Type} (f : α → β) (l : List α) (k : Nat) {x : α} (h : l[k]? = some x) : (l.take (k + 1)).map f = (l.take k).map f ++ [f x] := by
  have hk : k < l.length := (List.getElem?_eq_some_iff.1 h).1
  rw [List.getElem?_eq_getElem hk] at h
  simp only [Option.some.injEq] at h
  rw [List.take_succ_eq_append_getElem hk, List.map_append, h]
  rfl
set_option maxRecDepth 4000 in
theorem l02Read_any (w : World) (s : ByteArray) (hs : s.size ≤ 4294967200) :
    Calls Tryz.prog 41 #[.string s] w (NewI w ((spl 44 s.data.toList).map valL)) := by
  go_enter Tryz.func41, Tryz.ntmps41
  go_wp2_with (go_at_call 38; refine (l01Split_any _ s _ 44 (by rfl) hs).mono ?_; rintro e w1 ⟨A, c, ts, rfl, ho, ht, hb1⟩)
  have hz1 := hb1.size
  obtain ⟨A', c', e0, hc1, hc2, hA⟩ := ho.open_
  simp only [Value.slice.injEq, true_and] at e0
  obtain ⟨rfl, rfl⟩ := e0
  unfold maxLen at hc2
  have HL : Hid (ts.length ≤ 4294967201) := by
    have := spl_len 44 s.data.toList
    rw [← ht.out, List.length_map, ← Lib.size_eq] at this
    unfold Hid; omega
  have hl := HL.out
  have HSZ : Hid (∀ k, (ts.getD k ByteArray.empty).size ≤ 4294967200) := fun k => Nat.le_trans (datas_size ht.out (spl_piece 44 s.data.toList) k) (by rw [← Lib.size_eq]; exact hs)
  obtain ⟨ws, HW⟩ : ∃ ws, Hid (spl 44 s.data.toList = ws) := ⟨_, rfl⟩
  have HT : Hid (ts.map (fun t : ByteArray => t.data.toList) = ws) := ht.out.trans HW.out
  have HWL : Hid (ws.length = ts.length) := by unfold Hid; rw [← HT.out, List.length_map]
  rw [HW.out]
  clear ht
  have HB1 := Lib.hid hb1
  clear hb1 ho
  go_loopw [4, 5] (fun r i wr => ∃ k g cc : Nat, k ≤ ts.length ∧ i = .int .i64 k ∧ r = .slice (some ⟨g, 0, none⟩) k cc ∧ w1.heap.size ≤ g ∧ Hid (RowI wr g cc ((ws.take k).map valL)) ∧ Hid (Below w1.heap.size w1 wr)) (fun _ i _ => ts.length - (intOf i).toNat)
  case atStart => exact ⟨0, w1.heap.size, 0, Nat.zero_le _, rfl, rfl, Nat.le_refl _, RowI.lit w1 [] #[] rfl (by simp), by unfold Hid; (repeat (first | assumption | exact Below.refl _ _ | refine Below.alloc ?_ (by first | omega | (simp; done) | (simp; omega)) _ | refine Below.setCell ?_ (by first | omega | (simp; done) | (simp; omega)) _ | refine below_drewN ?_ _))⟩
  case round =>
    obtain ⟨k, g, cc, hk, rfl, rfl, hg, hrow, hb⟩ := hrel
    have hz := hb.out.size
    have hglt := hrow.out.lt
    by_cases hlt : k < ts.length
    · obtain ⟨b, rfl, hb1, hb2, hcell, hfr⟩ := hA k hlt
      clear hA
      have hcell' : wr.cell? ⟨b, k, none⟩ = some (.string (ts.getD k ByteArray.empty)) := (hb.out.cell (p := ⟨b, k, none⟩) hb2).trans hcell
      clear hcell hfr
      have hnk := HSZ.out k
      have HS := Lib.hid (map_take_succ valL ws k (datas_getD HT.out hlt))
      have HL2 : Hid (((ws.take k).map valL).length = k) := by unfold Hid; rw [List.length_map, List.length_take, HWL.out]; omega
      generalize ts.getD k ByteArray.empty = x at *
      have hk0 : (0 : Int) ≤ (k : Int) := by omega
      have hk1 : (k : Int) < (ts.length : Int) := by omega
      go_wp2_with (first | (go_at_call 40; refine (l01Value_any _ x hnk).mono ?_; rintro e w2 ⟨rfl, n, rfl⟩) | (at_builtin; refine wpAppend1 _ _ w1.heap.size (.slice (some ⟨g, 0, none⟩) k cc) ((ws.take k).map valL) k (valL x.data.toList) wr.heap.size (wr.heap.size + 1) (by rfl) (by rfl) (by rfl) (by rfl) (((hrow.out.drewN _).alloc _).own' hg HL2.out) HL2.out (RowI.block1 _) (by omega) (by simp; omega) (by simp) ?_; intro gg cap w3 hown1 hge hgrow hat))
      go_roundw
      case rel =>
        refine ⟨k + 1, gg, cap, by omega, by go_num, rfl, hge, by unfold Hid; rw [HS.out]; exact hown1, ?_⟩
        refine Below.grown ((below_drewN hb.out n).alloc (by simpa using hz) _) hgrow (by simp; omega) fun b hb => ?_
        simp [Value.ownBlock] at hb
        omega
      case measure => simp [intOf]; omega
    · obtain rfl : k = ts.length := by omega
      have hrow' : Hid (RowI wr g cc (ws.map valL)) := by
        have := hrow.out
        rwa [List.take_of_length_le (by rw [HWL.out]; exact Nat.le_refl _)] at this
      have hly : Hid ((ws.map valL).length = ts.length) := by unfold Hid; rw [List.length_map, HWL.out]
      go_wp2
      go_ret
      rw [← HW.out] at hrow' hly
      exact ⟨_, _, by rw [hly.out]; rfl, (hrow'.out.own hg).mono hz1, HB1.out.trans (hb.out.mono hz1)⟩

/-! ### Parsing: the program's way and the reference's -/
def decB (s : List UInt8) : Bool := decide (s.length ≤ 15) && (match Lib.parseIntB 64 s with | .ok v => Lib.itoa v == s | _ => false)
def decN (s : List UInt8) : Int := if 15 < s.length then 0 else match Lib.parseIntB 64 s with | .ok v => v | .range => Lib.intSat 64 s | _ => 0
theorem decB_true {s : List UInt8} : decB s = true ↔ decOk s (decN s) := by
  unfold decB decOk decN
  constructor
  · intro h
    rw [Bool.and_eq_true, decide_eq_true_eq] at h
    obtain ⟨h1, h2⟩ := h
    rw [if_neg (by omega)]
    cases hp : Lib.parseIntB 64 s
    · rw [hp] at h2; exact ⟨h1, rfl, by simpa using h2⟩
    · rw [hp] at h2; cases h2
    · rw [hp] at h2; cases h2
  · rintro ⟨h1, h2, h3⟩
    rw [if_neg (by omega)] at h2 h3
    rw [Bool.and_eq_true, decide_eq_true_eq]
    refine ⟨h1, ?_⟩
    cases hp : Lib.parseIntB 64 s
    · rw [hp] at h3; simpa using h3
    · rw [hp] at h2; cases h2
    · rw [hp] at h2; cases h2
theorem decOk_dec {s : List UInt8} {v : Int} (h : decOk s v) : decB s = true ∧ decN s = v := by
  have e : decN s = v := by
    unfold decN
    rw [if_neg (by have := h.1; omega), h.2.1]
  exact ⟨decB_true.2 (by rw [e]; exact h), e⟩
theorem dec_val {s : List UInt8} (hb : decB s = true) (h0 : 0 ≤ decN s) (h1 : decN s < 1000000000) : valL s = decN s := valL_of_decOk (decB_true.1 hb) h0 h1
theorem val_dec {s : List UInt8} (h0 : 0 ≤ valL s) : decB s = true ∧ decN s = valL s := decOk_dec (decOk_of_valL rfl h0).1
theorem decB_chars {s : List UInt8} (h : decB s = true) : ∀ c ∈ s, digB c = true ∨ c = 45 := by
  have e := (decB_true.1 h).2.2
  intro c hc
  rw [← e] at hc
  unfold Lib.itoa at hc
  split at hc
  · rcases List.mem_cons.1 hc with e | e
    · exact .inr e
    · exact .inl (decDigits_dig _ c e)
  · exact .inl (decDigits_dig _ c hc)
theorem decB_not {s : List UInt8} {c : UInt8} (hc : c ∈ s) (h1 : digB c = false) (h2 : c ≠ 45) : decB s = false := by
  cases h : decB s with
  | false => rfl
  | true =>
    rcases decB_chars h c hc with e | e
    · rw [h1] at e; cases e
    · exact absurd e h2
theorem spl_not_mem {c : UInt8} : ∀ {l : List UInt8}, c ∉ l → spl c l = [l]
  | [], _ => rfl
  | x :: r, h => by
    have h1 : ¬ x = c := fun e => h (by simp [e])
    rw [spl, if_neg h1, spl_not_mem fun hm => h (by simp [hm])]
theorem spl_first {c : UInt8} : ∀ {l : List UInt8}, c ∈ l → ∃ a b, l = a ++ c :: b ∧ c ∉ a ∧ spl c l = a :: spl c b ∧ Lib.cut l [c] = (a, b, true)
  | [], h => by cases h
  | x :: r, h => by
    by_cases hx : x = c
    · subst hx
      refine ⟨[], r, rfl, by simp, by rw [spl, if_pos rfl], ?_⟩
      unfold Lib.cut
      rw [index_one_eq]
      simp
    · have hr : c ∈ r := by
        rcases List.mem_cons.1 h with e | e
        · exact absurd e.symm hx
        · exact e
      obtain ⟨a, b, h1, h2, h3, h4⟩ := spl_first hr
      refine ⟨x :: a, b, by rw [h1]; rfl, by simp [h2, Ne.symm hx], by rw [spl, if_neg hx, h3], ?_⟩
      unfold Lib.cut at h4 ⊢
      rw [index_one_ne x c r hx]
      split at h4
      · rename_i hi
        obtain ⟨i, hi'⟩ := Int.eq_ofNat_of_zero_le hi
        rw [hi'] at h4 ⊢
        have e2 : (((i : Nat) : Int) == -1) = false := by first | (simp; done) | (simp; omega)
        simp only [e2, Bool.false_eq_true, if_false]
        rw [if_pos (by omega)]
        simp only [Int.toNat_natCast, Prod.mk.injEq] at h4
        rw [show ((i : Int) + 1).toNat = i + 1 by omega, List.take_succ_cons, h4.1, show i + 1 + [c].length = (i + [c].length) + 1 by simp, List.drop_succ_cons, h4.2.1]
      · simp at h4
theorem cut_not_mem {c : UInt8} : ∀ {l : List UInt8}, c ∉ l → Lib.cut l [c] = (l, [], false)
  | l, h => by
    have : Lib.index l [c] = -1 := by
      induction l with
      | nil => rfl
      | cons x r ih =>
        have h1 : ¬ x = c := fun e => h (by simp [e])
        rw [index_one_ne x c r h1, ih fun hm => h (by simp [hm])]
        rfl
    unfold Lib.cut
    rw [this, if_neg (by decide)]
theorem spl_mem {c d : UInt8} (hd : d ≠ c) : ∀ {l : List UInt8}, d ∈ l → ∃ w ∈ spl c l, d ∈ w
  | [], h => by cases h
  | x :: r, h => by
    rw [spl]
    by_cases hx : x = c
    · rw [if_pos hx]
      rcases List.mem_cons.1 h with e | e
      · exact absurd (e.trans hx) hd
      · obtain ⟨w, hw, hdw⟩ := spl_mem hd e
        exact ⟨w, by simp [hw], hdw⟩
    · rw [if_neg hx]
      rcases hs : spl c r with _ | ⟨a, t⟩
      · exact absurd hs (spl_ne c r)
      · rcases List.mem_cons.1 h with e | e
        · exact ⟨x :: a, by simp, by simp [e]⟩
        · obtain ⟨w, hw, hdw⟩ := spl_mem hd e
          rw [hs] at hw
          rcases List.mem_cons.1 hw with e2 | e2
          · subst e2; exact ⟨x :: w, by simp, by simp [hdw]⟩
          · exact ⟨w, by simp [e2], hdw⟩
theorem joinTail_cons (sep : List UInt8) (x : List UInt8) (r : List (List UInt8)) : sep.intercalate (x :: r) = x ++ Lib.joinTail sep r := by
  induction r generalizing x with
  | nil => simp [List.intercalate, Lib.joinTail]
  | cons y r ih =>
    have := ih y
    simp only [List.intercalate, List.intersperse, List.flatten_cons] at this ⊢
    rw [this]
    simp [Lib.joinTail]
theorem join_spl (c : UInt8) : ∀ l : List UInt8, Lib.join (spl c l) [c] = l
  | [] => by simp [spl, Lib.join]
  | x :: r => by
    have ih := join_spl c r
    unfold Lib.join at ih ⊢
    rw [spl]
    rcases hs : spl c r with _ | ⟨a, t⟩
    · exact absurd hs (spl_ne c r)
    · rw [hs, joinTail_cons] at ih
      by_cases hx : x = c
      · rw [if_pos hx, joinTail_cons]
        simp only [Lib.joinTail, List.map_cons, List.flatten_cons, List.nil_append] at ih ⊢
        rw [List.append_assoc, ih, hx]; rfl
      · rw [if_neg hx]
        simp only
        rw [joinTail_cons, List.cons_append, ih]
theorem spl_app {c : UInt8} : ∀ {a : List UInt8}, c ∉ a → ∀ b, spl c (a ++ c :: b) = a :: spl c b
  | [], _, b => by rw [List.nil_append, spl, if_pos rfl]
  | x :: a, h, b => by
    have h1 : ¬ x = c := fun e => h (by simp [e])
    rw [List.cons_append, spl, if_neg h1, spl_app (fun hm => h (by simp [hm])) b]
theorem spl_join {c : UInt8} : ∀ {ws : List (List UInt8)}, ws ≠ [] → (∀ w ∈ ws, c ∉ w) → spl c (Lib.join ws [c]) = ws
  | [], h, _ => absurd rfl h
  | [w], _, h => by
    unfold Lib.join
    rw [joinTail_cons]
    simp only [Lib.joinTail, List.map_nil, List.flatten_nil, List.append_nil]
    exact spl_not_mem (h w (by simp))
  | w :: v :: r, _, h => by
    have ih := spl_join (c := c) (ws := v :: r) (by simp) fun u hu => h u (by simp at hu ⊢; exact .inr hu)
    unfold Lib.join at ih ⊢
    rw [joinTail_cons] at ih ⊢
    simp only [Lib.joinTail, List.map_cons, List.flatten_cons] at ih ⊢
    rw [List.append_assoc, List.singleton_append, spl_app (h w (by simp)), ih]
/-! Series. -/
def sylR : (Int × List Int) × Int := ((0, []), 6)
def ParseSeriesR (t : List UInt8) : (Int × List Int) × Int :=
  match spl 58 t with
  | [a, b] => if isSer (valL a) ((spl 44 b).map valL) = true then ((valL a, (spl 44 b).map valL), 0) else ((0, []), 6)
  | _ => ((0, []), 6)
def parseS (t : List UInt8) : (Int × List Int) × Int :=
  if decB (Lib.cut t [58]).1 = true then (if (spl 44 (Lib.cut t [58]).2.1).all decB = true then (if isSer (decN (Lib.cut t [58]).1) ((spl 44 (Lib.cut t [58]).2.1).map decN) = true then ((decN (Lib.cut t [58]).1, (spl 44 (Lib.cut t [58]).2.1).map decN), 0) else ((0, []), 6)) else ((0, []), 6)) else ((0, []), 6)
theorem map_congr' {f g : List UInt8 → Int} {ws : List (List UInt8)} (h : ∀ w ∈ ws, f w = g w) : ws.map f = ws.map g := List.map_congr_left h
theorem numsB_mem {m : Int} {xs : List Int} (h : numsB m xs = true) : ∀ x ∈ xs, 0 ≤ x ∧ x < m := fun x hx => isNumB_true (by unfold numsB at h; rw [List.all_eq_true] at h; exact h x hx)
theorem words_dec {m : Int} {ws : List (List UInt8)} (hm : m ≤ 10000) (hb : ws.all decB = true) (hn : numsB m (ws.map decN) = true) : ws.map decN = ws.map valL := by
  rw [List.all_eq_true] at hb
  refine map_congr' fun w hw => ?_
  have := numsB_mem hn (decN w) (List.mem_map.2 ⟨w, hw, rfl⟩)
  exact (dec_val (hb w hw) this.1 (by omega)).symm
theorem words_val {m : Int} {ws : List (List UInt8)} (hn : numsB m (ws.map valL) = true) : ws.all decB = true ∧ ws.map decN = ws.map valL := by
  have h : ∀ w ∈ ws, decB w = true ∧ decN w = valL w := fun w hw => val_dec (numsB_mem hn (valL w) (List.mem_map.2 ⟨w, hw, rfl⟩)).1
  exact ⟨List.all_eq_true.2 fun w hw => (h w hw).1, map_congr' fun w hw => (h w hw).2⟩
theorem parse_halves (t : List UInt8) : (∃ a b, spl 58 t = [a, b] ∧ Lib.cut t [58] = (a, b, true)) ∨ ((∀ a b, spl 58 t ≠ [a, b]) ∧ ((Lib.cut t [58]).2.1 = [] ∨ (58 : UInt8) ∈ (Lib.cut t [58]).2.1)) := by
  by_cases h : (58 : UInt8) ∈ t
  · obtain ⟨a, b, h1, h2, h3, h4⟩ := spl_first h
    by_cases hb : (58 : UInt8) ∈ b
    · right
      obtain ⟨c, d, _, _, h7, _⟩ := spl_first hb
      refine ⟨fun x y e => ?_, .inr (by rw [h4]; exact hb)⟩
      rw [h3, h7] at e
      simp only [List.cons.injEq] at e
      exact spl_ne 58 d e.2.2
    · left
      exact ⟨a, b, by rw [h3, spl_not_mem hb], h4⟩
  · right
    refine ⟨fun a b e => ?_, .inl (by rw [cut_not_mem h])⟩
    rw [spl_not_mem h] at e
    simp at e
theorem decB_nil : decB [] = false := by simp [decB, Lib.parseIntB]
theorem parseS_eq (t : List UInt8) : parseS t = ParseSeriesR t := by
  unfold parseS ParseSeriesR
  rcases parse_halves t with ⟨a, b, h1, h2⟩ | ⟨h1, h2⟩
  · rw [h1, h2]
    simp only
    by_cases hs : isSer (valL a) ((spl 44 b).map valL) = true
    · rw [if_pos hs]
      have hs' := isSer_true hs
      have hm := isModB_true hs'.1
      have ha := val_dec (s := a) (by omega)
      have hw := words_val hs'.2.2
      rw [if_pos ha.1, if_pos hw.1, ha.2, hw.2, if_pos hs]
    · rw [if_neg hs]
      by_cases ha : decB a = true
      · rw [if_pos ha]
        by_cases hw : (spl 44 b).all decB = true
        · rw [if_pos hw]
          by_cases hs2 : isSer (decN a) ((spl 44 b).map decN) = true
          · exfalso
            have hs' := isSer_true hs2
            have hm := isModB_true hs'.1
            apply hs
            rw [dec_val ha (by omega) (by omega), ← words_dec hm.2 hw hs'.2.2]
            exact hs2
          · rw [if_neg hs2]
        · rw [if_neg hw]
      · rw [if_neg ha]
  · have hf : (spl 44 (Lib.cut t [58]).2.1).all decB = false := by
      rcases h2 with e | e
      · rw [e]; simp [spl, decB_nil]
      · obtain ⟨w, hw, hc⟩ := spl_mem (c := 44) (by decide) e
        rw [List.all_eq_false]
        exact ⟨w, hw, by rw [decB_not hc (by decide) (by decide)]; simp⟩
    rw [hf]
    have : (match spl 58 t with
      | [a, b] => if isSer (valL a) ((spl 44 b).map valL) = true then ((valL a, (spl 44 b).map valL), (0 : Int)) else ((0, []), 6)
      | _ => ((0, []), 6)) = (((0 : Int), []), 6) := by
      split
      · rename_i a b e; exact absurd e (h1 a b)
      · rfl
    rw [this]
    split <;> rfl

/-! ### ParseSeries of the reference -/
theorem psR_not {t : List UInt8} (h : (spl 58 t).length ≠ 2) : ParseSeriesR t = ((0, []), 6) := by
  unfold ParseSeriesR
  split
  · rename_i a b e; rw [e] at h; simp at h
  · rfl
theorem psR_two {t a b : List UInt8} (h : spl 58 t = [a, b]) : ParseSeriesR t = if isSer (valL a) ((spl 44 b).map valL) = true then ((valL a, (spl 44 b).map valL), 0) else ((0, []), 6) := by
  unfold ParseSeriesR
  rw [h]
theorem below_of_drewN {w w' : World} (h : ∃ n, w' = w.drewN n) : Below w.heap.size w w' := by
  obtain ⟨n, rfl⟩ := h
  exact below_drewN (Below.refl _ _) _
theorem Bf.put2 {w : World} {b : Nat} {x y x' y' : Value} (h : Bf w b x y) : Bf ((w.setCell ⟨b, 0, none⟩ x').setCell ⟨b, 1, none⟩ y') b x' y' := by
  obtain ⟨⟨h1, h2, h3⟩, h4, h5⟩ := h
  have h3' : (w.setCell ⟨b, 0, none⟩ x').cell? ⟨b, 1, none⟩ = some y := (World.cell?_setCell_other _ _ _ _ (by simp)).trans h3
  refine ⟨⟨by simpa [World.setCell] using h1, (World.cell?_setCell_other _ _ _ _ (by simp)).trans (World.cell?_setCell_same _ _ _ h2), World.cell?_setCell_same _ _ _ h3'⟩, by simp [h4], by simp [h5]⟩
theorem cellUp {W : World} {o : Obj} {b k : Nat} {v : Value} (hb : b < W.heap.size) (h : W.cell? ⟨b, k, none⟩ = some v) : (W.alloc o).cell? ⟨b, k, none⟩ = some v :=
  ((below_alloc1 W o).cell (p := ⟨b, k, none⟩) hb).trans h
theorem farC {W : World} {p : Addr} {u : Value} {b k : Nat} {v : Value} (hne : b ≠ p.block) (h : W.cell? ⟨b, k, none⟩ = some v) : (W.setCell p u).cell? ⟨b, k, none⟩ = some v :=
  (World.cell?_of_block (a := ⟨b, k, none⟩) (Below.heap_setCell W p u b hne)).trans h
theorem OwnT.cell {w : World} {B g n c : Nat} {ts : List ByteArray} (h : OwnT w B (.slice (some ⟨g, 0, none⟩) n c) ts) {k : Nat} (hk : k < ts.length) : w.cell? ⟨g, k, none⟩ = some (.string (ts.getD k ByteArray.empty)) ∧ B ≤ g ∧ g < w.heap.size := by
  obtain ⟨A, c', e, _, _, hA⟩ := h.open_
  obtain ⟨g', e', h1, h2, h3, _⟩ := hA k hk
  simp only [Value.slice.injEq] at e
  obtain ⟨e1, _, _⟩ := e
  rw [e'] at e1
  simp only [Option.some.injEq, Addr.mk.injEq] at e1
  obtain ⟨rfl, _⟩ := e1
  exact ⟨h3, h1, h2⟩
theorem OwnT.two {w : World} {B : Nat} {A : Option Addr} {n c : Nat} {ts : List ByteArray} (h : OwnT w B (.slice A n c) ts) (h2 : ts.length = 2) : ∃ g ta tb, A = some ⟨g, 0, none⟩ ∧ B ≤ g ∧ g < w.heap.size ∧ ts = [ta, tb] ∧ n = 2 ∧ 2 ≤ c ∧ c ≤ maxLen ∧ w.cell? ⟨g, 0, none⟩ = some (.string ta) ∧ w.cell? ⟨g, 1, none⟩ = some (.string tb) := by
  match ts, h2 with
  | [ta, tb], _ =>
    obtain ⟨A', c', e, h3, h4, hA⟩ := h.open_
    simp only [Value.slice.injEq] at e
    obtain ⟨rfl, rfl, rfl⟩ := e
    obtain ⟨g, rfl, g1, g2, g3, _⟩ := hA 0 (by simp)
    obtain ⟨g', e', _, _, g4, _⟩ := hA 1 (by simp)
    simp only [Option.some.injEq, Addr.mk.injEq] at e'
    obtain ⟨rfl, _⟩ := e'
    exact ⟨g, ta, tb, rfl, g1, g2, rfl, rfl, by simpa using h3, h4, g3, g4⟩
theorem retSI_nil {w w' : World} {c : Int} (h : Below w.heap.size w w') : RetSI w ((0, []), c) (.returned (.tuple #[.agg #[.int .i64 0, .slice none 0 0], .int .i64 c])) w' :=
  ⟨none, 0, rfl, OwnI.nil_ _ _, h⟩
theorem l02Make_any (w : World) (m : Int) (A : Option Addr) (n c : Nat) : Calls Tryz.prog 39 #[.int .i64 m, .slice A n c] w fun e w' => e = .returned (.agg #[.int .i64 m, .slice A n c]) ∧ Below w.heap.size w w' := by
  go_enter Tryz.func39, Tryz.ntmps39
  go_wp2
  exact bodyPost_ret (v := .agg #[.int .i64 m, .slice A n c]) (by simp [results, Tryz.results39, go_sem]) rfl ⟨rfl, by (repeat (first | assumption | exact Below.refl _ _ | refine Below.alloc ?_ (by first | omega | (simp; done) | (simp; omega)) _ | refine Below.setCell ?_ (by first | omega | (simp; done) | (simp; omega)) _ | refine below_drewN ?_ _))⟩
set_option maxRecDepth 4000 in
set_option maxHeartbeats 4000000 in
theorem sParseSeriesR_any (w : World) (s : ByteArray) (hs : s.size ≤ 900000000) :
    Calls Tryz.prog 11 #[.string s] w (RetSI w (ParseSeriesR s.data.toList)) := by
  go_enter Tryz.func11, Tryz.ntmps11
  go_wp2_with fail
  refine (l01Split_any _ s _ 58 (by rfl) (by omega)).mono ?_
  rintro e w1 ⟨A, c, ts, rfl, ho, ht, hb1⟩
  have HO := Lib.hid ho
  clear ho
  obtain ⟨P1, K1⟩ := Bf.first1 hb1; have p1a := P1.1.2.1; have p1b := P1.1.2.2; have z1 := P1.1.1
  have p1c := P1.2.1
  have p1d := P1.2.2
  clear hb1
  have hlen : ts.length ≤ 900000001 := by
    have := spl_len 58 s.data.toList
    rw [← ht.out, List.length_map, ← Lib.size_eq] at this; omega
  by_cases h2 : ts.length = 2
  · obtain ⟨g, ta, tb, rfl, hg1, hg2, rfl, hn, hc1, hc2, ca, cb⟩ := HO.out.two h2
    have hr := psR_two (t := s.data.toList) (a := ta.data.toList) (b := tb.data.toList) (by rw [← ht.out]; rfl)
    have hla : ta.size ≤ 900000000 := by
      have := spl_piece 58 s.data.toList ta.data.toList (by rw [← ht.out]; simp)
      rw [Lib.size_eq]; rw [Lib.size_eq] at hs; omega
    have hlb : tb.size ≤ 900000000 := by
      have := spl_piece 58 s.data.toList tb.data.toList (by rw [← ht.out]; simp)
      rw [Lib.size_eq]; rw [Lib.size_eq] at hs; omega
    have HR := Lib.hid hr
    clear hr ht HO hn h2 hlen
    obtain ⟨va, HVA⟩ : ∃ va, Hid (valL ta.data.toList = va) := ⟨_, rfl⟩
    obtain ⟨xs, HXS⟩ : ∃ xs, Hid ((spl 44 tb.data.toList).map valL = xs) := ⟨_, rfl⟩
    have hxs : xs.length ≤ 900000001 := by
      have := spl_len 44 tb.data.toList
      rw [← HXS.out, List.length_map]; rw [Lib.size_eq] at hlb; omega
    rw [HVA.out, HXS.out] at HR
    unfold maxLen at hc2
    simp only [List.length_cons, List.length_nil, Nat.zero_add, Nat.reduceAdd] at *
    have HP1 := Lib.hid P1
    have HK1 := Lib.hid K1
    clear P1 K1 p1a p1b p1c p1d
    go_upto_region 4 with fail
    go_cut [5] from 12 to 20 (fun s5 wx => ∃ (bx : Nat) (A3 : Option Addr) (c3 : Nat), s5 = .pointer (some ⟨bx, 0, none⟩) ∧ w.heap.size < bx ∧ Hid (Bf wx bx (.int .i64 va) (.slice A3 xs.length c3)) ∧ Hid (OwnI wx (w.heap.size + 1) (.slice A3 xs.length c3) xs) ∧ Hid (Bf wx w.heap.size (.int .i64 0) (.slice none 0 0)) ∧ Hid (Below w.heap.size w wx))
    case first =>
      go_region_law (first | (go_simp; go_at_call 40; refine (l01Value_any _ ta (by omega)).mono ?_; rintro e w2 ⟨rfl, hn2⟩; have hb2 := below_of_drewN hn2; clear hn2; rw [HVA.out]; have s2 := hb2.size; (try simp at s2); obtain ⟨hc2, hf2⟩ := bcell hb2; (first | (have y23 : w3.heap.size < w2.heap.size := (by omega)) | skip); (first | (have y21 : w1.heap.size < w2.heap.size := (by omega)) | skip); have c2a : w2.cell? ⟨g, 0, none⟩ = some (.string ta) := (hb2.cell (p := ⟨g, 0, none⟩) (by first | exact g3 | exact hg2 | (simp; omega))).trans (by first | exact c3a | exact cellUp g3 c3a | exact ca | exact cellUp hg2 ca); have c2b : w2.cell? ⟨g, 1, none⟩ = some (.string tb) := (hb2.cell (p := ⟨g, 1, none⟩) (by first | exact g3 | exact hg2 | (simp; omega))).trans (by first | exact c3b | exact cellUp g3 c3b | exact cb | exact cellUp hg2 cb); have g2 : g < w2.heap.size := (by omega)) | (go_simp; go_at_call 41; refine (l02Read_any _ tb (by omega)).mono ?_; rw [HXS.out]; rintro e w3 ⟨A3, c3, rfl, o3, hb3⟩; have s3 := hb3.size; (try simp at s3); obtain ⟨hc3, hf3⟩ := bcell hb3; (first | (have y32 : w2.heap.size < w3.heap.size := (by omega)) | skip); (first | (have y31 : w1.heap.size < w3.heap.size := (by omega)) | skip); have c3a : w3.cell? ⟨g, 0, none⟩ = some (.string ta) := (hb3.cell (p := ⟨g, 0, none⟩) (by first | exact g2 | exact hg2 | (simp; omega))).trans (by first | exact c2a | exact cellUp g2 c2a | exact ca | exact cellUp hg2 ca); have c3b : w3.cell? ⟨g, 1, none⟩ = some (.string tb) := (hb3.cell (p := ⟨g, 1, none⟩) (by first | exact g2 | exact hg2 | (simp; omega))).trans (by first | exact c2b | exact cellUp g2 c2b | exact cb | exact cellUp hg2 cb); have g3 : g < w3.heap.size := (by omega)) | (go_simp; go_at_call 39; refine (l02Make_any _ _ _ _ _).mono ?_; rintro e w4 ⟨rfl, hb4⟩; have s4 := hb4.size; (try simp at s4); obtain ⟨hc4, hf4⟩ := bcell hb4; (first | (have y43 : w3.heap.size < w4.heap.size := (by omega)) | skip); (first | (have y42 : w2.heap.size < w4.heap.size := (by omega)) | skip); have c4a : w4.cell? ⟨g, 0, none⟩ = some (.string ta) := (hb4.cell (p := ⟨g, 0, none⟩) (by first | exact g3 | exact g2 | (simp; omega))).trans (by first | exact c3a | exact cellUp g3 c3a | exact c2a | exact cellUp g2 c2a); have c4b : w4.cell? ⟨g, 1, none⟩ = some (.string tb) := (hb4.cell (p := ⟨g, 1, none⟩) (by first | exact g3 | exact g2 | (simp; omega))).trans (by first | exact c3b | exact cellUp g3 c3b | exact c2b | exact cellUp g2 c2b); have g4 : g < w4.heap.size := (by omega)))
      all_goals
        go_wp2_with fail
        go_meet
      all_goals
        have K1 := HK1.out
        have P1 := HP1.out
        refine ⟨_, A3, c3, rfl, by omega, ?_, ?_, P1.keep (by (repeat (first | assumption | exact Below.refl _ _ | (refine Below.alloc ?_ ?_ _; rotate_left; (focus (first | exact Nat.le_refl _ | omega | (simp; done) | (simp; omega)))) | (refine Below.setCell ?_ ?_ _; rotate_left; (focus (first | exact Nat.le_refl _ | omega | (simp; done) | (simp; omega)))) | refine below_drew ?_ | refine below_drewN ?_ _ | (refine Below.trans ?_ (Below.mono hb4 ?_); rotate_left; (focus (first | exact Nat.le_refl _ | omega | (simp; done) | (simp; omega)))) | (refine Below.trans ?_ (Below.mono hb3 ?_); rotate_left; (focus (first | exact Nat.le_refl _ | omega | (simp; done) | (simp; omega)))) | (refine Below.trans ?_ (Below.mono hb2 ?_); rotate_left; (focus (first | exact Nat.le_refl _ | omega | (simp; done) | (simp; omega))))))), by unfold Hid; (repeat (first | assumption | exact Below.refl _ _ | (refine Below.alloc ?_ ?_ _; rotate_left; (focus (first | exact Nat.le_refl _ | omega | (simp; done) | (simp; omega)))) | (refine Below.setCell ?_ ?_ _; rotate_left; (focus (first | exact Nat.le_refl _ | omega | (simp; done) | (simp; omega)))) | refine below_drew ?_ | refine below_drewN ?_ _ | (refine Below.trans ?_ (Below.mono hb4 ?_); rotate_left; (focus (first | exact Nat.le_refl _ | omega | (simp; done) | (simp; omega)))) | (refine Below.trans ?_ (Below.mono hb3 ?_); rotate_left; (focus (first | exact Nat.le_refl _ | omega | (simp; done) | (simp; omega)))) | (refine Below.trans ?_ (Below.mono hb2 ?_); rotate_left; (focus (first | exact Nat.le_refl _ | omega | (simp; done) | (simp; omega))))))⟩
        · first
            | exact Bf.alloc1 w4 _ _ _
            | exact ((Bf.alloc1 w3 _ _ _).keep hb4).put2
            | exact (((Bf.alloc1 w2 _ _ _).keep hb3).keep hb4).put2
            | exact (((Bf.alloc1 w2 _ _ _).keep hb4)).put2
            | exact ((((Bf.alloc1 w1.drew _ _ _).keep hb2).keep hb3).keep hb4).put2
            | exact ((((Bf.alloc1 w1.drew _ _ _).keep hb3).keep hb2).keep hb4).put2
            | skip
        · first
            | (refine (o3.mono (by omega)).keep ?_ (Nat.le_refl _); focus ((repeat (first | assumption | exact Below.refl _ _ | (refine Below.alloc ?_ ?_ _; rotate_left; (focus (first | exact Nat.le_refl _ | omega | (simp; done) | (simp; omega)))) | (refine Below.setCell ?_ ?_ _; rotate_left; (focus (first | exact Nat.le_refl _ | omega | (simp; done) | (simp; omega)))) | refine below_drew ?_ | refine below_drewN ?_ _ | (refine Below.trans ?_ (Below.mono hb4 ?_); rotate_left; (focus (first | exact Nat.le_refl _ | omega | (simp; done) | (simp; omega)))) | (refine Below.trans ?_ (Below.mono hb2 ?_); rotate_left; (focus (first | exact Nat.le_refl _ | omega | (simp; done) | (simp; omega)))))); done))
            | (refine (((o3.keep hb4 (Nat.le_refl _)).setCell_lt ?_ _).setCell_lt ?_ _).mono ?_ <;> (simp; try omega; done))
            | (refine (((o3.keep hb4 (Nat.le_refl _)).setCell_lt ?_ _).setCell_lt ?_ _).mono ?_ <;> (simp; done))
            | (refine (((o3.keep hb4 (Nat.le_refl _)).setCell_lt ?_ _).setCell_lt ?_ _).mono ?_ <;> first | omega | (simp; done) | (simp; omega))
            | (refine ((((o3.keep hb2 (Nat.le_refl _)).keep hb4 (Nat.le_refl _)).setCell_lt ?_ _).setCell_lt ?_ _).mono ?_ <;> first | omega | (simp; done) | (simp; omega))
            | (refine ((o3.keep hb2 (Nat.le_refl _)).mono (by omega)).keep ?_ (Nat.le_refl _); focus ((repeat (first | assumption | exact Below.refl _ _ | (refine Below.alloc ?_ ?_ _; rotate_left; (focus (first | exact Nat.le_refl _ | omega | (simp; done) | (simp; omega)))) | (refine Below.setCell ?_ ?_ _; rotate_left; (focus (first | exact Nat.le_refl _ | omega | (simp; done) | (simp; omega)))) | refine below_drew ?_ | refine below_drewN ?_ _ | (refine Below.trans ?_ (Below.mono hb4 ?_); rotate_left; (focus (first | exact Nat.le_refl _ | omega | (simp; done) | (simp; omega)))))); done))
            | skip
    case rest =>
      obtain ⟨bx, A3, c3, rfl, hbx, SP, SO, SQ, KV⟩ := hcut
      have zz := SP.out.1.1
      have zy := SQ.out.1.1
      have sp1 := SP.out.1.2.1
      have sp2 := SP.out.1.2.2
      have sq1 := SQ.out.1.2.1
      have sq2 := SQ.out.1.2.2
      have sq3 := SQ.out.2.1
      have sq4 := SQ.out.2.2
      cases hS : isSer va xs
      · have HS := Lib.hid hS
        have HR2 : Hid (ParseSeriesR s.data.toList = ((0, []), 6)) := by unfold Hid; rw [HR.out, hS]; rfl
        clear hS
        go_wp2_with (go_at_call 29; refine (l02Is_any _ _ _ xs (w.heap.size + 1) SO.out (by omega)).mono ?_; rintro e w5 ⟨rfl, hb5⟩; rw [HS.out]; have HB5 := Lib.hid hb5; obtain ⟨hc5, hf5⟩ := bcell hb5; clear hb5)
        exact bodyPost_ret (v := .tuple #[.agg #[.int .i64 0, .slice none 0 0], .int .i64 6]) (by simp [results, Tryz.results11, go_sem, sq1, sq2, hc5, zy]) rfl (by rw [HR2.out]; exact retSI_nil (((KV.out.trans (HB5.out.mono KV.out.size)).setCell (Nat.le_refl _) _).setCell (Nat.le_refl _) _))
      · have HS := Lib.hid hS
        have HR2 : Hid (ParseSeriesR s.data.toList = ((va, xs), 0)) := by unfold Hid; rw [HR.out, hS]; rfl
        clear hS
        go_wp2_with (go_at_call 29; refine (l02Is_any _ _ _ xs (w.heap.size + 1) SO.out (by omega)).mono ?_; rintro e w5 ⟨rfl, hb5⟩; rw [HS.out]; have HB5 := Lib.hid hb5; obtain ⟨hc5, hf5⟩ := bcell hb5; clear hb5)
        refine bodyPost_ret (v := .tuple #[.agg #[.int .i64 va, .slice A3 xs.length c3], .int .i64 0]) (by simp [results, Tryz.results11, go_sem, sq1, sq2, hc5, zy]) rfl ?_
        rw [HR2.out]
        refine ⟨A3, c3, rfl, ?_, ((KV.out.trans (HB5.out.mono KV.out.size)).setCell (Nat.le_refl _) _).setCell (Nat.le_refl _) _⟩
        exact ((((SO.out.keep HB5.out (Nat.le_refl _)).setCell_lt (Nat.lt_succ_self _) _).setCell_lt (Nat.lt_succ_self _) _)).mono (Nat.le_succ _)
  · have hr := psR_not (t := s.data.toList) (by rw [← ht.out, List.length_map]; exact h2)
    have HR := Lib.hid hr
    have hne : ((ts.length : Int) != 2) = true := by simp; omega
    clear hr ht h2
    go_wp2
    exact bodyPost_ret (v := .tuple #[.agg #[.int .i64 0, .slice none 0 0], .int .i64 6]) (by simp [results, Tryz.results11, go_sem, p1a, p1b]) rfl (by rw [HR.out]; exact retSI_nil ((K1.setCell (Nat.le_refl _) _).setCell (Nat.le_refl _) _))

/-! ### What the library's functions on texts ask of the world -/
theorem var?_keep {P : Program} {w w' : World} {n : String} {cs : Array Value} (h : w.var? P n = some cs) (hb : Below w.heap.size w w') : w'.var? P n = some cs := by
  unfold World.var? at h ⊢
  cases hg : P.globalNamed n with
  | none => rw [hg] at h; simp at h
  | some g =>
    rw [hg] at h
    simp only [Option.bind_some] at h ⊢
    have hlt : g < w.heap.size := by
      rcases Nat.lt_or_ge g w.heap.size with h' | h'
      · exact h'
      · rw [Array.getElem?_eq_none h'] at h; simp at h
    rw [hb.block g hlt]
    exact h
/-- The table of the powers of 10 lies as its initialiser lays it. -/
def Tab (w : World) : Prop := Lib.TabIs Tryz.prog w "internal/strconv.uint64pow10" .u64 Lib.pow10Tab
theorem Tab.keep {w w' : World} (h : Tab w) (hb : Below w.heap.size w w') : Tab w' := var?_keep h hb
theorem formatInt_any (n : Int) (h0 : -9223372036854775808 ≤ n) (h1 : n ≤ 9223372036854775807) (w : World) (hT : Tab w) :
    Calls Tryz.prog 62 #[.int .i64 n, .int .i64 10] w fun e w' => e = .returned (.string ⟨(Lib.itoa n).toArray⟩) ∧ Below w.heap.size w w' :=
  (Tryz.strconv_FormatInt_10 n h0 h1 w hT).mono fun e w' ⟨h, k, os, h2⟩ => ⟨h, by rw [h2]; exact ⟨rfl, rfl, rfl, by simp [Go.Sort.grow], fun i hi => by simp [Go.Sort.grow, Array.getElem?_append_left hi]⟩⟩
theorem decimal_any (n : Int) (h0 : -9223372036854775808 ≤ n) (h1 : n ≤ 9223372036854775807) (w : World) (hT : Tab w) :
    Calls Tryz.prog 27 #[.int .i64 n] w fun e w' => e = .returned (.string ⟨(Lib.itoa n).toArray⟩) ∧ Below w.heap.size w w' := by
  go_enter Tryz.func27, Tryz.ntmps27
  go_wp2_with fail
  refine (formatInt_any n h0 h1 _ hT).mono ?_
  rintro e w' ⟨rfl, hb⟩
  go_wp2
  go_ret
  exact ⟨rfl, hb⟩
/-- The world as the row says that it lies when the call begins. -/
def Std (w : World) : Prop := w.ShapedOpen Tryz.prog ∧ Tab w ∧ (∃ tp p, w.var? Tryz.prog "strconv.ErrSyntax" = some #[.iface tp p]) ∧ (∃ tp p, w.var? Tryz.prog "strconv.ErrRange" = some #[.iface tp p])
theorem Std.keep {w w' : World} (h : Std w) (hb : Below w.heap.size w w') : Std w' := by
  obtain ⟨h1, h2, ⟨t3, p3, h3⟩, ⟨t4, p4, h4⟩⟩ := h
  exact ⟨h1.keptBut (hb.frame (fun _ => False)) (fun _ h => h.elim), h2.keep hb, ⟨t3, p3, var?_keep h3 hb⟩, ⟨t4, p4, var?_keep h4 hb⟩⟩
theorem parseIntB_bd {l : List UInt8} {v : Int} (h : Lib.parseIntB 64 l = .ok v) : -9223372036854775808 ≤ v ∧ v ≤ 9223372036854775807 := by
  unfold Lib.parseIntB at h
  split at h
  · cases h
  · simp only at h
    split at h
    · cases h
    · cases h
    · rename_i u _
      split at h
      · cases h
      · split at h
        · cases h
        · simp only [Lib.NumEnd.ok.injEq] at h
          subst h
          rename_i a b
          simp only [not_and, Nat.not_le, Nat.not_lt] at a b
          split
          · rename_i hn
            have := b hn
            omega
          · rename_i hn
            have := a hn
            omega
set_option maxRecDepth 4000 in
set_option maxHeartbeats 4000000 in
theorem readDecimal_any (s : ByteArray) (w : World) (hS : Std w) (hs : s.size ≤ 4294967200) :
    Calls Tryz.prog 32 #[.string s] w fun e w' => e = .returned (.tuple #[.int .i64 (decN s.data.toList), .bool (decB s.data.toList)]) ∧ Below w.heap.size w w' := by
  by_cases h15 : 15 < s.size
  · have g15 : (15 : Int) < (s.size : Int) := by omega
    have HN : Hid (decN s.data.toList = 0) := by unfold Hid decN; rw [if_pos (by rw [← Lib.size_eq]; exact h15)]
    have HB : Hid (decB s.data.toList = false) := by unfold Hid decB; rw [← Lib.size_eq, decide_eq_false (by omega)]; rfl
    clear h15
    go_enter Tryz.func32, Tryz.ntmps32
    go_wp2
    exact bodyPost_ret (v := .tuple #[.int .i64 0, .bool false]) (by simp [results, Tryz.results32, go_sem]) rfl ⟨by rw [HN.out, HB.out], Below.refl _ _⟩
  · have g15 : ¬ (15 : Int) < (s.size : Int) := by omega
    obtain ⟨hsh, htab, ⟨tp, p, hsy⟩, ⟨tp2, p2, hra⟩⟩ := id hS
    cases hp : Lib.parseIntB 64 s.data.toList
    · rename_i v
      have hv := parseIntB_bd hp
      have HN : Hid (decN s.data.toList = v) := by unfold Hid decN; rw [if_neg (by rw [← Lib.size_eq]; exact h15), hp]
      have HB : Hid (decB s.data.toList = (Lib.itoa v == s.data.toList)) := by unfold Hid decB; rw [← Lib.size_eq, decide_eq_true (by omega), hp]; rfl
      have C := Tryz.strconv_ParseInt_10_at64_ok s (by omega) v hp w
      have HS := Lib.hid hS
      have HC := Lib.hid C
      clear hp hsy hra hsh htab C hS
      go_enter Tryz.func32, Tryz.ntmps32
      go_wp2_with fail
      refine HC.out.mono ?_
      rintro e w1 ⟨rfl, hw⟩
      have hb1 : Below w.heap.size w w1 := by
        rcases hw with rfl | ⟨t, rfl⟩
        · exact Below.refl _ _
        · exact Go.Joins.below_bytesWorld _ _ _ _ (Nat.le_refl _)
      clear hw
      have HB1 := Lib.hid hb1
      clear hb1
      go_wp2_with (go_at_call 27; refine (decimal_any v hv.1 hv.2 _ (HS.out.keep HB1.out).2.1).mono ?_; rintro e w2 ⟨rfl, hb2⟩; have HB2 := Lib.hid hb2; clear hb2)
      refine bodyPost_ret (v := .tuple #[.int .i64 v, .bool (Lib.itoa v == s.data.toList)]) (by simp [results, Tryz.results32, go_sem, ByteArray.toList_eq]) rfl ⟨by rw [HN.out, HB.out], HB1.out.trans (HB2.out.mono HB1.out.size)⟩
    · have HN : Hid (decN s.data.toList = 0) := by unfold Hid decN; rw [if_neg (by rw [← Lib.size_eq]; exact h15), hp]
      have HB : Hid (decB s.data.toList = false) := by unfold Hid decB; rw [← Lib.size_eq, decide_eq_true (by omega), hp]; rfl
      have HC : Hid (Calls Tryz.prog 69 #[.string s, .int .i64 10, .int .i64 64] w fun e w' => ∃ N, e = .returned (.tuple #[.int .i64 0, .iface 115 (.pointer (some ⟨N, 0, none⟩))]) ∧ Below w.heap.size w w') := (Any.strconv_ParseInt_10_at64_syntax_var Tryz.laysC174 s (by omega) hp tp p w hsy).mono fun e w' ⟨N, h1, _, _, h2⟩ => ⟨N, h1, h2⟩
      have HS := Lib.hid hS
      clear hp hsy hra hsh htab hS
      go_enter Tryz.func32, Tryz.ntmps32
      go_wp2_with fail
      refine HC.out.mono ?_
      rintro e w1 ⟨N, rfl, hb1⟩
      have HB1 := Lib.hid hb1
      clear hb1
      go_wp2
      refine bodyPost_ret (v := .tuple #[.int .i64 0, .bool false]) (by simp [results, Tryz.results32, go_sem]) rfl ⟨by rw [HN.out, HB.out], HB1.out⟩
    · have HN : Hid (decN s.data.toList = Lib.intSat 64 s.data.toList) := by unfold Hid decN; rw [if_neg (by rw [← Lib.size_eq]; exact h15), hp]
      have HB : Hid (decB s.data.toList = false) := by unfold Hid decB; rw [← Lib.size_eq, decide_eq_true (by omega), hp]; rfl
      have HC := Lib.hid (Tryz.strconv_ParseInt_10_at64_range_var s (by omega) hp tp2 p2 w hra)
      have HS := Lib.hid hS
      clear hp hsy hra hsh htab hS
      generalize Lib.intSat 64 s.data.toList = v at *
      go_enter Tryz.func32, Tryz.ntmps32
      go_wp2_with fail
      refine HC.out.mono ?_
      rintro e w1 ⟨N, rfl, _, _, hb1⟩
      have HB1 := Lib.hid hb1
      clear hb1
      go_wp2
      refine bodyPost_ret (v := .tuple #[.int .i64 v, .bool false]) (by simp [results, Tryz.results32, go_sem]) rfl ⟨by rw [HN.out, HB.out], HB1.out⟩
/-! ### readNumbers -/
theorem spl_count (c : UInt8) : ∀ l : List UInt8, (spl c l).length = l.count c + 1
  | [] => rfl
  | x :: r => by
    have ih := spl_count c r
    rw [spl]
    by_cases h : x = c
    · rw [if_pos h, h, List.count_cons_self, List.length_cons, ih]
    · rw [if_neg h, List.count_cons_of_ne (by simpa using h), ← ih]
      rcases hs : spl c r with _ | ⟨a, t⟩
      · exact absurd hs (spl_ne c r)
      · rfl
theorem iSplit_any (w : World) (s sep : ByteArray) (c : UInt8) (hc : sep.data.toList = [c]) (h : w.ShapedOpen Tryz.prog) (hs : s.size ≤ 4294967200) :
    Calls Tryz.prog 52 #[.string s, .string sep] w (NewT w (spl c s.data.toList)) := by
  refine (Tryz.strings_Split_shaped s sep w h (by omega) (by rw [Lib.size_eq, hc]; simp)).mono ?_
  rintro e w' ⟨rfl, rfl⟩
  have hcnt : Lib.countB s sep = s.data.toList.count c := by unfold Lib.countB; rw [hc]; exact Lib.count_one c _
  have hd : (Lib.splitB sep 0 (Lib.countB s sep) s).map (fun t : ByteArray => t.data.toList) = spl c s.data.toList := by
    have := Lib.splitB_data sep 0 (Lib.countB s sep) s
    rw [hc] at this
    exact this.trans (splitK_spl c _ _ hcnt)
  generalize Lib.splitB sep 0 (Lib.countB s sep) s = ts at *
  have h1 := congrArg List.length hd
  rw [List.length_map, spl_count] at h1
  have hl : Lib.countB s sep + 1 = ts.length := by rw [hcnt, h1]
  rw [hl]
  refine ⟨_, _, ts, rfl, OwnT.lit w ts (Nat.le_refl _) ?_, hd, below_alloc1 _ _⟩
  have h2 := spl_len c s.data.toList
  rw [spl_count, ← Lib.size_eq] at h2
  unfold maxLen; omega
/-- A list and whether it is one; nil where it is none. -/
def numsN (ws : List (List UInt8)) : List Int := if ws.all decB = true then ws.map decN else []
theorem all_take_split (f : List UInt8 → Bool) (ws : List (List UInt8)) (k : Nat) {x : List UInt8} (h : ws[k]? = some x) (hx : f x = false) : ws.all f = false := by
  rw [List.all_eq_false]
  exact ⟨x, List.mem_of_getElem? h, by rw [hx]; simp⟩
theorem all_take_next (f : List UInt8 → Bool) (ws : List (List UInt8)) (k : Nat) {x : List UInt8} (h : ws[k]? = some x) (hp : (ws.take k).all f = true) (hx : f x = true) : (ws.take (k + 1)).all f = true := by
  have hk : k < ws.length := (List.getElem?_eq_some_iff.1 h).1
  rw [List.getElem?_eq_getElem hk] at h
  simp only [Option.some.injEq] at h
  rw [List.take_succ_eq_append_getElem hk, List.all_append, hp, h]
  simpa using hx
set_option maxRecDepth 4000 in
set_option maxHeartbeats 4000000 in
theorem readNumbers_any (s : ByteArray) (ws : List (List UInt8)) (w : World) (hw : spl 44 s.data.toList = ws) (hS : Std w) (hs : s.size ≤ 4294967200) :
    Calls Tryz.prog 33 #[.string s] w fun e w' => ∃ A c, e = .returned (.tuple #[.slice A (numsN ws).length c, .bool (ws.all decB)]) ∧ OwnI w' w.heap.size (.slice A (numsN ws).length c) (numsN ws) ∧ Below w.heap.size w w' := by
  have HS := Lib.hid hS
  have HW := Lib.hid hw
  clear hS hw
  go_enter Tryz.func33, Tryz.ntmps33
  go_wp2_with (go_at_call 52; refine (iSplit_any _ s _ 44 (by rfl) (HS.out.keep (below_alloc1 _ _)).1 hs).mono ?_; rintro e w1 ⟨A, c, ts, rfl, ho, ht, hb1⟩)
  have hz1 := hb1.size
  simp at hz1
  obtain ⟨A', c', e0, hc1, hc2, hA⟩ := ho.open_
  simp only [Value.slice.injEq, true_and] at e0
  obtain ⟨rfl, rfl⟩ := e0
  unfold maxLen at hc2
  have HL : Hid (ts.length ≤ 4294967201) := by
    have := spl_len 44 s.data.toList
    rw [← ht.out, List.length_map, ← Lib.size_eq] at this
    unfold Hid; omega
  have hl := HL.out
  have HSZ : Hid (∀ k, (ts.getD k ByteArray.empty).size ≤ 4294967200) := fun k => Nat.le_trans (datas_size ht.out (spl_piece 44 s.data.toList) k) (by rw [← Lib.size_eq]; exact hs)
  have HT : Hid (ts.map (fun t : ByteArray => t.data.toList) = ws) := ht.out.trans HW.out
  have HWL : Hid (ws.length = ts.length) := by unfold Hid; rw [← HT.out, List.length_map]
  have HR0 : Hid (RowI w1 w.heap.size 0 []) := (RowI.lit w [] #[] rfl (by simp)).below hb1 (by simp)
  have HB1 : Hid (Below w.heap.size w w1) := (below_alloc1 w _).trans (hb1.mono (by simp))
  clear ht hb1 ho
  go_loopw [4, 6, 7, 8, 13] (fun r _ _ _ i wr => ∃ k g cc : Nat, k ≤ ts.length ∧ i = .int .i64 k ∧ r = .slice (some ⟨g, 0, none⟩) k cc ∧ w.heap.size ≤ g ∧ Hid ((ws.take k).all decB = true) ∧ Hid (RowI wr g cc ((ws.take k).map decN)) ∧ (g = w.heap.size ∨ w1.heap.size ≤ g) ∧ w1.heap.size ≤ wr.heap.size ∧ Hid (∀ q, q < w1.heap.size → w.heap.size < q → wr.heap[q]? = w1.heap[q]?) ∧ Hid (Below w.heap.size w wr)) (fun _ _ _ _ i _ => ts.length - (intOf i).toNat)
  case atStart => exact ⟨0, w.heap.size, 0, Nat.zero_le _, rfl, rfl, Nat.le_refl _, rfl, HR0.out, .inl rfl, Nat.le_refl _, fun q _ _ => rfl, HB1.out⟩
  case round =>
    obtain ⟨k, g, cc, hk, rfl, rfl, hg, hall, hrow, hgg, hzz, hcl, hb⟩ := hrel
    have hz := hb.out.size
    have hglt := hrow.out.lt
    by_cases hlt : k < ts.length
    · obtain ⟨b, rfl, hb1, hb2, hcell, hfr⟩ := hA k hlt
      clear hA
      have hcell' : wr.cell? ⟨b, k, none⟩ = some (.string (ts.getD k ByteArray.empty)) := (World.cell?_of_block (a := ⟨b, k, none⟩) (hcl.out b hb2 (by simp at hb1; omega))).trans hcell
      clear hcell hfr
      have hnk := HSZ.out k
      have HG := Lib.hid (datas_getD HT.out hlt)
      have HS2 := Lib.hid (map_take_succ decN ws k (datas_getD HT.out hlt))
      have HL2 : Hid (((ws.take k).map decN).length = k) := by unfold Hid; rw [List.length_map, List.length_take, HWL.out]; omega
      generalize ts.getD k ByteArray.empty = x at *
      have hk0 : (0 : Int) ≤ (k : Int) := by omega
      have hk1 : (k : Int) < (ts.length : Int) := by omega
      cases hd : decB x.data.toList
      · have HD := Lib.hid hd
        have HF : Hid (ws.all decB = false) := all_take_split decB ws k HG.out hd
        have HN : Hid (numsN ws = []) := by unfold Hid numsN; rw [HF.out]; rfl
        clear hd
        go_wp2_with (go_at_call 32; refine (readDecimal_any x _ (HS.out.keep hb.out) hnk).mono ?_; rintro e w2 ⟨rfl, hb2⟩; rw [HD.out]; have HB2 := Lib.hid hb2; clear hb2)
        refine bodyPost_ret (v := .tuple #[.slice none 0 0, .bool false]) (by simp [results, Tryz.results33, go_sem]) rfl ⟨none, 0, by rw [HN.out, HF.out]; rfl, by rw [HN.out]; exact OwnI.nil_ _ _, hb.out.trans (HB2.out.mono hz)⟩
      · have HD := Lib.hid hd
        have HF : Hid ((ws.take (k + 1)).all decB = true) := all_take_next decB ws k HG.out hall.out hd
        clear hd
        go_wp2_with (first | (go_at_call 32; refine (readDecimal_any x _ (HS.out.keep hb.out) hnk).mono ?_; rintro e w2 ⟨rfl, hb2⟩; rw [HD.out]; have HB2 := Lib.hid hb2; have z2 := hb2.size; clear hb2) | (at_builtin; refine wpAppend1 _ _ w.heap.size (.slice (some ⟨g, 0, none⟩) k cc) ((ws.take k).map decN) k (decN x.data.toList) w2.heap.size (w2.heap.size + 1) (by rfl) (by rfl) (by rfl) (by rfl) (((hrow.out.below HB2.out hglt).alloc _).own' hg HL2.out) HL2.out (RowI.block1 _) (by omega) (by simp; omega) (by simp) ?_; intro gg cap w3 hown1 hge hgrow hat))
        go_roundw
        case rel =>
          refine ⟨k + 1, gg, cap, by omega, by go_num, rfl, hge, HF, by unfold Hid; rw [HS2.out]; exact hown1, ?_, by have := hgrow.size; simp at this; omega, ?_, ?_⟩
          · rcases hat with hat | hat
            · simp [Value.ownBlock] at hat; omega
            · right; omega
          · intro q hq1 hq2
            rw [hgrow.block q (by simp; omega) (by simp [Value.ownBlock]; omega), Below.heap_alloc w2 _ q (by omega), HB2.out.block q (by omega)]
            exact hcl.out q hq1 hq2
          · refine Below.grown ((hb.out.trans (HB2.out.mono hz)).alloc (by omega) _) hgrow (by simp; omega) fun b hb => ?_
            simp [Value.ownBlock] at hb
            omega
        case measure => simp [intOf]; omega
    · obtain rfl : k = ts.length := by omega
      have htk : ws.take ts.length = ws := List.take_of_length_le (by rw [HWL.out]; exact Nat.le_refl _)
      have HF : Hid (ws.all decB = true) := by have := hall.out; rwa [htk] at this
      have HN : Hid (numsN ws = ws.map decN) := by unfold Hid numsN; rw [HF.out]; rfl
      have hrow' : Hid (RowI wr g cc (ws.map decN)) := by have := hrow.out; rwa [htk] at this
      have hly : Hid ((ws.map decN).length = ts.length) := by unfold Hid; rw [List.length_map, HWL.out]
      clear htk
      go_wp2
      refine bodyPost_ret (v := .tuple #[.slice (some ⟨g, 0, none⟩) ts.length cc, .bool true]) (by simp [results, Tryz.results33, go_sem]) rfl ⟨_, _, by rw [HF.out, HN.out, hly.out], by rw [HN.out]; exact hrow'.out.own hg, hb.out⟩

/-! ### ParseSeries of the program -/
theorem Bf.al {w : World} {b : Nat} {x y : Value} (h : Bf w b x y) (o : Obj) : Bf (w.alloc o) b x y := h.keep (below_alloc1 w o)
theorem cut_len (l sep : List UInt8) : (Lib.cut l sep).1.length ≤ l.length ∧ (Lib.cut l sep).2.1.length ≤ l.length := by
  unfold Lib.cut
  split
  · constructor
    · rw [List.length_take]; exact Nat.min_le_right _ _
    · rw [List.length_drop]; omega
  · simp
theorem parseS_not {t : List UInt8} (h : (decB (Lib.cut t [58]).1 && (spl 44 (Lib.cut t [58]).2.1).all decB) = false) : parseS t = ((0, []), 6) := by
  unfold parseS
  cases h1 : decB (Lib.cut t [58]).1
  · rfl
  · rw [h1, Bool.true_and] at h
    rw [if_pos rfl, h]; rfl
theorem parseS_yes {t : List UInt8} (h1 : decB (Lib.cut t [58]).1 = true) (h2 : (spl 44 (Lib.cut t [58]).2.1).all decB = true) :
    parseS t = if isSer (decN (Lib.cut t [58]).1) (numsN (spl 44 (Lib.cut t [58]).2.1)) = true then ((decN (Lib.cut t [58]).1, numsN (spl 44 (Lib.cut t [58]).2.1)), 0) else ((0, []), 6) := by
  unfold parseS numsN
  rw [if_pos h1, if_pos h2, if_pos h2]
theorem data_mk (l : List UInt8) : (⟨l.toArray⟩ : ByteArray).data.toList = l := by simp
theorem size_mk (l : List UInt8) : (⟨l.toArray⟩ : ByteArray).size = l.length := by simp [ByteArray.size]
theorem numsN_len (ws : List (List UInt8)) : (numsN ws).length ≤ ws.length := by
  unfold numsN; split <;> simp
set_option maxRecDepth 4000 in
set_option maxHeartbeats 4000000 in
theorem iParseSeriesR_any (w : World) (s : ByteArray) (hs : s.size ≤ 900000000) (hS : Std w) :
    Calls Tryz.prog 8 #[.string s] w (RetSI w (ParseSeriesR s.data.toList)) := by
  rw [← parseS_eq]
  have hc := cut_len s.data.toList [58]
  have HP1 := Lib.hid (@parseS_not s.data.toList)
  have HP2 := Lib.hid (@parseS_yes s.data.toList)
  have HCUT := Lib.hid (Tryz.strings_Cut_shaped s ⟨#[58]⟩)
  rw [show (⟨#[58]⟩ : ByteArray).data.toList = [58] from rfl] at HCUT
  obtain ⟨ta, hta⟩ : ∃ ta, (Lib.cut s.data.toList [58]).1 = ta := ⟨_, rfl⟩
  obtain ⟨tb, htb⟩ : ∃ tb, (Lib.cut s.data.toList [58]).2.1 = tb := ⟨_, rfl⟩
  obtain ⟨tf, htf⟩ : ∃ tf, (Lib.cut s.data.toList [58]).2.2 = tf := ⟨_, rfl⟩
  rw [hta, htb] at HP1 HP2 hc
  rw [hta, htb, htf] at HCUT
  rw [← Lib.size_eq] at hc
  have HA := Lib.hid (data_mk ta)
  have HB := Lib.hid (data_mk tb)
  have hla : (⟨ta.toArray⟩ : ByteArray).size ≤ 900000000 := by rw [size_mk]; omega
  have hlb : (⟨tb.toArray⟩ : ByteArray).size ≤ 900000000 := by rw [size_mk]; omega
  obtain ⟨ws, HW⟩ : ∃ ws, Hid (spl 44 tb = ws) := ⟨_, rfl⟩
  have hwl : ws.length ≤ 900000001 := by have := spl_len 44 tb; rw [← HW.out]; omega
  have HRN : Hid (∀ W, Std W → Calls Tryz.prog 33 #[.string ⟨tb.toArray⟩] W fun e w' => ∃ A c, e = .returned (.tuple #[.slice A (numsN ws).length c, .bool (ws.all decB)]) ∧ OwnI w' W.heap.size (.slice A (numsN ws).length c) (numsN ws) ∧ Below W.heap.size W w') :=
    fun W hW => readNumbers_any _ ws W (by rw [HB.out]; exact HW.out) hW (by omega)
  have HRD : Hid (∀ W, Std W → Calls Tryz.prog 32 #[.string ⟨ta.toArray⟩] W fun e w' => e = .returned (.tuple #[.int .i64 (decN ta), .bool (decB ta)]) ∧ Below W.heap.size W w') :=
    fun W hW => by have := readDecimal_any ⟨ta.toArray⟩ W hW (by omega); rwa [HA.out] at this
  rw [HW.out] at HP1 HP2
  have hxl : (numsN ws).length ≤ 900000001 := Nat.le_trans (numsN_len ws) hwl
  have HS := Lib.hid hS
  obtain ⟨xs, hx⟩ : ∃ xs, numsN ws = xs := ⟨_, rfl⟩
  obtain ⟨va, hva⟩ : ∃ va, decN ta = va := ⟨_, rfl⟩
  rw [hx] at HRN HP2 hxl
  rw [hva] at HRD HP2
  clear hS hx hva hta htb htf hwl hla hlb hc
  obtain ⟨b1, hb1⟩ : ∃ b1, decB ta = b1 := ⟨_, rfl⟩
  obtain ⟨b2, hb2⟩ : ∃ b2, ws.all decB = b2 := ⟨_, rfl⟩
  rw [hb1] at HP1 HP2 HRD
  rw [hb2] at HP1 HP2 HRN
  clear hb1 hb2 HA HB HW
  have hbb : (b1 && b2) = false ∨ (b1 = true ∧ b2 = true) := by cases b1 <;> cases b2 <;> simp
  rcases hbb with hbb | ⟨rfl, rfl⟩
  · have HR := Lib.hid (HP1.out hbb)
    clear HP1 HP2
    cases b1 <;> cases b2
    rotate_left 3
    · exact absurd hbb (by simp)
    all_goals
      clear hbb
      go_enter Tryz.func8, Tryz.ntmps8
      go_wp2_with fail
      refine (HCUT.out _ (HS.out.keep (below_alloc1 w _)).1 (by omega)).mono ?_
      rintro e w1 ⟨rfl, hn1⟩
      have hb1 := below_of_drewN hn1
      clear hn1
      have P1 := (Bf.alloc1 w _ _ _).keep hb1
      have K1 : Below w.heap.size w w1 := (below_alloc1 w _).trans (hb1.mono (by simp))
      clear hb1
      go_wp2_with fail
      refine (HRD.out _ (HS.out.keep K1)).mono ?_
      rintro e w2 ⟨rfl, hb2⟩
      have P2 := P1.keep hb2
      have K2 : Below w.heap.size w w2 := K1.trans (hb2.mono K1.size)
      clear P1 K1 hb2
      go_wp2_with fail
      refine (HRN.out _ (HS.out.keep K2)).mono ?_
      rintro e w3 ⟨A3, c3, rfl, o3, hb3⟩
      have P3 := P2.keep hb3
      have K3 : Below w.heap.size w w3 := K2.trans (hb3.mono K2.size)
      have O3 : Hid (OwnI w3 (w.heap.size + 1) (.slice A3 xs.length c3) xs) := o3.mono P2.1.1
      clear hb3 P2 K2 o3
      have p3a := P3.1.2.1
      have p3b := P3.1.2.2
      have p3c := P3.2.1
      have p3d := P3.2.2
      have z3 := P3.1.1
      go_wp2_with fail
      refine bodyPost_ret (v := .tuple #[.agg #[.int .i64 0, .slice none 0 0], .int .i64 6]) (by simp [results, Tryz.results8, go_sem, p3a, p3b, z3]) rfl (by rw [HR.out]; exact retSI_nil (by (repeat (first | assumption | exact Below.refl _ _ | (refine Below.alloc ?_ ?_ _; rotate_left; (focus (first | exact Nat.le_refl _ | omega | (simp; done) | (simp; omega)))) | (refine Below.setCell ?_ ?_ _; rotate_left; (focus (first | exact Nat.le_refl _ | omega | (simp; done) | (simp; omega)))) | refine below_drew ?_ | refine below_drewN ?_ _ | (refine Below.trans ?_ (Below.mono K3 ?_); rotate_left; (focus (first | exact Nat.le_refl _ | omega | (simp; done) | (simp; omega))))))))
  · have HR := Lib.hid (HP2.out rfl rfl)
    clear HP1 HP2
    cases hS : isSer va xs
    · have HS2 := Lib.hid hS
      have HR2 : Hid (parseS s.data.toList = ((0, []), 6)) := by unfold Hid; rw [HR.out, hS]; rfl
      clear hS HR
      go_enter Tryz.func8, Tryz.ntmps8
      go_wp2_with fail
      refine (HCUT.out _ (HS.out.keep (below_alloc1 w _)).1 (by omega)).mono ?_
      rintro e w1 ⟨rfl, hn1⟩
      have hb1 := below_of_drewN hn1
      clear hn1
      have P1 := (Bf.alloc1 w _ _ _).keep hb1
      have K1 : Below w.heap.size w w1 := (below_alloc1 w _).trans (hb1.mono (by simp))
      clear hb1
      go_wp2_with fail
      refine (HRD.out _ (HS.out.keep K1)).mono ?_
      rintro e w2 ⟨rfl, hb2⟩
      have P2 := P1.keep hb2
      have K2 : Below w.heap.size w w2 := K1.trans (hb2.mono K1.size)
      clear P1 K1 hb2
      go_wp2_with fail
      refine (HRN.out _ (HS.out.keep K2)).mono ?_
      rintro e w3 ⟨A3, c3, rfl, o3, hb3⟩
      have P3 := P2.keep hb3
      have K3 : Below w.heap.size w w3 := K2.trans (hb3.mono K2.size)
      have O3 : Hid (OwnI w3 (w.heap.size + 1) (.slice A3 xs.length c3) xs) := o3.mono P2.1.1
      clear hb3 P2 K2 o3
      have p3a := P3.1.2.1
      have p3b := P3.1.2.2
      have p3c := P3.2.1
      have p3d := P3.2.2
      have z3 := P3.1.1
      go_wp2_with fail
      refine (iIsSeries_any _ _ _ xs (w.heap.size + 1) (O3.out.alloc _) (by omega)).mono ?_
      rintro e w4 ⟨rfl, hb4⟩
      rw [HS2.out]
      have P4 := (P3.al _).keep hb4
      have K4 : Below w.heap.size w w4 := (K3.alloc (by omega) _).trans (hb4.mono (by simp; omega))
      have p4a := P4.1.2.1
      have p4b := P4.1.2.2
      have p4c := P4.2.1
      have p4d := P4.2.2
      clear hb4 p3a p3b p3c p3d
      go_wp2_with fail
      refine bodyPost_ret (v := .tuple #[.agg #[.int .i64 0, .slice none 0 0], .int .i64 6]) (by simp [results, Tryz.results8, go_sem, p4a, p4b]) rfl (by rw [HR2.out]; exact retSI_nil (by (repeat (first | assumption | exact Below.refl _ _ | (refine Below.alloc ?_ ?_ _; rotate_left; (focus (first | exact Nat.le_refl _ | omega | (simp; done) | (simp; omega)))) | (refine Below.setCell ?_ ?_ _; rotate_left; (focus (first | exact Nat.le_refl _ | omega | (simp; done) | (simp; omega)))) | refine below_drew ?_ | refine below_drewN ?_ _ | (refine Below.trans ?_ (Below.mono K4 ?_); rotate_left; (focus (first | exact Nat.le_refl _ | omega | (simp; done) | (simp; omega))))))))
    · have HS2 := Lib.hid hS
      have HR2 : Hid (parseS s.data.toList = ((va, xs), 0)) := by unfold Hid; rw [HR.out, hS]; rfl
      clear hS HR
      go_enter Tryz.func8, Tryz.ntmps8
      go_wp2_with fail
      refine (HCUT.out _ (HS.out.keep (below_alloc1 w _)).1 (by omega)).mono ?_
      rintro e w1 ⟨rfl, hn1⟩
      have hb1 := below_of_drewN hn1
      clear hn1
      have P1 := (Bf.alloc1 w _ _ _).keep hb1
      have K1 : Below w.heap.size w w1 := (below_alloc1 w _).trans (hb1.mono (by simp))
      clear hb1
      go_wp2_with fail
      refine (HRD.out _ (HS.out.keep K1)).mono ?_
      rintro e w2 ⟨rfl, hb2⟩
      have P2 := P1.keep hb2
      have K2 : Below w.heap.size w w2 := K1.trans (hb2.mono K1.size)
      clear P1 K1 hb2
      go_wp2_with fail
      refine (HRN.out _ (HS.out.keep K2)).mono ?_
      rintro e w3 ⟨A3, c3, rfl, o3, hb3⟩
      have P3 := P2.keep hb3
      have K3 : Below w.heap.size w w3 := K2.trans (hb3.mono K2.size)
      have O3 : Hid (OwnI w3 (w.heap.size + 1) (.slice A3 xs.length c3) xs) := o3.mono P2.1.1
      clear hb3 P2 K2 o3
      have p3a := P3.1.2.1
      have p3b := P3.1.2.2
      have p3c := P3.2.1
      have p3d := P3.2.2
      have z3 := P3.1.1
      go_wp2_with fail
      refine (iIsSeries_any _ _ _ xs (w.heap.size + 1) (O3.out.alloc _) (by omega)).mono ?_
      rintro e w4 ⟨rfl, hb4⟩
      rw [HS2.out]
      have P4 := (P3.al _).keep hb4
      have Q4 := (Bf.alloc1 w3 (.int .i64 va) (.slice A3 xs.length c3) 26).keep hb4
      have K4 : Below w.heap.size w w4 := (K3.alloc (by omega) _).trans (hb4.mono (by simp; omega))
      have O4 : Hid (OwnI w4 (w.heap.size + 1) (.slice A3 xs.length c3) xs) := (O3.out.alloc _).keep hb4 (Nat.le_refl _)
      have p4a := P4.1.2.1
      have p4b := P4.1.2.2
      have p4c := P4.2.1
      have p4d := P4.2.2
      have q4a := Q4.1.2.1
      have q4b := Q4.1.2.2
      clear hb4 p3a p3b p3c p3d
      go_wp2_with fail
      refine bodyPost_ret (v := .tuple #[.agg #[.int .i64 va, .slice A3 xs.length c3], .int .i64 0]) (by simp [results, Tryz.results8, go_sem, p4a, p4b]) rfl ?_
      rw [HR2.out]
      exact ⟨A3, c3, rfl, ((((O4.out).setCell_lt (Nat.lt_succ_self _) _).setCell_lt (Nat.lt_succ_self _) _)).mono (Nat.le_succ _), (K4.setCell (Nat.le_refl _) _).setCell (Nat.le_refl _) _⟩
theorem ParseSeriesR_len (t : List UInt8) : (ParseSeriesR t).1.2.length ≤ 100 := by
  unfold ParseSeriesR
  split
  · split
    · rename_i h
      have := (isSer_true h).2.1
      simp only; omega
    · simp
  · simp

end Go.Proofs.YtglbccikdglcgaaGreatDoor
