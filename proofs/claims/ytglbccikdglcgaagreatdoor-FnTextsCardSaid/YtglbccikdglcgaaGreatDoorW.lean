/- Contracts over this seat's translation. Condition: each contract's own. -/
import Derived.Test.YtglbccikdglcgaaGreatDoorR
import Derived.ProofKit
import Derived.Laws.Bits64b
import Derived.Lib.Mul64
import Derived.OpenShut
import Derived.Below
import Derived.ChangeSame
import Derived.Deep.Modes
import Derived.Lib.SmallJoins
import Derived.ChangeSlices
import Derived.WalkKit
import Derived.WalkSpells
import Derived.WalkLawsBesides
import Derived.Deep.QuietTactic
import Derived.BigQuiet
import Derived.Deep.RegionHeld3
import Derived.Deep.RegionWith
import Derived.Deep.RegionLaw
import Derived.Deep.AppendLies
import Derived.Laws.CopyOwn
import Derived.Deep.DeepCutAuto
import Derived.Deep.OwnRows
import Derived.Deep.LoopGhost
import Derived.Deep.DeepFit
import Derived.Deep.DeepMust
import Derived.Deep.Draws
import Derived.Deep.CutRange
import Derived.Maps.AppendAt
import Derived.Lib.Hide
import Derived.StillTailTactics
import Derived.Laws.MakeOwn
import Derived.Deep.Matrix
import Derived.ChangeAgain
import Derived.Lib.SplitLaws
import Derived.Lib.ParseIntB
import Derived.Lib.ItoaMem
import Derived.Lib.Join
import Derived.Lib.IndexBytes
set_option linter.unusedVariables false
open Go Go.RowKit
namespace Go.Proofs.YtglbccikdglcgaaGreatDoor
/-! ### The source behind its code: the loop of damages ends -/
/-- Two steps, n times. -/
def itr (f : Nat → Nat) : Nat → Nat → Nat
  | 0, h => h
  | n + 1, h => itr f n (f (f h))
/-- G holds at two double steps one behind the other, the last of them m double steps ahead. -/
def twoG (f : Nat → Nat) (G : Nat → Prop) : Nat → Nat → Prop
  | 0, h => G h
  | m + 1, h => G (itr f m h) ∧ G (itr f (m + 1) h)
theorem twoG_step {f : Nat → Nat} {G : Nat → Prop} {m h : Nat} (hg : ¬ G h) (hq : twoG f G m h) : ∃ j, m = j + 2 ∧ twoG f G (j + 1) (f (f h)) ∧ twoG f G j (f (f (f (f h)))) := by
  rcases m with _ | _ | j
  · exact absurd hq hg
  · exact absurd hq.1 hg
  · refine ⟨j, rfl, ⟨hq.1, hq.2⟩, ?_⟩
    rcases j with _ | i
    · exact hq.2
    · exact ⟨hq.1, hq.2⟩
theorem itr_add (f : Nat → Nat) (m n h : Nat) : itr f (m + n) h = itr f n (itr f m h) := by
  induction m generalizing h with
  | zero => rw [Nat.zero_add]; rfl
  | succ m ih => rw [show m + 1 + n = m + n + 1 by omega]; exact ih _
theorem itr_one (f : Nat → Nat) (h : Nat) : itr f 1 h = f (f h) := rfl
theorem itr_comm (f : Nat → Nat) (n h : Nat) : f (itr f n h) = itr f n (f h) := by
  induction n generalizing h with
  | zero => rfl
  | succ n ih => exact ih _
/-- The step of the source and the number that it draws. -/
def lcF (h : Nat) : Nat := (h * 6364136223846793005 + 1442695040888963407) % 18446744073709551616
def lcY (h : Nat) : Nat := h / 8589934592 % 16777216
theorem lcF_lt (h : Nat) : lcF h < 18446744073709551616 := Nat.mod_lt _ (by omega)
def lcT : List (Nat × Nat) := [(7520897724310334953, 1876011003808476466), (18108194425815612945, 7401132627792533940), (13086856194709077281, 6566661184467396264), (10186629832379121217, 3646985772805368400), (10828933358287359105, 982119659650238624), (4910590176156014849, 10607473198416945472), (9908147928152388097, 6914523672464851584), (146241703003251713, 4689171378020353280), (7321387688379467777, 8103286608563669504), (12255457568021647361, 7710372194127975424), (9867978473775767553, 16043993925053589504), (5088048636545613825, 1993901509916512256), (2150478223927705601, 13175896319671181312), (9196835419631190017, 1993366741509554176), (5957860013156466689, 7241871532530761728), (10389140232424652801, 9829074100562493440), (13023643825678581761, 7211655632440131584), (288945459443007489, 14014807304630960128), (13413133364217511937, 15586959662575517696), (8991946233350193153, 5614651135149211648), (1986842707489718273, 10449321915693662208), (13772462672974970881, 17778722412968280064), (11399802156803424257, 4631015078550831104), (13559343778149433345, 14683519683525607424), (8604389488178757633, 14159509325327892480), (16938562998715285505, 4382386631181598720), (14349518013152100353, 5251965553014210560), (5928836310318972929, 14899444342342025216)]
def lcS (p : Nat × Nat) : Nat × Nat := (p.1 * p.1 % 18446744073709551616, (p.2 * p.1 + p.2) % 18446744073709551616)
theorem lcT_next : ∀ k, k < 27 → lcT.getD (k + 1) (0, 0) = lcS (lcT.getD k (0, 0)) := by decide +kernel
theorem lcT_zero : lcT.getD 0 (0, 0) = lcS (6364136223846793005, 1442695040888963407) := by decide +kernel
theorem lc_two (M x a c : Nat) : ((x * a + c) % M * a + c) % M = (x * (a * a % M) + (c * a + c) % M) % M := by
  rw [Nat.add_mod, Nat.mod_mul_mod, ← Nat.add_mod, Nat.add_mod (x * (a * a % M)), Nat.mod_mod, Nat.mul_mod_mod, ← Nat.add_mod, Nat.add_mul, Nat.mul_assoc, Nat.add_assoc]
/-- 2^k double steps at once. -/
theorem lcI_pow (x : Nat) : ∀ k, k ≤ 27 → itr lcF (2 ^ k) x = (x * (lcT.getD k (0, 0)).1 + (lcT.getD k (0, 0)).2) % 18446744073709551616
  | 0, _ => by
    rw [lcT_zero, Nat.pow_zero, itr_one]
    unfold lcF
    rw [lc_two]
    simp only [lcS]
  | k + 1, h => by
    rw [show 2 ^ (k + 1) = 2 ^ k + 2 ^ k by rw [Nat.pow_succ]; omega, itr_add, lcI_pow x k (by omega), lcI_pow _ k (by omega), lc_two, lcT_next k (by omega)]
    simp only [lcS]
theorem lcT_low : ∀ k, k < 26 → (lcT.getD k (0, 0)).1 % 2 ^ (k + 2) = 1 ∧ (lcT.getD k (0, 0)).2 % 2 ^ (k + 2) = 2 ^ (k + 1) := by decide +kernel
theorem lc_low (x a c P Q q : Nat) (hQ : Q = P * q) (h1 : a % P = 1) : (x * a + c) % Q % P = (x + c % P) % P := by
  rw [hQ, Nat.mod_mul_right_mod, Nat.add_mod, Nat.mul_mod, h1, Nat.mul_one, Nat.mod_mod, ← Nat.add_mod, Nat.add_mod_mod]
theorem lc_split (k : Nat) (hk : k < 26) : 18446744073709551616 = 2 ^ (k + 2) * 2 ^ (62 - k) := by
  rw [← Nat.pow_add, show k + 2 + (62 - k) = 64 by omega]
theorem lcI_low (x k : Nat) (hk : k < 26) : itr lcF (2 ^ k) x % 2 ^ (k + 2) = (x + 2 ^ (k + 1)) % 2 ^ (k + 2) := by
  obtain ⟨h1, h2⟩ := lcT_low k hk
  rw [lcI_pow x k (by omega), lc_low x _ _ _ _ _ (lc_split k hk) h1, h2]
theorem mod_two (x q : Nat) : x % (q * 2) = x % q + q * (x / q % 2) := Nat.mod_mul
theorem mod_flip {x r q : Nat} (hq : 0 < q) (h : x % q = r % q) : x % (q * 2) = r % (q * 2) ∨ (x + q) % (q * 2) = r % (q * 2) := by
  rw [mod_two, mod_two, mod_two, Nat.add_mod_right, Nat.add_div_right x hq, h]
  have h1 := Nat.mod_lt (x / q) (show 0 < 2 by omega)
  have h2 := Nat.mod_lt (r / q) (show 0 < 2 by omega)
  by_cases e : x / q % 2 = r / q % 2
  · left; rw [e]
  · right
    rw [show (x / q).succ % 2 = r / q % 2 by omega]
/-- Every residue of the same parity is reached. -/
theorem lc_reach (x r : Nat) (h : x % 2 = r % 2) : ∀ k, k ≤ 26 → ∃ n, n < 2 ^ k ∧ itr lcF n x % 2 ^ (k + 1) = r % 2 ^ (k + 1)
  | 0, _ => ⟨0, by omega, h⟩
  | k + 1, hk => by
    obtain ⟨n, hn, he⟩ := lc_reach x r h k (by omega)
    have hp : 0 < 2 ^ (k + 1) := Nat.pow_pos (by omega)
    have e2 : 2 ^ (k + 1 + 1) = 2 ^ (k + 1) * 2 := Nat.pow_succ ..
    have e1 : 2 ^ (k + 1) = 2 ^ k * 2 := Nat.pow_succ ..
    rcases mod_flip hp he with h1 | h1
    · exact ⟨n, by omega, by rw [e2]; exact h1⟩
    · refine ⟨n + 2 ^ k, by omega, ?_⟩
      rw [itr_add, lcI_low _ k (by omega), show k + 2 = k + 1 + 1 by omega, e2]
      exact h1
/-- The residue of a drawn number modulo 3 behind j strides. -/
def lcP (lo D Y s w j : Nat) : Nat := (Y + j * D + (s + j * lo) / 32 + if w ≤ j then 2 else 0) % 3
def lcK (lo D Y s w : Nat) : List Bool := (List.range 7).map fun j => !(lcP lo D Y s w j == 0)
theorem lcK_at (lo D Y s w j : Nat) (hj : j < 7) : (lcK lo D Y s w).getD j false = !(lcP lo D Y s w j == 0) := by
  simp [lcK, List.getD_eq_getElem?_getD, hj]
theorem lcT_27 : lcT.getD 27 (0, 0) = (5928836310318972929, 14899444342342025216) := by decide +kernel
theorem lcT_0 : lcT.getD 0 (0, 0) = (7520897724310334953, 1876011003808476466) := by decide +kernel
theorem lc_one (z : Nat) : itr lcF 1 z = (z * 7520897724310334953 + 1876011003808476466) % 18446744073709551616 := by
  have := lcI_pow z 0 (by omega)
  rw [lcT_0, Nat.pow_zero] at this
  exact this
theorem lc_stride (z : Nat) : itr lcF 134217728 z = (z * 5928836310318972929 + 14899444342342025216) % 18446744073709551616 := by
  have := lcI_pow z 27 (by omega)
  rw [lcT_27, show 2 ^ 27 = 134217728 by decide] at this
  exact this
theorem lc_mod57 (x : Nat) : x % 18446744073709551616 % 144115188075855872 = x % 144115188075855872 := by omega
theorem lc_str1 (z : Nat) (h : z % 134217728 = 73376897) : itr lcF 134217728 z % 144115188075855872 = (z + 7724767117312) % 144115188075855872 := by
  rw [lc_stride, lc_mod57]
  omega
theorem lc_strs1 (x : Nat) (h : x % 134217728 = 73376897) : ∀ j, itr lcF (j * 134217728) x % 144115188075855872 = (x + j * 7724767117312) % 144115188075855872
  | 0 => by simp [itr]
  | j + 1 => by
    have ih := lc_strs1 x h j
    rw [Nat.succ_mul, itr_add]
    generalize itr lcF (j * 134217728) x = z at *
    rw [lc_str1 z (by omega)]
    omega
theorem lc_nxt1 (x j z : Nat) (h : z % 144115188075855872 = (x + j * 7724767117312) % 144115188075855872) : itr lcF 1 z % 144115188075855872 = (x * 7520897724310334953 + 1876011003808476466 + j * 75080591736832) % 144115188075855872 := by
  rw [lc_one, lc_mod57]
  omega
def lcA1 : List (List Bool) := [[false, false, true, false, false, true, true], [false, false, true, false, true, true, true], [false, false, true, true, false, false, true], [false, false, true, true, false, true, true], [false, false, true, true, true, false, true], [false, false, true, true, true, true, true], [false, true, false, false, true, true, false], [false, true, false, false, true, true, true], [false, true, false, true, true, true, false], [false, true, true, false, false, true, false], [false, true, true, false, false, true, true], [false, true, true, false, true, true, false], [false, true, true, false, true, true, true], [false, true, true, true, false, false, true], [false, true, true, true, false, true, false], [false, true, true, true, false, true, true], [false, true, true, true, true, true, false], [false, true, true, true, true, true, true], [true, false, false, true, false, false, true], [true, false, false, true, false, true, true], [true, false, false, true, true, false, false], [true, false, false, true, true, false, true], [true, false, false, true, true, true, false], [true, false, false, true, true, true, true], [true, false, true, false, false, true, true], [true, false, true, true, false, false, true], [true, false, true, true, false, true, true], [true, false, true, true, true, false, false], [true, false, true, true, true, false, true], [true, false, true, true, true, true, true], [true, true, false, false, true, false, false], [true, true, false, false, true, false, true], [true, true, false, false, true, true, false], [true, true, false, false, true, true, true], [true, true, false, true, false, false, true], [true, true, false, true, true, false, false], [true, true, false, true, true, false, true], [true, true, false, true, true, true, false], [true, true, false, true, true, true, true], [true, true, true, false, false, true, false], [true, true, true, false, false, true, true], [true, true, true, false, true, false, false], [true, true, true, false, true, true, false], [true, true, true, false, true, true, true], [true, true, true, true, false, false, true], [true, true, true, true, false, true, true], [true, true, true, true, true, false, false], [true, true, true, true, true, false, true], [true, true, true, true, true, true, false]]
def lcB1 : List (List Bool) := [[false, false, true, false, true, false, true], [false, false, true, false, true, true, true], [false, false, true, true, true, true, true], [false, true, false, false, true, false, true], [false, true, false, false, true, true, true], [false, true, false, true, false, false, true], [false, true, false, true, false, true, false], [false, true, false, true, false, true, true], [false, true, false, true, true, false, true], [false, true, false, true, true, true, false], [false, true, false, true, true, true, true], [false, true, true, false, true, false, true], [false, true, true, false, true, true, true], [false, true, true, true, false, true, false], [false, true, true, true, true, true, false], [false, true, true, true, true, true, true], [true, false, false, true, false, true, false], [true, false, false, true, false, true, true], [true, false, false, true, true, true, true], [true, false, true, false, false, true, false], [true, false, true, false, false, true, true], [true, false, true, false, true, false, false], [true, false, true, false, true, false, true], [true, false, true, false, true, true, false], [true, false, true, false, true, true, true], [true, false, true, true, false, true, false], [true, false, true, true, false, true, true], [true, false, true, true, true, false, true], [true, false, true, true, true, true, true], [true, true, false, false, true, false, true], [true, true, false, true, false, false, true], [true, true, false, true, false, true, false], [true, true, false, true, false, true, true], [true, true, false, true, true, false, true], [true, true, false, true, true, true, true], [true, true, true, false, false, true, false], [true, true, true, false, true, false, false], [true, true, true, false, true, false, true], [true, true, true, false, true, true, false], [true, true, true, true, false, false, true], [true, true, true, true, false, true, false], [true, true, true, true, false, true, true], [true, true, true, true, true, false, false], [true, true, true, true, true, false, true], [true, true, true, true, true, true, false], [true, true, true, true, true, true, true]]
theorem lcA1_in : ∀ Y, Y < 3 → ∀ s, s < 32 → ∀ w, w < 8 → lcK 9 2 Y s w ∈ lcA1 := by decide +kernel
theorem lcB1_in : ∀ Y, Y < 3 → ∀ s, s < 32 → ∀ w, w < 8 → lcK 17 1 Y s w ∈ lcB1 := by decide +kernel
theorem lcAB1 : ∀ a ∈ lcA1, ∀ b ∈ lcB1, ∃ j, j < 7 ∧ a.getD j false = true ∧ b.getD j false = true := by decide +kernel
theorem lcA1_v (v Y s j : Nat) (hv : v < 536870912) (hY : v = 32 * Y + s) (_hs : s < 32) (hj : j < 7) : (v + j * 28777) % 536870912 / 32 % 3 = lcP 9 2 (Y % 3) s (min 7 ((536870911 - v) / 28777 + 1)) j := by
  unfold lcP
  obtain ⟨w, hw⟩ : ∃ w, min 7 ((536870911 - v) / 28777 + 1) = w := ⟨_, rfl⟩
  rw [hw]
  have hA : (v + j * 28777) / 32 = Y + j * 899 + (s + j * 9) / 32 := by omega
  by_cases h : w ≤ j
  · have h2 : 536870912 ≤ v + j * 28777 := by
      have : (536870911 - v) / 28777 + 1 ≤ j := by omega
      have h3 := Nat.lt_succ_of_le this
      have h4 := (Nat.div_lt_iff_lt_mul (show 0 < 28777 by omega)).1 (show (536870911 - v) / 28777 < j by omega)
      omega
    rw [if_pos h]
    have h5 : (v + j * 28777) % 536870912 = v + j * 28777 - 536870912 := by omega
    rw [h5]
    omega
  · have h2 : v + j * 28777 < 536870912 := by
      have h3 : j < (536870911 - v) / 28777 + 1 := by omega
      have h4 := (Nat.le_div_iff_mul_le (show 0 < 28777 by omega)).1 (show j ≤ (536870911 - v) / 28777 by omega)
      omega
    rw [if_neg h, Nat.mod_eq_of_lt h2]
    omega
theorem lcA1_pt (x z j : Nat) (hj : j < 7) (h : z % 144115188075855872 = (x + j * 7724767117312) % 144115188075855872) : lcY z % 3 = lcP 9 2 (x / 268435456 % 536870912 / 32 % 3) (x / 268435456 % 536870912 % 32) (min 7 ((536870911 - x / 268435456 % 536870912) / 28777 + 1)) j := by
  have hv := Nat.mod_lt (x / 268435456) (show 0 < 536870912 by omega)
  rw [← lcA1_v (x / 268435456 % 536870912) (x / 268435456 % 536870912 / 32) (x / 268435456 % 536870912 % 32) j hv (by omega) (by omega) hj]
  unfold lcY
  congr 1
  omega
theorem lcB1_v (v Y s j : Nat) (hv : v < 536870912) (hY : v = 32 * Y + s) (_hs : s < 32) (hj : j < 7) : (v + j * 279697) % 536870912 / 32 % 3 = lcP 17 1 (Y % 3) s (min 7 ((536870911 - v) / 279697 + 1)) j := by
  unfold lcP
  obtain ⟨w, hw⟩ : ∃ w, min 7 ((536870911 - v) / 279697 + 1) = w := ⟨_, rfl⟩
  rw [hw]
  have hA : (v + j * 279697) / 32 = Y + j * 8740 + (s + j * 17) / 32 := by omega
  by_cases h : w ≤ j
  · have h2 : 536870912 ≤ v + j * 279697 := by
      have : (536870911 - v) / 279697 + 1 ≤ j := by omega
      have h3 := Nat.lt_succ_of_le this
      have h4 := (Nat.div_lt_iff_lt_mul (show 0 < 279697 by omega)).1 (show (536870911 - v) / 279697 < j by omega)
      omega
    rw [if_pos h]
    have h5 : (v + j * 279697) % 536870912 = v + j * 279697 - 536870912 := by omega
    rw [h5]
    omega
  · have h2 : v + j * 279697 < 536870912 := by
      have h3 : j < (536870911 - v) / 279697 + 1 := by omega
      have h4 := (Nat.le_div_iff_mul_le (show 0 < 279697 by omega)).1 (show j ≤ (536870911 - v) / 279697 by omega)
      omega
    rw [if_neg h, Nat.mod_eq_of_lt h2]
    omega
theorem lcB1_pt (x z j : Nat) (hj : j < 7) (h : z % 144115188075855872 = (x + j * 75080591736832) % 144115188075855872) : lcY z % 3 = lcP 17 1 (x / 268435456 % 536870912 / 32 % 3) (x / 268435456 % 536870912 % 32) (min 7 ((536870911 - x / 268435456 % 536870912) / 279697 + 1)) j := by
  have hv := Nat.mod_lt (x / 268435456) (show 0 < 536870912 by omega)
  rw [← lcB1_v (x / 268435456 % 536870912) (x / 268435456 % 536870912 / 32) (x / 268435456 % 536870912 % 32) j hv (by omega) (by omega) hj]
  unfold lcY
  congr 1
  omega
theorem lc_str0 (z : Nat) (h : z % 134217728 = 50273842) : itr lcF 134217728 z % 144115188075855872 = (z + 129505343569920) % 144115188075855872 := by
  rw [lc_stride, lc_mod57]
  omega
theorem lc_strs0 (x : Nat) (h : x % 134217728 = 50273842) : ∀ j, itr lcF (j * 134217728) x % 144115188075855872 = (x + j * 129505343569920) % 144115188075855872
  | 0 => by simp [itr]
  | j + 1 => by
    have ih := lc_strs0 x h j
    rw [Nat.succ_mul, itr_add]
    generalize itr lcF (j * 134217728) x = z at *
    rw [lc_str0 z (by omega)]
    omega
theorem lc_nxt0 (x j z : Nat) (h : z % 144115188075855872 = (x + j * 129505343569920) % 144115188075855872) : itr lcF 1 z % 144115188075855872 = (x * 7520897724310334953 + 1876011003808476466 + j * 26754693464064) % 144115188075855872 := by
  rw [lc_one, lc_mod57]
  omega
def lcA0 : List (List Bool) := [[false, false, true, false, true, false, true], [false, true, false, false, true, false, true], [false, true, false, true, false, false, true], [false, true, false, true, false, true, false], [false, true, false, true, false, true, true], [false, true, false, true, true, false, true], [false, true, false, true, true, true, true], [false, true, true, false, true, false, true], [false, true, true, true, true, false, true], [false, true, true, true, true, true, true], [true, false, false, true, false, true, false], [true, false, true, false, false, true, false], [true, false, true, false, true, false, false], [true, false, true, false, true, false, true], [true, false, true, false, true, true, false], [true, false, true, false, true, true, true], [true, false, true, true, false, true, false], [true, false, true, true, true, true, false], [true, false, true, true, true, true, true], [true, true, false, true, false, true, false], [true, true, false, true, false, true, true], [true, true, false, true, true, true, true], [true, true, true, false, true, false, true], [true, true, true, false, true, true, true], [true, true, true, true, false, true, false], [true, true, true, true, false, true, true], [true, true, true, true, true, false, true], [true, true, true, true, true, true, false], [true, true, true, true, true, true, true]]
def lcB0 : List (List Bool) := [[false, false, false, false, true, true, true], [false, false, false, true, true, true, false], [false, false, false, true, true, true, true], [false, false, true, false, true, true, true], [false, false, true, true, true, false, false], [false, false, true, true, true, false, true], [false, false, true, true, true, true, false], [false, false, true, true, true, true, true], [false, true, false, false, true, true, true], [false, true, false, true, true, true, false], [false, true, false, true, true, true, true], [false, true, true, true, false, false, false], [false, true, true, true, false, false, true], [false, true, true, true, false, true, false], [false, true, true, true, false, true, true], [false, true, true, true, true, false, false], [false, true, true, true, true, false, true], [false, true, true, true, true, true, false], [true, false, false, false, false, true, true], [true, false, false, false, true, true, true], [true, false, false, true, false, true, true], [true, false, false, true, true, true, false], [true, false, false, true, true, true, true], [true, false, true, false, false, true, true], [true, false, true, false, true, true, true], [true, false, true, true, true, false, false], [true, false, true, true, true, false, true], [true, false, true, true, true, true, false], [true, false, true, true, true, true, true], [true, true, false, false, false, false, true], [true, true, false, false, false, true, true], [true, true, false, false, true, false, true], [true, true, false, false, true, true, true], [true, true, false, true, false, false, true], [true, true, false, true, false, true, true], [true, true, false, true, true, true, false], [true, true, false, true, true, true, true], [true, true, true, false, false, false, false], [true, true, true, false, false, false, true], [true, true, true, false, false, true, false], [true, true, true, false, false, true, true], [true, true, true, false, true, false, false], [true, true, true, false, true, false, true], [true, true, true, false, true, true, true], [true, true, true, true, false, false, false], [true, true, true, true, false, false, true], [true, true, true, true, false, true, false], [true, true, true, true, false, true, true], [true, true, true, true, true, false, false], [true, true, true, true, true, false, true]]
theorem lcA0_in : ∀ Y, Y < 3 → ∀ s, s < 32 → ∀ w, w < 8 → lcK 13 1 Y s w ∈ lcA0 := by decide +kernel
theorem lcB0_in : ∀ Y, Y < 3 → ∀ s, s < 32 → ∀ w, w < 8 → lcK 21 0 Y s w ∈ lcB0 := by decide +kernel
theorem lcAB0 : ∀ a ∈ lcA0, ∀ b ∈ lcB0, ∃ j, j < 7 ∧ a.getD j false = true ∧ b.getD j false = true := by decide +kernel
theorem lcA0_v (v Y s j : Nat) (hv : v < 536870912) (hY : v = 32 * Y + s) (_hs : s < 32) (hj : j < 7) : (v + j * 482445) % 536870912 / 32 % 3 = lcP 13 1 (Y % 3) s (min 7 ((536870911 - v) / 482445 + 1)) j := by
  unfold lcP
  obtain ⟨w, hw⟩ : ∃ w, min 7 ((536870911 - v) / 482445 + 1) = w := ⟨_, rfl⟩
  rw [hw]
  have hA : (v + j * 482445) / 32 = Y + j * 15076 + (s + j * 13) / 32 := by omega
  by_cases h : w ≤ j
  · have h2 : 536870912 ≤ v + j * 482445 := by
      have : (536870911 - v) / 482445 + 1 ≤ j := by omega
      have h3 := Nat.lt_succ_of_le this
      have h4 := (Nat.div_lt_iff_lt_mul (show 0 < 482445 by omega)).1 (show (536870911 - v) / 482445 < j by omega)
      omega
    rw [if_pos h]
    have h5 : (v + j * 482445) % 536870912 = v + j * 482445 - 536870912 := by omega
    rw [h5]
    omega
  · have h2 : v + j * 482445 < 536870912 := by
      have h3 : j < (536870911 - v) / 482445 + 1 := by omega
      have h4 := (Nat.le_div_iff_mul_le (show 0 < 482445 by omega)).1 (show j ≤ (536870911 - v) / 482445 by omega)
      omega
    rw [if_neg h, Nat.mod_eq_of_lt h2]
    omega
theorem lcA0_pt (x z j : Nat) (hj : j < 7) (h : z % 144115188075855872 = (x + j * 129505343569920) % 144115188075855872) : lcY z % 3 = lcP 13 1 (x / 268435456 % 536870912 / 32 % 3) (x / 268435456 % 536870912 % 32) (min 7 ((536870911 - x / 268435456 % 536870912) / 482445 + 1)) j := by
  have hv := Nat.mod_lt (x / 268435456) (show 0 < 536870912 by omega)
  rw [← lcA0_v (x / 268435456 % 536870912) (x / 268435456 % 536870912 / 32) (x / 268435456 % 536870912 % 32) j hv (by omega) (by omega) hj]
  unfold lcY
  congr 1
  omega
theorem lcB0_v (v Y s j : Nat) (hv : v < 536870912) (hY : v = 32 * Y + s) (_hs : s < 32) (hj : j < 7) : (v + j * 99669) % 536870912 / 32 % 3 = lcP 21 0 (Y % 3) s (min 7 ((536870911 - v) / 99669 + 1)) j := by
  unfold lcP
  obtain ⟨w, hw⟩ : ∃ w, min 7 ((536870911 - v) / 99669 + 1) = w := ⟨_, rfl⟩
  rw [hw]
  have hA : (v + j * 99669) / 32 = Y + j * 3114 + (s + j * 21) / 32 := by omega
  by_cases h : w ≤ j
  · have h2 : 536870912 ≤ v + j * 99669 := by
      have : (536870911 - v) / 99669 + 1 ≤ j := by omega
      have h3 := Nat.lt_succ_of_le this
      have h4 := (Nat.div_lt_iff_lt_mul (show 0 < 99669 by omega)).1 (show (536870911 - v) / 99669 < j by omega)
      omega
    rw [if_pos h]
    have h5 : (v + j * 99669) % 536870912 = v + j * 99669 - 536870912 := by omega
    rw [h5]
    omega
  · have h2 : v + j * 99669 < 536870912 := by
      have h3 : j < (536870911 - v) / 99669 + 1 := by omega
      have h4 := (Nat.le_div_iff_mul_le (show 0 < 99669 by omega)).1 (show j ≤ (536870911 - v) / 99669 by omega)
      omega
    rw [if_neg h, Nat.mod_eq_of_lt h2]
    omega
theorem lcB0_pt (x z j : Nat) (hj : j < 7) (h : z % 144115188075855872 = (x + j * 26754693464064) % 144115188075855872) : lcY z % 3 = lcP 21 0 (x / 268435456 % 536870912 / 32 % 3) (x / 268435456 % 536870912 % 32) (min 7 ((536870911 - x / 268435456 % 536870912) / 99669 + 1)) j := by
  have hv := Nat.mod_lt (x / 268435456) (show 0 < 536870912 by omega)
  rw [← lcB0_v (x / 268435456 % 536870912) (x / 268435456 % 536870912 / 32) (x / 268435456 % 536870912 % 32) j hv (by omega) (by omega) hj]
  unfold lcY
  congr 1
  omega
/-- The drawn number ends the loop. -/
def lcG (h : Nat) : Prop := lcY (lcF h) % 3 ≠ 0
theorem lc_ends_at {x n j : Nat} (h1 : lcY (itr lcF j (itr lcF n x)) % 3 ≠ 0) (h2 : lcY (itr lcF 1 (itr lcF j (itr lcF n x))) % 3 ≠ 0) (h : Nat) (hx : lcF h = x) : twoG lcF lcG (n + j + 1) h := by
  refine ⟨?_, ?_⟩
  · show lcY (lcF (itr lcF (n + j) h)) % 3 ≠ 0
    rw [itr_comm lcF, hx, itr_add]
    exact h1
  · show lcY (lcF (itr lcF (n + j + 1) h)) % 3 ≠ 0
    rw [itr_comm lcF, hx, itr_add, itr_add]
    exact h2
theorem lcK_true {lo D Y s w j : Nat} (hj : j < 7) (h : (lcK lo D Y s w).getD j false = true) : lcP lo D Y s w j ≠ 0 := by
  rw [lcK_at lo D Y s w j hj] at h
  simpa using h
theorem lc_ends1 (h : Nat) (hp : lcF h % 2 = 1) : ∃ m, m ≤ 872415233 ∧ twoG lcF lcG m h := by
  obtain ⟨x, hx⟩ : ∃ x, lcF h = x := ⟨_, rfl⟩
  rw [hx] at hp
  obtain ⟨n, hn, hr⟩ := lc_reach x 73376897 (by rw [hp]) 26 (Nat.le_refl _)
  have e26 : 2 ^ 26 = 67108864 := by decide
  have e27 : 2 ^ (26 + 1) = 134217728 := by decide
  rw [e26] at hn
  rw [e27] at hr
  obtain ⟨X, hX⟩ : ∃ X, itr lcF n x = X := ⟨_, rfl⟩
  rw [hX] at hr
  have hr2 : X % 134217728 = 73376897 := by omega
  obtain ⟨j, hj, ha, hb⟩ := lcAB1 _ (lcA1_in (X / 268435456 % 536870912 / 32 % 3) (by omega) (X / 268435456 % 536870912 % 32) (by omega) (min 7 ((536870911 - X / 268435456 % 536870912) / 28777 + 1)) (by omega)) _ (lcB1_in ((X * 7520897724310334953 + 1876011003808476466) / 268435456 % 536870912 / 32 % 3) (by omega) ((X * 7520897724310334953 + 1876011003808476466) / 268435456 % 536870912 % 32) (by omega) (min 7 ((536870911 - (X * 7520897724310334953 + 1876011003808476466) / 268435456 % 536870912) / 279697 + 1)) (by omega))
  have hs := lc_strs1 X hr2 j
  have h1 := lcA1_pt X _ j hj hs
  have h2 := lcB1_pt (X * 7520897724310334953 + 1876011003808476466) _ j hj (lc_nxt1 X j _ hs)
  refine ⟨n + j * 134217728 + 1, by omega, lc_ends_at (x := x) ?_ ?_ h hx⟩
  · rw [hX, h1]
    exact lcK_true hj ha
  · rw [hX, h2]
    exact lcK_true hj hb
theorem lc_ends0 (h : Nat) (hp : lcF h % 2 = 0) : ∃ m, m ≤ 872415233 ∧ twoG lcF lcG m h := by
  obtain ⟨x, hx⟩ : ∃ x, lcF h = x := ⟨_, rfl⟩
  rw [hx] at hp
  obtain ⟨n, hn, hr⟩ := lc_reach x 50273842 (by rw [hp]) 26 (Nat.le_refl _)
  have e26 : 2 ^ 26 = 67108864 := by decide
  have e27 : 2 ^ (26 + 1) = 134217728 := by decide
  rw [e26] at hn
  rw [e27] at hr
  obtain ⟨X, hX⟩ : ∃ X, itr lcF n x = X := ⟨_, rfl⟩
  rw [hX] at hr
  have hr2 : X % 134217728 = 50273842 := by omega
  obtain ⟨j, hj, ha, hb⟩ := lcAB0 _ (lcA0_in (X / 268435456 % 536870912 / 32 % 3) (by omega) (X / 268435456 % 536870912 % 32) (by omega) (min 7 ((536870911 - X / 268435456 % 536870912) / 482445 + 1)) (by omega)) _ (lcB0_in ((X * 7520897724310334953 + 1876011003808476466) / 268435456 % 536870912 / 32 % 3) (by omega) ((X * 7520897724310334953 + 1876011003808476466) / 268435456 % 536870912 % 32) (by omega) (min 7 ((536870911 - (X * 7520897724310334953 + 1876011003808476466) / 268435456 % 536870912) / 99669 + 1)) (by omega))
  have hs := lc_strs0 X hr2 j
  have h1 := lcA0_pt X _ j hj hs
  have h2 := lcB0_pt (X * 7520897724310334953 + 1876011003808476466) _ j hj (lc_nxt0 X j _ hs)
  refine ⟨n + j * 134217728 + 1, by omega, lc_ends_at (x := x) ?_ ?_ h hx⟩
  · rw [hX, h1]
    exact lcK_true hj ha
  · rw [hX, h2]
    exact lcK_true hj hb
/-- From every state the loop ends within 872415233 double steps. -/
theorem lc_ends (h : Nat) : ∃ m, m ≤ 872415233 ∧ twoG lcF lcG m h := by
  rcases Nat.mod_two_eq_zero_or_one (lcF h) with e | e
  · exact lc_ends0 h e
  · exact lc_ends1 h e

end Go.Proofs.YtglbccikdglcgaaGreatDoor
