/- Contracts over this seat's translation. Condition: each contract's own. -/
import Derived.Test.YtglbccikdglcgaaGreatDoorF
import Derived.ProofKit
import Derived.Laws.Bits64b
import Derived.Lib.Mul64
import Derived.OpenShut
import Derived.Below
import Derived.ChangeSame
import Derived.Deep.Modes
import Derived.Lib.SmallJoins
import Derived.ChangeSlices
import Derived.WalkKit
import Derived.WalkSpells
import Derived.WalkLawsBesides
import Derived.Deep.QuietTactic
import Derived.BigQuiet
import Derived.Deep.RegionHeld3
import Derived.Deep.RegionWith
import Derived.Deep.RegionLaw
import Derived.Deep.AppendLies
import Derived.Laws.CopyOwn
import Derived.Deep.DeepCutAuto
import Derived.Deep.OwnRows
import Derived.Deep.LoopGhost
import Derived.Deep.DeepFit
import Derived.Deep.DeepMust
import Derived.Deep.Draws
import Derived.Deep.CutRange
import Derived.Maps.AppendAt
import Derived.Lib.Hide
import Derived.StillTailTactics
import Derived.Laws.MakeOwn
import Derived.Deep.Matrix
import Derived.ChangeAgain
import Derived.SizedLaws
import Derived.Handed
import Derived.Lib.SplitLaws
import Derived.Lib.ParseIntB
import Derived.Lib.ItoaMem
import Derived.Lib.ItoaLen
import Derived.Laws.BytesArg
import Derived.Lib.Join
import Derived.Lib.IndexBytes
set_option linter.unusedVariables false
open Go Go.RowKit
namespace Go.Proofs.YtglbccikdglcgaaGreatDoor
/-! ### Numbers in decimal, of the reference -/
theorem decDigits_lt {u : Nat} (h : u < 10) : Lib.decDigits u = [UInt8.ofNat (48 + u)] := by rw [Lib.decDigits, dif_pos h]
theorem decDigits_ge {u : Nat} (h : ¬ u < 10) : Lib.decDigits u = Lib.decDigits (u / 10) ++ [UInt8.ofNat (48 + u % 10)] := by rw [Lib.decDigits, dif_neg h]
theorem convOne (W : World) (b : Nat) (d : Int) (h0 : 0 ≤ d) (x : UInt8) (hd : UInt8.ofNat d.toNat = x) (h : W.cell? ⟨b, 0, none⟩ = some (.int .u8 d)) :
    (convert 22 9 (.slice (some ⟨b, 0, none⟩) 1 1)).run Tryz.prog W = .ok (.string ⟨#[x]⟩) W := by
  have := run_convert_bytes_arg (P := Tryz.prog) W 22 5 Tryz.underlying22 Tryz.underlying5 b 0 1 1 [d] rfl (fun i hi => by
    obtain rfl : i = 0 := by omega
    simpa using h) 9 Tryz.underlying9
  rw [this]
  simp only [strOfNums, List.map_cons, List.map_nil]
  rw [← hd]
theorem app_mk (a b : List UInt8) : (⟨a.toArray⟩ : ByteArray) ++ ⟨b.toArray⟩ = ⟨(a ++ b).toArray⟩ := by
  apply ByteArray.ext
  simp
set_option maxRecDepth 4000 in
set_option maxHeartbeats 1000000 in
theorem l01Dec_small (n : Int) (h0 : 0 ≤ n) (h9 : n < 10) (w : World) :
    Calls Tryz.prog 66 #[.int .i64 n] w fun e w' => e = .returned (.string ⟨(Lib.decDigits n.toNat).toArray⟩) ∧ Below w.heap.size w w' := by
  have HD : Hid (Lib.decDigits n.toNat = [UInt8.ofNat (48 + n).toNat]) := by unfold Hid; rw [decDigits_lt (by omega)]; congr 2; omega
  have hcv := convOne (w.alloc (.cells #[.int .u8 (48 + n)] 5)) w.heap.size (48 + n) (by omega) _ rfl (by simp)
  go_enter Tryz.func66, Tryz.ntmps66
  go_wp2
  go_ret
  exact ⟨by rw [HD.out]; rfl, by (repeat (first | assumption | exact Below.refl _ _ | refine Below.alloc ?_ (by first | omega | (simp; done) | (simp; omega)) _ | refine Below.setCell ?_ (by first | omega | (simp; done) | (simp; omega)) _ | refine below_drewN ?_ _))⟩
set_option maxRecDepth 4000 in
set_option maxHeartbeats 400000 in
theorem l01Dec_step (n : Int) (h0 : 10 ≤ n) (h1 : n ≤ 1000000) (w : World) (t : List UInt8) (ht : Lib.decDigits (n / 10).toNat = t) (hlt : t.length ≤ 100)
    (IH : ∀ W, Calls Tryz.prog 66 #[.int .i64 (n / 10)] W fun e w' => e = .returned (.string ⟨t.toArray⟩) ∧ Below W.heap.size W w') :
    Calls Tryz.prog 66 #[.int .i64 n] w fun e w' => e = .returned (.string ⟨(Lib.decDigits n.toNat).toArray⟩) ∧ Below w.heap.size w w' := by
  have HD : Hid (Lib.decDigits n.toNat = t ++ [UInt8.ofNat (48 + n % 10).toNat]) := by
    unfold Hid; rw [decDigits_ge (by omega), ← ht]; congr 2
    · congr 1; omega
    · congr 2; omega
  have HIH := Lib.hid IH
  clear IH ht
  have hq : n.tdiv 10 = n / 10 := Int.tdiv_eq_ediv_of_nonneg (by omega)
  have hr : n.tmod 10 = n % 10 := Int.tmod_eq_emod_of_nonneg (by omega)
  have hq0 : 0 ≤ n / 10 ∧ n / 10 ≤ 100000 := by omega
  have hr0 : 0 ≤ n % 10 ∧ n % 10 < 10 := by omega
  obtain ⟨x, HX⟩ : ∃ x, Hid (UInt8.ofNat (48 + n % 10).toNat = x) := ⟨_, rfl⟩
  rw [HX.out] at HD
  obtain ⟨S, HS⟩ : ∃ S : ByteArray, Hid ((⟨t.toArray⟩ : ByteArray) = S) := ⟨_, rfl⟩
  obtain ⟨X, HXX⟩ : ∃ X : ByteArray, Hid ((⟨#[x]⟩ : ByteArray) = X) := ⟨_, rfl⟩
  rw [HS.out] at HIH
  have hsz : S.size ≤ 100 := by rw [← HS.out, size_mk]; exact hlt
  have hsz1 : X.size = 1 := by rw [← HXX.out]; rfl
  have hcv : ∀ (W : World) (b : Nat), W.cell? ⟨b, 0, none⟩ = some (.int .u8 (48 + n % 10)) → (convert 22 9 (.slice (some ⟨b, 0, none⟩) 1 1)).run Tryz.prog W = .ok (.string X) W := fun W b h => by rw [← HXX.out]; exact convOne W b (48 + n % 10) (by omega) x HX.out h
  have HR : Hid (S ++ X = ⟨(Lib.decDigits n.toNat).toArray⟩) := by unfold Hid; rw [HD.out, ← HS.out, ← HXX.out]; exact app_mk t [x]
  clear hlt h1
  have v1 : IntKind.i64.wrap (n / 10) = n / 10 := IntWalk.i64_in _ (by omega)
  have v2 : IntKind.i64.wrap (48 + n % 10) = 48 + n % 10 := IntWalk.i64_in _ (by omega)
  have v3 : IntKind.u8.wrap (48 + n % 10) = 48 + n % 10 := IntWalk.u8_in _ (by omega)
  have v4 : ¬ 9223372036854775807 < S.size + 1 := by omega
  go_enter Tryz.func66, Tryz.ntmps66
  go_upto_region 3 with fail
  go_region_law (go_simp; go_at_call 66; refine (HIH.out _).mono ?_; rintro e w3 ⟨rfl, hb3⟩; obtain ⟨hc3, hf3⟩ := bcell hb3; have s3 := hb3.size; (try simp at s3))
  all_goals
    go_wp2_with fail
    go_ret
    exact ⟨by rw [← HR.out]; rfl, by (repeat (first | assumption | exact Below.refl _ _ | (refine Below.alloc ?_ ?_ _; rotate_left; (focus (first | exact Nat.le_refl _ | omega | (simp; done) | (simp; omega)))) | (refine Below.setCell ?_ ?_ _; rotate_left; (focus (first | exact Nat.le_refl _ | omega | (simp; done) | (simp; omega)))) | refine below_drew ?_ | refine below_drewN ?_ _ | (refine Below.trans ?_ (Below.mono hb3 ?_); rotate_left; (focus (first | exact Nat.le_refl _ | omega | (simp; done) | (simp; omega))))))⟩
theorem l01Dec_any (N : Nat) : ∀ (n : Int) (w : World), 0 ≤ n → n ≤ 1000000 → n.toNat ≤ N →
    Calls Tryz.prog 66 #[.int .i64 n] w fun e w' => e = .returned (.string ⟨(Lib.decDigits n.toNat).toArray⟩) ∧ Below w.heap.size w w' := by
  induction N with
  | zero => intro n w h0 h1 h2; exact l01Dec_small n h0 (by omega) w
  | succ N ih =>
    intro n w h0 h1 h2
    by_cases h9 : n < 10
    · exact l01Dec_small n h0 h9 w
    · refine l01Dec_step n (by omega) h1 w _ rfl ?_ fun W => ih (n / 10) W (by omega) (by omega) (by omega)
      rw [Lib.decDigits_length]
      have := Lib.nDigits_le20 (n / 10).toNat (by omega)
      omega
theorem dec_any (n : Int) (w : World) (h0 : 0 ≤ n) (h1 : n ≤ 1000000) : Calls Tryz.prog 66 #[.int .i64 n] w fun e w' => e = .returned (.string ⟨(Lib.itoa n).toArray⟩) ∧ Below w.heap.size w w' := by
  obtain ⟨u, rfl⟩ := Int.eq_ofNat_of_zero_le h0
  rw [itoa_nat]
  exact l01Dec_any u u w h0 h1 (by simp)
/-! ### Numbers and commas -/
theorem join_snoc (c : UInt8) (ws : List (List UInt8)) (x : List UInt8) : Lib.join (ws ++ [x]) [c] = if ws = [] then x else Lib.join ws [c] ++ [c] ++ x := by
  cases ws with
  | nil => simp [Lib.join, List.intercalate]
  | cons a r =>
    rw [if_neg (by simp)]
    unfold Lib.join
    rw [List.cons_append, joinTail_cons, joinTail_cons]
    simp [Lib.joinTail]
def lenSum (ws : List (List UInt8)) : Nat := (ws.map fun w => w.length + 1).sum
theorem join_len (c : UInt8) : ∀ ws : List (List UInt8), (Lib.join ws [c]).length ≤ lenSum ws
  | [] => by simp [Lib.join, lenSum]
  | [a] => by simp [Lib.join, lenSum, List.intercalate]
  | a :: b :: r => by
    have ih := join_len c (b :: r)
    unfold Lib.join at ih ⊢
    rw [joinTail_cons] at ih ⊢
    simp only [Lib.joinTail, List.map_cons, List.flatten_cons, lenSum, List.sum_cons, List.length_append, List.length_cons, List.length_nil] at ih ⊢
    omega
theorem itoa_len {n : Int} (h0 : 0 ≤ n) (h1 : n ≤ 1000000) : (Lib.itoa n).length ≤ 20 := by
  obtain ⟨u, rfl⟩ := Int.eq_ofNat_of_zero_le h0
  rw [itoa_nat, Lib.decDigits_length]
  exact Lib.nDigits_le20 u (by omega)
theorem lenSum_le {ws : List (List UInt8)} {b : Nat} (h : ∀ w ∈ ws, w.length ≤ b) : lenSum ws ≤ ws.length * (b + 1) := by
  induction ws with
  | nil => simp [lenSum]
  | cons a r ih =>
    have := ih fun w hw => h w (by simp [hw])
    have h1 := h a (by simp)
    unfold lenSum at this ⊢
    simp only [List.map_cons, List.sum_cons, List.length_cons, Nat.succ_mul]
    omega
theorem listT_len {xs : List Int} (h : ∀ k, 0 ≤ xs.getD k 0 ∧ xs.getD k 0 ≤ 1000000) : (listT xs).length ≤ xs.length * 21 := by
  unfold listT
  refine Nat.le_trans (join_len _ _) (Nat.le_trans (lenSum_le (b := 20) fun w hw => ?_) (by rw [List.length_map]; exact Nat.le_refl _))
  obtain ⟨x, hx, rfl⟩ := List.mem_map.1 hw
  obtain ⟨i, hi, rfl⟩ := List.mem_iff_getElem.1 hx
  have := h i
  rw [List.getD_eq_getElem?_getD, List.getElem?_eq_getElem hi] at this
  exact itoa_len this.1 this.2
theorem listT_step {xs : List Int} {k : Nat} (hk : k < xs.length) : listT (xs.take (k + 1)) = if k = 0 then Lib.itoa (xs.getD k 0) else listT (xs.take k) ++ [44] ++ Lib.itoa (xs.getD k 0) := by
  unfold listT
  rw [List.take_succ_eq_append_getElem hk, List.map_append, List.map_cons, List.map_nil, join_snoc, List.getD_eq_getElem?_getD, List.getElem?_eq_getElem hk]
  have : (xs.take k).map Lib.itoa = [] ↔ k = 0 := by
    rw [List.map_eq_nil_iff, List.take_eq_nil_iff]
    constructor
    · rintro (h | h)
      · exact h
      · rw [h] at hk; simp at hk
    · exact fun h => .inl h
  simp only [this, Option.getD_some]

set_option maxRecDepth 4000 in
set_option maxHeartbeats 1000000 in
theorem l02List_any (w : World) (v : Value) (xs : List Int) (hv : RdI w v xs) (hl : xs.length ≤ 1000000) (hn : ∀ k, 0 ≤ xs.getD k 0 ∧ xs.getD k 0 ≤ 1000000) :
    Calls Tryz.prog 67 #[v] w fun e w' => e = .returned (.string ⟨(listT xs).toArray⟩) ∧ Below w.heap.size w w' := by
  obtain ⟨A, c, e0, hc1, hc2, hA⟩ := hv
  subst e0
  unfold maxLen at hc2
  have HN := Lib.hid hn
  clear hn
  go_enter Tryz.func67, Tryz.ntmps67
  go_wp2
  go_loopw [3, 4] (fun q i wr => ∃ (k : Nat) (S : ByteArray), k ≤ xs.length ∧ i = .int .i64 k ∧ q = .string S ∧ Hid (S = ⟨(listT (xs.take k)).toArray⟩) ∧ S.size ≤ 21000000 ∧ Hid (Below w.heap.size w wr)) (fun _ i _ => xs.length - (intOf i).toNat)
  case atStart => exact ⟨0, _, Nat.zero_le _, rfl, rfl, by unfold Hid; simp [listT, Lib.join], by decide, Below.refl _ _⟩
  case round =>
    obtain ⟨k, S, hk, rfl, rfl, HS, hsz, hb⟩ := hrel
    have hz := hb.out.size
    by_cases hlt : k < xs.length
    · obtain ⟨b, off, rfl, hb1, hcell⟩ := hA k hlt
      clear hA
      have hcell' : wr.cell? ⟨b, off + k, none⟩ = some (.int .i64 (xs.getD k 0)) := (hb.out.cell (p := ⟨b, off + k, none⟩) hb1).trans hcell
      clear hcell
      have hnk := HN.out k
      have HST := Lib.hid (listT_step hlt)
      have HLN : Hid ((listT (xs.take (k + 1))).length ≤ 21000000) := by
        have := listT_len (xs := xs.take (k + 1)) fun j => by
          rw [List.getD_eq_getElem?_getD, List.getElem?_take]
          split
          · rw [← List.getD_eq_getElem?_getD]; exact HN.out j
          · simp
        have h2 : (xs.take (k + 1)).length ≤ 1000000 := by simp; omega
        unfold Hid; omega
      obtain ⟨x, hx⟩ : ∃ x, x = xs.getD k 0 := ⟨_, rfl⟩
      rw [← hx] at hcell' hnk HST
      clear hx
      obtain ⟨X, HX⟩ : ∃ X : ByteArray, Hid ((⟨(Lib.itoa x).toArray⟩ : ByteArray) = X) := ⟨_, rfl⟩
      have hxs : X.size ≤ 20 := by rw [← HX.out, size_mk]; exact itoa_len hnk.1 hnk.2
      have HDC : Hid (∀ W, Calls Tryz.prog 66 #[.int .i64 x] W fun e w' => e = .returned (.string X) ∧ Below W.heap.size W w') := fun W => by
        have := dec_any x W hnk.1 hnk.2
        rwa [HX.out] at this
      have hk0 : (0 : Int) ≤ (k : Int) := by omega
      have hk1 : (k : Int) < (xs.length : Int) := by omega
      by_cases h0 : k = 0
      · subst h0
        rw [Nat.add_zero] at hcell'
        have HR : Hid (S ++ X = ⟨(listT (xs.take 1)).toArray⟩) := by
          have e1 : listT (xs.take 1) = Lib.itoa x := by have := HST.out; simpa using this
          have e2 : S = ⟨([] : List UInt8).toArray⟩ := by rw [HS.out]; simp [listT, Lib.join]
          unfold Hid
          rw [e1, e2, ← HX.out, app_mk, List.nil_append]
        have v4 : ¬ (9223372036854775807 : Int) < (S.size : Int) + (X.size : Int) := by omega
        go_wp2_with (go_at_call 66; refine (HDC.out _).mono ?_; rintro e w3 ⟨rfl, hb3⟩)
        go_roundw
        case rel =>
          refine ⟨1, S ++ X, by omega, by go_num, rfl, HR.out, ?_, hb.out.trans (hb3.mono hz)⟩
          rw [HR.out, size_mk]; exact HLN.out
        case measure => simp [intOf]; omega
      · have HR : Hid (S ++ ⟨#[44]⟩ ++ X = ⟨(listT (xs.take (k + 1))).toArray⟩) := by
          have e1 := HST.out
          rw [if_neg h0] at e1
          unfold Hid
          rw [e1, HS.out, ← HX.out, show (⟨#[44]⟩ : ByteArray) = ⟨([44] : List UInt8).toArray⟩ from rfl, app_mk, app_mk]
        have hg0 : (0 : Int) < (k : Int) := by omega
        go_wp2_with (go_at_call 66; refine (HDC.out _).mono ?_; rintro e w3 ⟨rfl, hb3⟩)
        go_roundw
        case rel =>
          refine ⟨k + 1, _, by omega, by go_num, rfl, HR.out, ?_, hb.out.trans (hb3.mono hz)⟩
          rw [HR.out, size_mk]; exact HLN.out
        case measure => simp [intOf]; omega
    · obtain rfl : k = xs.length := by omega
      have HR : Hid (S = ⟨(listT xs).toArray⟩) := by have := HS.out; rwa [List.take_length] at this
      go_wp2
      go_ret
      exact ⟨by rw [← HR.out]; rfl, hb.out⟩
set_option maxRecDepth 20000 in
set_option maxHeartbeats 1000000 in
theorem l02Text_any (w : World) (m : Int) (v : Value) (xs : List Int) (hm : 0 ≤ m ∧ m ≤ 1000000) (hv : RdI w v xs) (hl : xs.length ≤ 1000000) (hn : ∀ k, 0 ≤ xs.getD k 0 ∧ xs.getD k 0 ≤ 1000000) :
    Calls Tryz.prog 30 #[.agg #[.int .i64 m, v]] w fun e w' => e = .returned (.string ⟨(serT m xs).toArray⟩) ∧ Below w.heap.size w w' := by
  obtain ⟨A, c, e0⟩ := hv.form
  subst e0
  obtain ⟨X, HX⟩ : ∃ X : ByteArray, Hid ((⟨(Lib.itoa m).toArray⟩ : ByteArray) = X) := ⟨_, rfl⟩
  obtain ⟨Y, HY⟩ : ∃ Y : ByteArray, Hid ((⟨(listT xs).toArray⟩ : ByteArray) = Y) := ⟨_, rfl⟩
  have hxs : X.size ≤ 20 := by rw [← HX.out, size_mk]; exact itoa_len hm.1 hm.2
  have hys : Y.size ≤ 21000000 := by rw [← HY.out, size_mk]; have := listT_len hn; omega
  have HR : Hid (X ++ ⟨#[58]⟩ ++ Y = ⟨(serT m xs).toArray⟩) := by
    unfold Hid serT
    rw [← HX.out, ← HY.out, show (⟨#[58]⟩ : ByteArray) = ⟨([58] : List UInt8).toArray⟩ from rfl, app_mk, app_mk]
    simp
  have HDC : Hid (∀ W, Calls Tryz.prog 66 #[.int .i64 m] W fun e w' => e = .returned (.string X) ∧ Below W.heap.size W w') := fun W => by
    have := dec_any m W hm.1 hm.2
    rwa [HX.out] at this
  have HLI : Hid (∀ W, Below w.heap.size w W → Calls Tryz.prog 67 #[.slice A xs.length c] W fun e w' => e = .returned (.string Y) ∧ Below W.heap.size W w') := fun W hW => by
    have := l02List_any W _ xs (hv.below hW) hl hn
    rwa [HY.out] at this
  clear hm hv hn
  go_enter Tryz.func30, Tryz.ntmps30
  go_upto_region 1 with fail
  have P0 : Bf (w.alloc (.cells #[.int .i64 m, .slice A xs.length c] 26)).drew w.heap.size (.int .i64 m) (.slice A xs.length c) := Bf.alloc1 w _ _ _
  have K0 : Below w.heap.size w (w.alloc (.cells #[.int .i64 m, .slice A xs.length c] 26)).drew := below_drew (below_alloc1 w _)
  have z0 : (w.alloc (.cells #[.int .i64 m, .slice A xs.length c] 26)).drew.heap.size = w.heap.size + 1 := by simp
  have HP0 := Lib.hid P0
  have HK0 := Lib.hid K0
  have HZ0 := Lib.hid z0
  have p0a := P0.1.2.1
  have p0b := P0.1.2.2
  have v4 : ¬ 9223372036854775807 < X.size + 1 := by omega
  have v5 : ¬ 9223372036854775807 < X.size + 1 + Y.size := by omega
  clear P0 K0 z0
  go_region_held3 (fun w' => w'.cell? ⟨w.heap.size, 0, none⟩ = some (.int .i64 m) ∧ w'.cell? ⟨w.heap.size, 1, none⟩ = some (.slice A xs.length c))
    (first | exact ⟨p0a, p0b⟩ | exact ⟨p2a, p2b⟩ | exact ⟨p3a, p3b⟩ | go_keep)
    (first | (go_at_call 66; refine (HDC.out _).mono ?_; rintro e w2 ⟨rfl, hb2⟩; have P2 : Bf w2 w.heap.size (.int .i64 m) (.slice A xs.length c) := (by first | exact HP3.out.keep hb2 | exact HP0.out.keep hb2); have HP2 := Lib.hid P2; have HK2 : Hid (Below w.heap.size w w2) := (by first | exact HK3.out.trans (hb2.mono HK3.out.size) | exact HK0.out.trans (hb2.mono HK0.out.size)); have p2a := P2.1.2.1; have p2b := P2.1.2.2; clear P2 hb2) | (go_at_call 67; refine (HLI.out _ (by first | exact HK2.out | exact HK0.out)).mono ?_; rintro e w3 ⟨rfl, hb3⟩; have P3 : Bf w3 w.heap.size (.int .i64 m) (.slice A xs.length c) := (by first | exact HP2.out.keep hb3 | exact HP0.out.keep hb3); have HP3 := Lib.hid P3; have HK3 : Hid (Below w.heap.size w w3) := (by first | exact HK2.out.trans (hb3.mono HK2.out.size) | exact HK0.out.trans (hb3.mono HK0.out.size)); have p3a := P3.1.2.1; have p3b := P3.1.2.2; clear P3 hb3))
  all_goals
    go_wp2_with fail
    go_ret
    exact ⟨by rw [← HR.out]; rfl, by first | exact HK3.out | exact HK2.out⟩

/-! ### SeriesText -/
def RetTI (w : World) (r : List UInt8 × Int) (e : Ending) (w' : World) : Prop := e = .returned (.tuple #[.string ⟨r.1.toArray⟩, .int .i64 r.2]) ∧ Below w.heap.size w w'
theorem RetTI.of {w : World} {r r' : List UInt8 × Int} {e : Ending} {w' : World} (h : RetTI w r e w') (he : Hid (r = r')) : RetTI w r' e w' := by rw [← he.out]; exact h
theorem isSer_nums {m : Int} {xs : List Int} (h : isSer m xs = true) : (0 ≤ m ∧ m ≤ 1000000) ∧ (∀ k, 0 ≤ xs.getD k 0 ∧ xs.getD k 0 ≤ 1000000) ∧ xs.length ≤ 11 := by
  have h1 := isSer_true h
  have hm := isModB_true h1.1
  exact ⟨by omega, fun k => by have := isSer_num h k; omega, by omega⟩
set_option maxRecDepth 4000 in
set_option maxHeartbeats 1000000 in
theorem sSeriesTextR_any (w : World) (m : Int) (v : Value) (xs : List Int) (B : Nat) (hv : OwnI w B v xs) (hl : xs.length ≤ 2000000) :
    Calls Tryz.prog 7 #[.agg #[.int .i64 m, v]] w (RetTI w (SeriesTextR m xs)) := by
  obtain ⟨A, c, e0⟩ := hv.form
  subst e0
  cases hS : isSer m xs
  · have HS := Lib.hid hS
    have HR : Hid (SeriesTextR m xs = ([], 1)) := by unfold Hid SeriesTextR; rw [hS]; rfl
    clear hS
    go_enter Tryz.func7, Tryz.ntmps7
    go_wp2_with (go_at_call 29; refine (l02Is_any _ _ _ xs B (hv.keep (below_alloc1 w _) (Nat.le_refl _)) (by omega)).mono ?_; rintro e w1 ⟨rfl, hb1⟩; rw [HS.out])
    exact bodyPost_ret (v := .tuple #[.string ⟨#[]⟩, .int .i64 1]) (by simp [results, Tryz.results7, go_sem]) rfl (by rw [HR.out]; exact ⟨rfl, (below_alloc1 w _).trans (hb1.mono (by simp))⟩)
  · obtain ⟨hm, hn, h11⟩ := isSer_nums hS
    have HS := Lib.hid hS
    have HR : Hid (SeriesTextR m xs = (serT m xs, 0)) := by unfold Hid SeriesTextR; rw [hS]; rfl
    have HTX : Hid (∀ W, Below w.heap.size w W → Calls Tryz.prog 30 #[.agg #[.int .i64 m, .slice A xs.length c]] W fun e w' => e = .returned (.string ⟨(serT m xs).toArray⟩) ∧ Below W.heap.size W w') :=
      fun W hW => l02Text_any W m _ xs hm (hv.rd.below hW) (by omega) hn
    obtain ⟨S, hSS⟩ : ∃ S : ByteArray, (⟨(serT m xs).toArray⟩ : ByteArray) = S := ⟨_, rfl⟩
    rw [hSS] at HTX
    have HSS := Lib.hid hSS
    clear hS hm hn h11 hSS
    go_enter Tryz.func7, Tryz.ntmps7
    go_wp2_with (first | (go_at_call 29; refine (l02Is_any _ _ _ xs B (hv.keep (below_alloc1 w _) (Nat.le_refl _)) (by omega)).mono ?_; rintro e w1 ⟨rfl, hb1⟩; rw [HS.out]; obtain ⟨P1, K1⟩ := Bf.first1 hb1; have p1a := P1.1.2.1; have p1b := P1.1.2.2; have z1 := P1.1.1) | (go_at_call 30; refine (HTX.out _ K1).mono ?_; rintro e w2 ⟨rfl, hb2⟩))
    exact bodyPost_ret (v := .tuple #[.string S, .int .i64 0]) (by simp [results, Tryz.results7, go_sem]) rfl (by rw [HR.out]; exact ⟨by rw [← HSS.out], K1.trans (hb2.mono K1.size)⟩)
set_option maxRecDepth 4000 in
set_option maxHeartbeats 2000000 in
theorem numbersText_any (w : World) (v : Value) (xs : List Int) (hv : RdI w v xs) (hl : xs.length ≤ 1000000) (hn : ∀ k, 0 ≤ xs.getD k 0 ∧ xs.getD k 0 ≤ 1000000) (hT : Tab w) :
    Calls Tryz.prog 28 #[v] w fun e w' => e = .returned (.string ⟨(listT xs).toArray⟩) ∧ Below w.heap.size w w' := by
  obtain ⟨A, c, e0, hc1, hc2, hA⟩ := hv
  subst e0
  unfold maxLen at hc2
  have HN := Lib.hid hn
  have HT := Lib.hid hT
  clear hn hT
  go_enter Tryz.func28, Tryz.ntmps28
  go_wp2
  go_loopw [3, 5, 9] (fun q _ i wr => ∃ (k : Nat) (A' : Option Addr) (cc : Nat) (ts : List ByteArray), k ≤ xs.length ∧ i = .int .i64 k ∧ q = .slice A' ts.length cc ∧ Hid (ts.length = k) ∧ Hid (OwnT wr w.heap.size (.slice A' ts.length cc) ts) ∧ Hid (ts.map (fun t : ByteArray => t.data.toList) = (xs.take k).map Lib.itoa) ∧ Hid (Below w.heap.size w wr)) (fun _ _ i _ => xs.length - (intOf i).toNat)
  case atStart => exact ⟨0, _, _, [], Nat.zero_le _, rfl, rfl, rfl, OwnT.lit0 w (Nat.le_refl _), by unfold Hid; simp, by unfold Hid; (repeat (first | assumption | exact Below.refl _ _ | refine Below.alloc ?_ (by first | omega | (simp; done) | (simp; omega)) _ | refine Below.setCell ?_ (by first | omega | (simp; done) | (simp; omega)) _ | refine below_drewN ?_ _))⟩
  case round =>
    obtain ⟨k, A', cc, ts, hk, rfl, rfl, HTL, HO, HTS, hb⟩ := hrel
    have hz := hb.out.size
    have htl : ts.length ≤ 1000000 := by rw [HTL.out]; omega
    by_cases hlt : k < xs.length
    · obtain ⟨b, off, rfl, hb1, hcell⟩ := hA k hlt
      clear hA
      have hcell' : wr.cell? ⟨b, off + k, none⟩ = some (.int .i64 (xs.getD k 0)) := (hb.out.cell (p := ⟨b, off + k, none⟩) hb1).trans hcell
      clear hcell
      have hnk := HN.out k
      have HM : Hid ((xs.take (k + 1)).map Lib.itoa = (xs.take k).map Lib.itoa ++ [Lib.itoa (xs.getD k 0)]) := by
        unfold Hid; rw [List.take_succ_eq_append_getElem hlt, List.map_append, List.getD_eq_getElem?_getD, List.getElem?_eq_getElem hlt]; rfl
      obtain ⟨x, hx⟩ : ∃ x, x = xs.getD k 0 := ⟨_, rfl⟩
      rw [← hx] at hcell' hnk HM
      clear hx
      obtain ⟨X, HX⟩ : ∃ X : ByteArray, Hid ((⟨(Lib.itoa x).toArray⟩ : ByteArray) = X) := ⟨_, rfl⟩
      have HDC : Hid (∀ W, Tab W → Calls Tryz.prog 27 #[.int .i64 x] W fun e w' => e = .returned (.string X) ∧ Below W.heap.size W w') := fun W hW => by
        have := decimal_any x (by omega) (by omega) W hW
        rwa [HX.out] at this
      have hk0 : (0 : Int) ≤ (k : Int) := by omega
      have hk1 : (k : Int) < (xs.length : Int) := by omega
      go_wp2_with (first | (go_at_call 27; refine (HDC.out _ (HT.out.keep hb.out)).mono ?_; rintro e w2 ⟨rfl, hb2⟩; have HB2 := Lib.hid hb2; have z2 := hb2.size; clear hb2) | (at_builtin; refine appendT _ _ w.heap.size (.slice A' ts.length cc) ts X w2.heap.size (by rfl) (by rfl) (by rfl) (by rfl) ((HO.out.keep HB2.out (Nat.le_refl _)).alloc _) (heap_own _ _) (by omega) (by simp; omega) ?_; intro v' w3 ho3 hg3; obtain ⟨A3, c3, e3⟩ := ho3.form; subst e3))
      go_roundw
      case rel =>
        refine ⟨k + 1, A3, c3, ts ++ [X], by omega, by go_num, by simp, by unfold Hid; rw [List.length_append, HTL.out]; rfl, ho3, ?_, ?_⟩
        · unfold Hid
          rw [HM.out, List.map_append, HTS.out, ← HX.out]
          simp
        · exact ((HO.out.keep HB2.out (Nat.le_refl _)).alloc _).grown_below ((hb.out.trans (HB2.out.mono hz)).alloc (by omega) _) hg3 (Nat.le_refl _) (by simp; omega)
      case measure => simp [intOf]; omega
    · obtain rfl : k = xs.length := by omega
      have HTS2 : Hid (ts.map (fun t : ByteArray => t.data.toList) = xs.map Lib.itoa) := by have := HTS.out; rwa [List.take_length] at this
      have HJ : Hid (Lib.join (ts.map (fun t : ByteArray => t.data.toList)) [44] = listT xs) := by unfold Hid listT; rw [HTS2.out]
      by_cases h0 : xs.length = 0
      · have ht0 : ts = [] := List.eq_nil_of_length_eq_zero (by rw [HTL.out]; exact h0)
        subst ht0
        have HE : Hid (listT xs = []) := by unfold Hid; rw [← HJ.out]; simp [Lib.join, List.intercalate]
        go_wp2_with (go_at_call 43; refine (Tryz.strings_Join_none _ _ _ _).mono ?_; rintro e w3 ⟨rfl, rfl⟩)
        go_ret
        exact ⟨by rw [HE.out]; rfl, hb.out⟩
      · obtain ⟨g, rfl, hg1, hg2, hn, hcc, hcc'⟩ := HO.out.some_ (by rw [HTL.out]; omega)
        have HC : Hid (∀ (j : Nat) x, ts[j]? = some x → wr.cell? ⟨g, 0 + j, none⟩ = some (.string x)) := fun j x hj => by
          have hlt2 : j < ts.length := (List.getElem?_eq_some_iff.1 hj).1
          have := (HO.out.cell hlt2).1
          rw [List.getD_eq_getElem?_getD, hj] at this
          rw [Nat.zero_add]; exact this
        have HLL : Hid ((Lib.join (ts.map (fun t : ByteArray => t.data.toList)) (⟨#[44]⟩ : ByteArray).data.toList).length ≤ 140737488355328) := by
          have := listT_len HN.out
          unfold Hid
          rw [show (⟨#[44]⟩ : ByteArray).data.toList = [44] from rfl, HJ.out]; omega
        have HJC := Lib.hid (Tryz.strings_Join g 0 cc ts ⟨#[44]⟩ wr HC.out hg2 (by omega) hcc HLL.out)
        rw [show (⟨#[44]⟩ : ByteArray).data.toList = [44] from rfl, HJ.out] at HJC
        go_wp2_with (go_at_call 43; refine HJC.out.mono ?_; rintro e w3 ⟨rfl, hb3⟩)
        go_ret
        exact ⟨rfl, hb.out.trans (hb3.mono hz)⟩
set_option maxRecDepth 20000 in
set_option maxHeartbeats 1000000 in
theorem iSeriesTextR_any (w : World) (m : Int) (v : Value) (xs : List Int) (B : Nat) (hv : OwnI w B v xs) (hl : xs.length ≤ 2000000) (hT : Tab w) :
    Calls Tryz.prog 6 #[.agg #[.int .i64 m, v]] w (RetTI w (SeriesTextR m xs)) := by
  obtain ⟨A, c, e0⟩ := hv.form
  subst e0
  cases hS : isSer m xs
  · have HS := Lib.hid hS
    have HR : Hid (SeriesTextR m xs = ([], 1)) := by unfold Hid SeriesTextR; rw [hS]; rfl
    clear hS
    go_enter Tryz.func6, Tryz.ntmps6
    go_wp2_with (go_at_call 26; refine (iIsSeries_any _ _ _ xs B (hv.keep (below_alloc1 w _) (Nat.le_refl _)) (by omega)).mono ?_; rintro e w1 ⟨rfl, hb1⟩; rw [HS.out])
    exact bodyPost_ret (v := .tuple #[.string ⟨#[]⟩, .int .i64 1]) (by simp [results, Tryz.results6, go_sem]) rfl (by rw [HR.out]; exact ⟨rfl, (below_alloc1 w _).trans (hb1.mono (by simp))⟩)
  · obtain ⟨hm, hn, h11⟩ := isSer_nums hS
    have HS := Lib.hid hS
    have HR : Hid (SeriesTextR m xs = (serT m xs, 0)) := by unfold Hid SeriesTextR; rw [hS]; rfl
    obtain ⟨X, HX⟩ : ∃ X : ByteArray, Hid ((⟨(Lib.itoa m).toArray⟩ : ByteArray) = X) := ⟨_, rfl⟩
    obtain ⟨Y, HY⟩ : ∃ Y : ByteArray, Hid ((⟨(listT xs).toArray⟩ : ByteArray) = Y) := ⟨_, rfl⟩
    have hxs : X.size ≤ 20 := by rw [← HX.out, size_mk]; exact itoa_len hm.1 hm.2
    have hys : Y.size ≤ 21000000 := by rw [← HY.out, size_mk]; have := listT_len hn; omega
    have HR2 : Hid (X ++ ⟨#[58]⟩ ++ Y = ⟨(serT m xs).toArray⟩) := by
      unfold Hid serT
      rw [← HX.out, ← HY.out, show (⟨#[58]⟩ : ByteArray) = ⟨([58] : List UInt8).toArray⟩ from rfl, app_mk, app_mk]
      simp
    have HT := Lib.hid hT
    have HDC : Hid (∀ W, Below w.heap.size w W → Calls Tryz.prog 27 #[.int .i64 m] W fun e w' => e = .returned (.string X) ∧ Below W.heap.size W w') := fun W hW => by
      have := decimal_any m (by omega) (by omega) W (HT.out.keep hW)
      rwa [HX.out] at this
    have HLI : Hid (∀ W, Below w.heap.size w W → Calls Tryz.prog 28 #[.slice A xs.length c] W fun e w' => e = .returned (.string Y) ∧ Below W.heap.size W w') := fun W hW => by
      have := numbersText_any W _ xs (hv.rd.below hW) (by omega) hn (HT.out.keep hW)
      rwa [HY.out] at this
    clear hS hm hn h11 hT
    go_enter Tryz.func6, Tryz.ntmps6
    go_upto_region 3 with (go_at_call 26; refine (iIsSeries_any _ _ _ xs B (hv.keep (below_alloc1 w _) (Nat.le_refl _)) (by omega)).mono ?_; rintro e w1 ⟨rfl, hb1⟩; rw [HS.out]; obtain ⟨P1, K1⟩ := Bf.first1 hb1; have p1a := P1.1.2.1; have p1b := P1.1.2.2; have z1 := P1.1.1)
    have HP0 : Hid (Bf w1.drew w.heap.size (.int .i64 m) (.slice A xs.length c)) := P1
    have HK0 : Hid (Below w.heap.size w w1.drew) := below_drew K1
    have p0a := HP0.out.1.2.1
    have p0b := HP0.out.1.2.2
    have v4 : ¬ 9223372036854775807 < X.size + 1 := by omega
    have v5 : ¬ 9223372036854775807 < X.size + 1 + Y.size := by omega
    clear P1 K1 p1a p1b hb1 hv
    go_region_held3 (fun w' => w'.cell? ⟨w.heap.size, 0, none⟩ = some (.int .i64 m) ∧ w'.cell? ⟨w.heap.size, 1, none⟩ = some (.slice A xs.length c))
      (first | exact ⟨p0a, p0b⟩ | exact ⟨p2a, p2b⟩ | exact ⟨p3a, p3b⟩ | go_keep)
      (first | (go_at_call 27; refine (HDC.out _ (by first | exact HK3.out | exact HK0.out)).mono ?_; rintro e w2 ⟨rfl, hb2⟩; have P2 : Bf w2 w.heap.size (.int .i64 m) (.slice A xs.length c) := (by first | exact HP3.out.keep hb2 | exact HP0.out.keep hb2); have HP2 := Lib.hid P2; have HK2 : Hid (Below w.heap.size w w2) := (by first | exact HK3.out.trans (hb2.mono HK3.out.size) | exact HK0.out.trans (hb2.mono HK0.out.size)); have p2a := P2.1.2.1; have p2b := P2.1.2.2; clear P2 hb2) | (go_at_call 28; refine (HLI.out _ (by first | exact HK2.out | exact HK0.out)).mono ?_; rintro e w3 ⟨rfl, hb3⟩; have P3 : Bf w3 w.heap.size (.int .i64 m) (.slice A xs.length c) := (by first | exact HP2.out.keep hb3 | exact HP0.out.keep hb3); have HP3 := Lib.hid P3; have HK3 : Hid (Below w.heap.size w w3) := (by first | exact HK2.out.trans (hb3.mono HK2.out.size) | exact HK0.out.trans (hb3.mono HK0.out.size)); have p3a := P3.1.2.1; have p3b := P3.1.2.2; clear P3 hb3))
    all_goals
      go_wp2_with fail
      refine bodyPost_ret (v := .tuple #[.string (X ++ ⟨#[58]⟩ ++ Y), .int .i64 0]) (by simp [results, Tryz.results6, go_sem]) rfl (by rw [HR.out]; exact ⟨by rw [HR2.out], by first | exact HK3.out | exact HK2.out⟩)

/-! ### PlaneText -/
theorem plT_step {m : Int} {xss : List (List Int)} {k : Nat} (hk : k < xss.length) :
    Lib.itoa m ++ 58 :: Lib.join ((xss.take (k + 1)).map listT) [47] = if k = 0 then Lib.itoa m ++ 58 :: listT (xss.getD k []) else (Lib.itoa m ++ 58 :: Lib.join ((xss.take k).map listT) [47]) ++ [47] ++ listT (xss.getD k []) := by
  rw [List.take_succ_eq_append_getElem hk, List.map_append, List.map_cons, List.map_nil, join_snoc, List.getD_eq_getElem?_getD, List.getElem?_eq_getElem hk]
  have : (xss.take k).map listT = [] ↔ k = 0 := by
    rw [List.map_eq_nil_iff, List.take_eq_nil_iff]
    constructor
    · rintro (h | h)
      · exact h
      · rw [h] at hk; simp at hk
    · exact fun h => .inl h
  simp only [this, Option.getD_some]
  split <;> simp
theorem plT_len {m : Int} {xss : List (List Int)} (hm : 0 ≤ m ∧ m ≤ 1000000) (h : ∀ k j, 0 ≤ (xss.getD k []).getD j 0 ∧ (xss.getD k []).getD j 0 ≤ 1000000) (h2 : ∀ k, (xss.getD k []).length ≤ 100) : (Lib.itoa m ++ 58 :: Lib.join (xss.map listT) [47]).length ≤ 21 + xss.length * 2101 := by
  have h1 := itoa_len hm.1 hm.2
  have h3 := join_len 47 (xss.map listT)
  have h4 : lenSum (xss.map listT) ≤ (xss.map listT).length * (2100 + 1) := lenSum_le fun w hw => by
    obtain ⟨x, hx, rfl⟩ := List.mem_map.1 hw
    obtain ⟨i, hi, rfl⟩ := List.mem_iff_getElem.1 hx
    have := listT_len (h i)
    have h5 := h2 i
    rw [List.getD_eq_getElem?_getD, List.getElem?_eq_getElem hi, Option.getD_some] at this h5
    omega
  rw [List.length_map] at h4
  simp only [List.length_append, List.length_cons]
  omega
theorem isPl_nums {m : Int} {xss : List (List Int)} (h : isPl m xss = true) : (0 ≤ m ∧ m ≤ 1000000) ∧ (∀ k j, 0 ≤ (xss.getD k []).getD j 0 ∧ (xss.getD k []).getD j 0 ≤ 1000000) ∧ (∀ k, (xss.getD k []).length ≤ 100) ∧ xss.length ≤ 11 := by
  have h1 := isPl_true h
  have hm := isModB_true h1.1
  refine ⟨by omega, fun k j => ?_, fun k => ?_, by omega⟩
  · have := isPl_num h k j
    unfold co2 co at this
    omega
  · by_cases hk : k < xss.length
    · rw [(h1.2.2 k hk).1]; omega
    · rw [List.getD_eq_getElem?_getD, List.getElem?_eq_none (by omega)]; simp
theorem takeD (xss : List (List Int)) (k i : Nat) : (xss.take k).getD i [] = xss.getD i [] ∨ (xss.take k).getD i [] = [] := by
  rw [List.getD_eq_getElem?_getD, List.getD_eq_getElem?_getD, List.getElem?_take]
  split
  · exact .inl rfl
  · exact .inr rfl
theorem plT_len_take {m : Int} {xss : List (List Int)} (hm : 0 ≤ m ∧ m ≤ 1000000) (h : ∀ k j, 0 ≤ (xss.getD k []).getD j 0 ∧ (xss.getD k []).getD j 0 ≤ 1000000) (h2 : ∀ k, (xss.getD k []).length ≤ 100) (hl : xss.length ≤ 1000) (k : Nat) : (Lib.itoa m ++ 58 :: Lib.join ((xss.take k).map listT) [47]).length ≤ 2200000 := by
  have := plT_len (m := m) (xss := xss.take k) hm (fun i j => by
    rcases takeD xss k i with e | e <;> rw [e]
    · exact h i j
    · simp) (fun i => by
    rcases takeD xss k i with e | e <;> rw [e]
    · exact h2 i
    · simp)
  have h3 : (xss.take k).length ≤ 1000 := by simp; omega
  omega
set_option maxRecDepth 4000 in
set_option maxHeartbeats 1000000 in
theorem l03Text_any (w : World) (m : Int) (v : Value) (xss : List (List Int)) (hv : RdP w v xss) (hm : 0 ≤ m ∧ m ≤ 1000000) (hn : ∀ k j, 0 ≤ (xss.getD k []).getD j 0 ∧ (xss.getD k []).getD j 0 ≤ 1000000) (h2 : ∀ k, (xss.getD k []).length ≤ 100) (hl : xss.length ≤ 1000) :
    Calls Tryz.prog 45 #[.agg #[.int .i64 m, v]] w fun e w' => e = .returned (.string ⟨(plT m xss).toArray⟩) ∧ Below w.heap.size w w' := by
  obtain ⟨A, c, e0, hc1, hc2, hA⟩ := hv
  subst e0
  unfold maxLen at hc2
  have HN := Lib.hid hn
  have H2 := Lib.hid h2
  obtain ⟨X, HX⟩ : ∃ X : ByteArray, Hid ((⟨(Lib.itoa m).toArray⟩ : ByteArray) = X) := ⟨_, rfl⟩
  have hxs : X.size ≤ 20 := by rw [← HX.out, size_mk]; exact itoa_len hm.1 hm.2
  have HDC : Hid (∀ W, Calls Tryz.prog 66 #[.int .i64 m] W fun e w' => e = .returned (.string X) ∧ Below W.heap.size W w') := fun W => by
    have := dec_any m W hm.1 hm.2
    rwa [HX.out] at this
  have HXC : Hid (X ++ ⟨#[58]⟩ = ⟨(Lib.itoa m ++ 58 :: Lib.join ((xss.take 0).map listT) [47]).toArray⟩) := by
    unfold Hid
    rw [← HX.out, show (⟨#[58]⟩ : ByteArray) = ⟨([58] : List UInt8).toArray⟩ from rfl, app_mk]
    simp [Lib.join, List.intercalate]
  have HLEN : Hid (∀ k, (Lib.itoa m ++ 58 :: Lib.join ((xss.take k).map listT) [47]).length ≤ 2200000) := plT_len_take hm hn h2 hl
  clear hn h2
  go_enter Tryz.func45, Tryz.ntmps45
  go_wp2_with (go_at_call 66; refine (HDC.out _).mono ?_; rintro e w1 ⟨rfl, hb1⟩; obtain ⟨P1, K1⟩ := Bf.first1 hb1; have p1a := P1.1.2.1; have p1b := P1.1.2.2; have z1 := P1.1.1)
  go_loopw [3, 4] (fun q i wr => ∃ (k : Nat) (S : ByteArray), k ≤ xss.length ∧ i = .int .i64 k ∧ q = .string S ∧ Hid (S = ⟨(Lib.itoa m ++ 58 :: Lib.join ((xss.take k).map listT) [47]).toArray⟩) ∧ S.size ≤ 2200000 ∧ Hid (Bf wr w.heap.size (.int .i64 m) (.slice A xss.length c)) ∧ Hid (Below w.heap.size w wr)) (fun _ i _ => xss.length - (intOf i).toNat)
  case atStart => exact ⟨0, _, Nat.zero_le _, rfl, rfl, HXC.out, by rw [HXC.out, size_mk]; have := HLEN.out 0; omega, P1, K1⟩
  case round =>
    clear P1 K1 p1a p1b hb1
    obtain ⟨k, S, hk, rfl, rfl, HS, hsz, HB, hb⟩ := hrel
    have hz := hb.out.size
    have b1 := HB.out.1.2.1
    have b2 := HB.out.1.2.2
    by_cases hlt : k < xss.length
    · obtain ⟨b, off, rowv, rfl, hb1, hcell, hrow⟩ := hA k hlt
      clear hA
      have hcell' : wr.cell? ⟨b, off + k, none⟩ = some rowv := (hb.out.cell (p := ⟨b, off + k, none⟩) hb1).trans hcell
      clear hcell
      have HST := Lib.hid (plT_step (m := m) hlt)
      have hnk := HN.out k
      have h2k := H2.out k
      obtain ⟨x, hx⟩ : ∃ x, x = xss.getD k [] := ⟨_, rfl⟩
      rw [← hx] at hrow HST hnk h2k
      clear hx
      obtain ⟨Ar, cr, er⟩ := hrow.form
      subst er
      obtain ⟨X2, HX2⟩ : ∃ X2 : ByteArray, Hid ((⟨(listT x).toArray⟩ : ByteArray) = X2) := ⟨_, rfl⟩
      have hxs2 : X2.size ≤ 2100 := by rw [← HX2.out, size_mk]; have := listT_len hnk; omega
      have HLI : Hid (∀ W, Below w.heap.size w W → Calls Tryz.prog 67 #[.slice Ar x.length cr] W fun e w' => e = .returned (.string X2) ∧ Below W.heap.size W w') := fun W hW => by
        have := l02List_any W _ x (hrow.below hW) (by omega) hnk
        rwa [HX2.out] at this
      clear hrow hnk
      have hk0 : (0 : Int) ≤ (k : Int) := by omega
      have hk1 : (k : Int) < (xss.length : Int) := by omega
      by_cases h0 : k = 0
      · subst h0
        rw [Nat.add_zero] at hcell'
        have HR : Hid (S ++ X2 = ⟨(Lib.itoa m ++ 58 :: Lib.join ((xss.take 1).map listT) [47]).toArray⟩) := by
          have e1 := HST.out
          rw [if_pos rfl] at e1
          unfold Hid
          rw [e1, HS.out, ← HX2.out, app_mk]
          simp [Lib.join, List.intercalate]
        go_wp2_with (go_at_call 67; refine (HLI.out _ hb.out).mono ?_; rintro e w3 ⟨rfl, hb3⟩)
        go_roundw
        case rel =>
          refine ⟨1, S ++ X2, by omega, by go_num, rfl, HR.out, ?_, HB.out.keep hb3, hb.out.trans (hb3.mono hz)⟩
          rw [HR.out, size_mk]; have := HLEN.out 1; omega
        case measure => simp [intOf]; omega
      · have HR : Hid (S ++ ⟨#[47]⟩ ++ X2 = ⟨(Lib.itoa m ++ 58 :: Lib.join ((xss.take (k + 1)).map listT) [47]).toArray⟩) := by
          have e1 := HST.out
          rw [if_neg h0] at e1
          unfold Hid
          rw [e1, HS.out, ← HX2.out, show (⟨#[47]⟩ : ByteArray) = ⟨([47] : List UInt8).toArray⟩ from rfl, app_mk, app_mk]
        have hg0 : (0 : Int) < (k : Int) := by omega
        go_wp2_with (go_at_call 67; refine (HLI.out _ hb.out).mono ?_; rintro e w3 ⟨rfl, hb3⟩)
        go_roundw
        case rel =>
          refine ⟨k + 1, _, by omega, by go_num, rfl, HR.out, ?_, HB.out.keep hb3, hb.out.trans (hb3.mono hz)⟩
          rw [HR.out, size_mk]; have := HLEN.out (k + 1); omega
        case measure => simp [intOf]; omega
    · obtain rfl : k = xss.length := by omega
      have HR : Hid (S = ⟨(plT m xss).toArray⟩) := by have := HS.out; rwa [List.take_length] at this
      go_wp2
      go_ret
      exact ⟨by rw [← HR.out]; rfl, hb.out⟩
set_option maxRecDepth 4000 in
set_option maxHeartbeats 1000000 in
theorem sPlaneTextR_any (w : World) (m : Int) (v : Value) (xss : List (List Int)) (lo hi : Nat) (hv : OwnP w lo hi v xss) (hl : szP xss ≤ 2000000) :
    Calls Tryz.prog 14 #[.agg #[.int .i64 m, v]] w (RetTI w (PlaneTextR m xss)) := by
  obtain ⟨A, c, e0, _, _⟩ := hv.form
  subst e0
  cases hS : isPl m xss
  · have HS := Lib.hid hS
    have HR : Hid (PlaneTextR m xss = ([], 1)) := by unfold Hid PlaneTextR; rw [hS]; rfl
    clear hS
    go_enter Tryz.func14, Tryz.ntmps14
    go_wp2_with (go_at_call 44; refine (l03Is_any _ _ _ xss lo hi (hv.keep (below_alloc1 w _)) hl).mono ?_; rintro e w1 ⟨rfl, hb1⟩; rw [HS.out])
    exact bodyPost_ret (v := .tuple #[.string ⟨#[]⟩, .int .i64 1]) (by simp [results, Tryz.results14, go_sem]) rfl (by rw [HR.out]; exact ⟨rfl, (below_alloc1 w _).trans (hb1.mono (by simp))⟩)
  · obtain ⟨hm, hn, h2, h11⟩ := isPl_nums hS
    have HS := Lib.hid hS
    have HR : Hid (PlaneTextR m xss = (plT m xss, 0)) := by unfold Hid PlaneTextR; rw [hS]; rfl
    have HTX : Hid (∀ W, Below w.heap.size w W → Calls Tryz.prog 45 #[.agg #[.int .i64 m, .slice A xss.length c]] W fun e w' => e = .returned (.string ⟨(plT m xss).toArray⟩) ∧ Below W.heap.size W w') :=
      fun W hW => l03Text_any W m _ xss (hv.rd.below hW) hm hn h2 (by omega)
    obtain ⟨S, hSS⟩ : ∃ S : ByteArray, (⟨(plT m xss).toArray⟩ : ByteArray) = S := ⟨_, rfl⟩
    rw [hSS] at HTX
    have HSS := Lib.hid hSS
    clear hS hm hn h2 h11 hSS
    go_enter Tryz.func14, Tryz.ntmps14
    go_wp2_with (first | (go_at_call 44; refine (l03Is_any _ _ _ xss lo hi (hv.keep (below_alloc1 w _)) hl).mono ?_; rintro e w1 ⟨rfl, hb1⟩; rw [HS.out]; obtain ⟨P1, K1⟩ := Bf.first1 hb1; have p1a := P1.1.2.1; have p1b := P1.1.2.2; have z1 := P1.1.1) | (go_at_call 45; refine (HTX.out _ K1).mono ?_; rintro e w2 ⟨rfl, hb2⟩))
    exact bodyPost_ret (v := .tuple #[.string S, .int .i64 0]) (by simp [results, Tryz.results14, go_sem]) rfl (by rw [HR.out]; exact ⟨by rw [← HSS.out], K1.trans (hb2.mono K1.size)⟩)
theorem mapListT_step {xss : List (List Int)} {k : Nat} (hk : k < xss.length) : (xss.take (k + 1)).map listT = (xss.take k).map listT ++ [listT (xss.getD k [])] := by
  rw [List.take_succ_eq_append_getElem hk, List.map_append, List.map_cons, List.map_nil, List.getD_eq_getElem?_getD, List.getElem?_eq_getElem hk]
  rfl
set_option maxRecDepth 4000 in
set_option maxHeartbeats 2000000 in
theorem iPlaneTextR_any (w : World) (m : Int) (v : Value) (xss : List (List Int)) (lo hi : Nat) (hv : OwnP w lo hi v xss) (hl : szP xss ≤ 2000000) (hT : Tab w) :
    Calls Tryz.prog 13 #[.agg #[.int .i64 m, v]] w (RetTI w (PlaneTextR m xss)) := by
  cases hS : isPl m xss
  · obtain ⟨A, c, e0, _, _⟩ := hv.form
    subst e0
    have HS := Lib.hid hS
    have HR : Hid (PlaneTextR m xss = ([], 1)) := by unfold Hid PlaneTextR; rw [hS]; rfl
    clear hS
    go_enter Tryz.func13, Tryz.ntmps13
    go_wp2_with (go_at_call 15; refine (iIsPlane_any _ _ _ xss lo hi (hv.keep (below_alloc1 w _)) hl).mono ?_; rintro e w1 ⟨rfl, hb1⟩; rw [HS.out])
    exact bodyPost_ret (v := .tuple #[.string ⟨#[]⟩, .int .i64 1]) (by simp [results, Tryz.results13, go_sem]) rfl (by rw [HR.out]; exact ⟨rfl, (below_alloc1 w _).trans (hb1.mono (by simp))⟩)
  · obtain ⟨hm, hn, h2, h11⟩ := isPl_nums hS
    have hlen2 := (isPl_true hS).2.1
    have HV := Lib.hid hv
    obtain ⟨A, c, e0, hc1, hc2, hA⟩ := hv.rd
    subst e0
    unfold maxLen at hc2
    have HN := Lib.hid hn
    have H2 := Lib.hid h2
    have HS := Lib.hid hS
    have HT := Lib.hid hT
    have HA := Lib.hid hA
    have HR : Hid (PlaneTextR m xss = (plT m xss, 0)) := by unfold Hid PlaneTextR; rw [hS]; rfl
    have HLN := Lib.hid (plT_len_take (m := m) hm hn h2 (by omega) xss.length)
    rw [List.take_length] at HLN
    obtain ⟨X, HX⟩ : ∃ X : ByteArray, Hid ((⟨(Lib.itoa m).toArray⟩ : ByteArray) = X) := ⟨_, rfl⟩
    have hxs : X.size ≤ 20 := by rw [← HX.out, size_mk]; exact itoa_len hm.1 hm.2
    have HDC : Hid (∀ W, Below w.heap.size w W → Calls Tryz.prog 27 #[.int .i64 m] W fun e w' => e = .returned (.string X) ∧ Below W.heap.size W w') := fun W hW => by
      have := decimal_any m (by omega) (by omega) W (HT.out.keep hW)
      rwa [HX.out] at this
    clear hS hn h2 hT hv hA
    go_enter Tryz.func13, Tryz.ntmps13
    go_wp2_with (go_at_call 15; refine (iIsPlane_any _ _ _ xss lo hi (HV.out.keep (below_alloc1 w _)) hl).mono ?_; rintro e w1 ⟨rfl, hb1⟩; rw [HS.out]; obtain ⟨P1, K1⟩ := Bf.first1 hb1; have p1a := P1.1.2.1; have p1b := P1.1.2.2; have z1 := P1.1.1)
    go_loopw [4, 6, 14] (fun q _ i wr => ∃ (k : Nat) (A' : Option Addr) (cc : Nat) (ts : List ByteArray), k ≤ xss.length ∧ i = .int .i64 k ∧ q = .slice A' ts.length cc ∧ Hid (ts.length = k) ∧ Hid (OwnT wr (w.heap.size + 1) (.slice A' ts.length cc) ts) ∧ Hid (ts.map (fun t : ByteArray => t.data.toList) = (xss.take k).map listT) ∧ Hid (Bf wr w.heap.size (.int .i64 m) (.slice A xss.length c)) ∧ Hid (Below w.heap.size w wr)) (fun _ _ i _ => xss.length - (intOf i).toNat)
    case atStart => exact ⟨0, _, _, [], Nat.zero_le _, rfl, rfl, rfl, OwnT.lit0 w1 (by omega), by unfold Hid; simp, P1.al _, K1.alloc K1.size _⟩
    case round =>
      clear P1 K1 p1a p1b hb1
      obtain ⟨k, A', cc, ts, hk, rfl, rfl, HTL, HO, HTS, HB, hb⟩ := hrel
      have hz := hb.out.size
      have zB := HB.out.1.1
      have b1 := HB.out.1.2.1
      have b2 := HB.out.1.2.2
      have htl : ts.length ≤ 1000000 := by rw [HTL.out]; omega
      by_cases hlt : k < xss.length
      · obtain ⟨b, off, rowv, rfl, hb1, hcell, hrow⟩ := HA.out k hlt
        have hcell' : wr.cell? ⟨b, off + k, none⟩ = some rowv := (hb.out.cell (p := ⟨b, off + k, none⟩) hb1).trans hcell
        clear hcell
        have HM := Lib.hid (mapListT_step hlt)
        have hnk := HN.out k
        have h2k := H2.out k
        obtain ⟨x, hx⟩ : ∃ x, x = xss.getD k [] := ⟨_, rfl⟩
        rw [← hx] at hrow HM hnk h2k
        clear hx
        obtain ⟨Ar, cr, er⟩ := hrow.form
        subst er
        obtain ⟨X2, HX2⟩ : ∃ X2 : ByteArray, Hid ((⟨(listT x).toArray⟩ : ByteArray) = X2) := ⟨_, rfl⟩
        have HLI : Hid (∀ W, Below w.heap.size w W → Calls Tryz.prog 28 #[.slice Ar x.length cr] W fun e w' => e = .returned (.string X2) ∧ Below W.heap.size W w') := fun W hW => by
          have := numbersText_any W _ x (hrow.below hW) (by omega) hnk (HT.out.keep hW)
          rwa [HX2.out] at this
        clear hrow hnk
        have hk0 : (0 : Int) ≤ (k : Int) := by omega
        have hk1 : (k : Int) < (xss.length : Int) := by omega
        go_wp2_with (first | (go_at_call 28; refine (HLI.out _ hb.out).mono ?_; rintro e w2 ⟨rfl, hb2⟩; have HB2 := Lib.hid hb2; have z2 := hb2.size; clear hb2) | (at_builtin; refine appendT _ _ (w.heap.size + 1) (.slice A' ts.length cc) ts X2 w2.heap.size (by rfl) (by rfl) (by rfl) (by rfl) ((HO.out.keep HB2.out (Nat.le_refl _)).alloc _) (heap_own _ _) (by omega) (by simp; omega) ?_; intro v' w3 ho3 hg3; obtain ⟨A3, c3, e3⟩ := ho3.form; subst e3))
        go_roundw
        case rel =>
          refine ⟨k + 1, A3, c3, ts ++ [X2], by omega, by go_num, by simp, by unfold Hid; rw [List.length_append, HTL.out]; rfl, ho3, ?_, ?_, ?_⟩
          · unfold Hid
            rw [HM.out, List.map_append, HTS.out, ← HX2.out]
            simp
          · refine ((HB.out.keep HB2.out).al _).grown hg3 fun e => ?_
            have := (HO.out.block_ge e.symm).1
            omega
          · exact ((HO.out.keep HB2.out (Nat.le_refl _)).alloc _).grown_below ((hb.out.trans (HB2.out.mono hz)).alloc (by omega) _) hg3 (by omega) (by simp; omega)
        case measure => simp [intOf]; omega
      · obtain rfl : k = xss.length := by omega
        have HTS2 : Hid (ts.map (fun t : ByteArray => t.data.toList) = xss.map listT) := by have := HTS.out; rwa [List.take_length] at this
        obtain ⟨g, rfl, hg1, hg2, hn, hcc, hcc'⟩ := HO.out.some_ (by rw [HTL.out]; omega)
        have HJL : Hid ((Lib.join (ts.map (fun t : ByteArray => t.data.toList)) [47]).length ≤ 2200000) := by
          have := HLN.out
          unfold Hid
          rw [HTS2.out]
          simp only [List.length_append, List.length_cons] at this
          omega
        obtain ⟨Y, HY⟩ : ∃ Y : ByteArray, Hid ((⟨(Lib.join (ts.map (fun t : ByteArray => t.data.toList)) [47]).toArray⟩ : ByteArray) = Y) := ⟨_, rfl⟩
        have hys : Y.size ≤ 2200000 := by rw [← HY.out, size_mk]; exact HJL.out
        have HR2 : Hid (X ++ ⟨#[58]⟩ ++ Y = ⟨(plT m xss).toArray⟩) := by
          unfold Hid plT
          rw [← HX.out, ← HY.out, HTS2.out, show (⟨#[58]⟩ : ByteArray) = ⟨([58] : List UInt8).toArray⟩ from rfl, app_mk, app_mk]
          simp
        have HJC : Hid (∀ W, Below wr.heap.size wr W → Calls Tryz.prog 43 #[.slice (some ⟨g, 0, none⟩) ts.length cc, .string ⟨#[47]⟩] W fun e w' => e = .returned (.string Y) ∧ Below W.heap.size W w') := by
          intro W hW
          have HO4 := HO.out.keep hW (Nat.le_refl _)
          have := Tryz.strings_Join g 0 cc ts ⟨#[47]⟩ W (fun j x hj => by
            have hlt2 : j < ts.length := (List.getElem?_eq_some_iff.1 hj).1
            have h5 := (HO4.cell hlt2).1
            rw [List.getD_eq_getElem?_getD, hj] at h5
            rw [Nat.zero_add]; exact h5) (Nat.lt_of_lt_of_le hg2 hW.size) (by omega) hcc (by rw [show (⟨#[47]⟩ : ByteArray).data.toList = [47] from rfl]; have := HJL.out; omega)
          rwa [show (⟨#[47]⟩ : ByteArray).data.toList = [47] from rfl, HY.out] at this
        go_wp2_with (first | (go_at_call 27; refine (HDC.out _ hb.out).mono ?_; rintro e w2 ⟨rfl, hb2⟩; have HB2 := Lib.hid hb2; have z2 := hb2.size; clear hb2) | (go_at_call 43; refine (HJC.out _ HB2.out).mono ?_; rintro e w3 ⟨rfl, hb3⟩))
        refine bodyPost_ret (v := .tuple #[.string (X ++ ⟨#[58]⟩ ++ Y), .int .i64 0]) (by simp [results, Tryz.results13, go_sem]) rfl (by rw [HR.out]; exact ⟨by rw [HR2.out], (hb.out.trans (HB2.out.mono hz)).trans (hb3.mono (by omega))⟩)

end Go.Proofs.YtglbccikdglcgaaGreatDoor
