/- A text of seat YteoicjlhkaljbaaDoor: what the law FnRecordOf needs of this repo's texts (by pack.py). Not trusted: Lean checks it. -/
import Derived.Test.YteoicjlhkaljbaaDoorKFnRecordOf9
import Derived.Laws.BitsLemmas
import Derived.Lay
import Derived.LaidMore
import Derived.MakeChecks
import Derived.Stop.LaidErr
import Derived.Test.YteoicjlhkaljbaaDoorRows
import Derived.Test.YteoicjlhkaljbaaDoorCards
import Derived.Test.YteoicjlhkaljbaaDoorTie
import Derived.SevenTiedAt
import Derived.WalkSmall
import Derived.ChangeVars
import Derived.JoinedOf
import Derived.LaidLaws
import Derived.LaidHandle
import Derived.Stop.LaidTwo
import Derived.Stop.Joined
import Derived.RowKitTokens
import Derived.WalkKit
import Derived.ProofKit
import Derived.OpenShut
import Derived.ShutString
import Derived.ChangeOld
import Derived.Below
import Derived.SizedLaws
import Derived.Lib.SmallJoins
import Derived.Laws.StructEq
import Derived.ChangeSlices
namespace Go.Proofs.YteoicjlhkaljbaaDoor.Pu
open Go.RowKit Go.Proofs.YteoicjlhkaljbaaDoorW.PrintWords Go.Proofs.YteoicjlhkaljbaaDoorW.PrintLast Go.Proofs.YteoicjlhkaljbaaDoor.G
set_option linter.unusedVariables false
set_option linter.unusedSimpArgs false
def hexs : List UInt8 := [48, 49, 50, 51, 52, 53, 54, 55, 56, 57, 97, 98, 99, 100, 101, 102]
def hexI (c : UInt8) : Int := Lib.indexByte hexs c
theorem hexI_tab : ∀ c : Fin 256, hexI (UInt8.ofNat c.val) = if 48 ≤ c.val ∧ c.val ≤ 57 then (c.val : Int) - 48 else if 97 ≤ c.val ∧ c.val ≤ 102 then (c.val : Int) - 87 else -1 := by decide +kernel
theorem hexI_eq (c : UInt8) : hexI c = if 48 ≤ c.toNat ∧ c.toNat ≤ 57 then (c.toNat : Int) - 48 else if 97 ≤ c.toNat ∧ c.toNat ≤ 102 then (c.toNat : Int) - 87 else -1 := by
  have h := hexI_tab ⟨c.toNat, c.toNat_lt⟩
  simp only [UInt8.ofNat_toNat] at h
  exact h
theorem hexI_range (c : UInt8) : -1 ≤ hexI c ∧ hexI c < 16 := by rw [hexI_eq]; split; omega; split <;> omega
theorem hexI_hx (n : Nat) (h : n < 16) : hexI (hx n) = n := by
  have : ∀ i : Fin 16, hexI (hx i.val) = i.val := by decide +kernel
  exact this ⟨n, h⟩
theorem hx_hexI (c : UInt8) (h : 0 ≤ hexI c) : hx (hexI c).toNat = c := by
  have hh := hexI_eq c
  unfold hx
  split at hh
  · rw [hh, if_pos (by omega), show 48 + ((c.toNat : Int) - 48).toNat = c.toNat by omega]; simp
  · split at hh
    · rw [hh, if_neg (by omega), show 87 + ((c.toNat : Int) - 87).toNat = c.toNat by omega]; simp
    · omega
def unhexI : List UInt8 → Option (List Int)
  | a :: b :: r => if hexI a < 0 then none else if hexI b < 0 then none else (unhexI r).map (fun l => (16 * hexI a + hexI b) :: l)
  | _ => some []
def noPart : Bool × List Int × Bool := (false, [], false)
def partI (l : List UInt8) : Bool × List Int × Bool :=
  if l = [45] then (false, [], true) else if (decide (l.take 1 = [120]) && (decide ((l.drop 1).length % 2 = 0) && decide ((l.drop 1).length ≤ 24))) = true then (match unhexI (l.drop 1) with | some b => (true, b, true) | none => noPart) else noPart
theorem unhex_hex : ∀ l : List Int, l.all isB = true → unhexI (hexOf l) = some l
  | [], _ => rfl
  | x :: l, h => by
    rw [List.all_cons, Bool.and_eq_true, isB_iff] at h
    have ih := unhex_hex l h.2
    show unhexI (hx (x.toNat / 16) :: hx (x.toNat % 16) :: hexOf l) = _
    unfold unhexI
    rw [hexI_hx _ (by omega), hexI_hx _ (by omega), if_neg (by omega), if_neg (by omega), ih]
    simp only [Option.map_some, Option.some.injEq, List.cons.injEq, and_true]
    omega
theorem hex_unhex : ∀ (n : Nat) (l : List UInt8) (b : List Int), l.length ≤ n → l.length % 2 = 0 → unhexI l = some b → hexOf b = l ∧ b.all isB = true ∧ 2 * b.length = l.length := by
  intro n
  induction n with
  | zero =>
    intro l b hl _ h
    obtain rfl : l = [] := List.eq_nil_of_length_eq_zero (by omega)
    obtain rfl : [] = b := Option.some.inj h
    exact ⟨rfl, rfl, rfl⟩
  | succ n ih =>
    intro l b hl hm h
    match l, hl, hm, h with
    | [], _, _, h =>
      obtain rfl : [] = b := Option.some.inj h
      exact ⟨rfl, rfl, rfl⟩
    | [_], _, hm, _ => simp at hm
    | a :: c :: r, hl, hm, h =>
      simp only [List.length_cons] at hl hm
      unfold unhexI at h
      by_cases h1 : hexI a < 0
      · rw [if_pos h1] at h; cases h
      · by_cases h2 : hexI c < 0
        · rw [if_neg h1, if_pos h2] at h; cases h
        · rw [if_neg h1, if_neg h2] at h
          obtain ⟨b', hb, rfl⟩ := Option.map_eq_some_iff.1 h
          obtain ⟨e1, e2, e3⟩ := ih r b' (by omega) (by omega) hb
          have ra := hexI_range a
          have rc := hexI_range c
          refine ⟨?_, ?_, by simp only [List.length_cons]; omega⟩
          · show hx ((16 * hexI a + hexI c).toNat / 16) :: hx ((16 * hexI a + hexI c).toNat % 16) :: hexOf b' = _
            rw [e1, show (16 * hexI a + hexI c).toNat / 16 = (hexI a).toNat by omega, show (16 * hexI a + hexI c).toNat % 16 = (hexI c).toNat by omega, hx_hexI a (by omega), hx_hexI c (by omega)]
          · rw [List.all_cons, e2, Bool.and_true, isB_iff]
            omega
theorem partI_part {has : Bool} {l : List Int} (h : partOk has l = true) : partI (partT has l) = (has, l, true) := by
  unfold partOk at h
  unfold partI partT
  cases has
  · simp only [Bool.false_eq_true, if_false, decide_eq_true_eq] at h
    rw [List.eq_nil_of_length_eq_zero h]
    rfl
  · simp only [if_true, Bool.and_eq_true, decide_eq_true_eq] at h
    simp only [if_true]
    have hl := hexOf_len l
    rw [if_neg (by intro e; have := congrArg (fun l => l.headD 0) e; simp at this)]
    have e1 : List.take 1 (120 :: hexOf l) = [120] := rfl
    have e2 : List.drop 1 (120 :: hexOf l) = hexOf l := rfl
    rw [e1, e2, hl, decide_eq_true rfl, decide_eq_true (show 2 * l.length % 2 = 0 by omega), decide_eq_true (show 2 * l.length ≤ 24 by omega), unhex_hex l h.2]
    rfl
theorem partI_inv {w : List UInt8} {has : Bool} {l : List Int} (h : partI w = (has, l, true)) : partT has l = w ∧ partOk has l = true := by
  unfold partI at h
  by_cases h1 : w = [45]
  · rw [if_pos h1] at h
    obtain ⟨rfl, h2⟩ : has = false ∧ l = [] := by simp only [Prod.mk.injEq] at h; exact ⟨h.1.symm, h.2.1.symm⟩
    subst h2
    exact ⟨h1.symm, rfl⟩
  · rw [if_neg h1] at h
    by_cases h2 : (decide (w.take 1 = [120]) && (decide ((w.drop 1).length % 2 = 0) && decide ((w.drop 1).length ≤ 24))) = true
    · rw [if_pos h2] at h
      simp only [Bool.and_eq_true, decide_eq_true_eq] at h2
      cases hu : unhexI (w.drop 1) with
      | none => rw [hu] at h; simp [noPart] at h
      | some b =>
        rw [hu] at h
        simp only [Prod.mk.injEq] at h
        obtain ⟨rfl, rfl, _⟩ := h
        obtain ⟨e1, e2, e3⟩ := hex_unhex _ _ _ (Nat.le_refl _) h2.2.1 hu
        refine ⟨?_, ?_⟩
        · unfold partT
          rw [if_pos rfl, e1]
          have := List.take_append_drop 1 w
          rw [h2.1] at this
          exact this
        · unfold partOk
          rw [if_pos rfl, e2, Bool.and_true]
          exact decide_eq_true (by omega)
    · rw [if_neg h2] at h
      simp [noPart] at h
theorem idx_some (s : ByteArray) (i : Nat) (h : i < s.toList.length) : strings_IndexByte.f (⟨#[48, 49, 50, 51, 52, 53, 54, 55, 56, 57, 97, 98, 99, 100, 101, 102]⟩ : ByteArray) (bt s (i : Int)) = some (hexI s.toList[i]) := by
  rw [bt_list s i (by rw [← toList_len]; exact h)]
  unfold strings_IndexByte.f hexI hexs
  congr 2
  show ((s.toList[i].toNat : Int).toNat).toUInt8 = s.toList[i]
  rw [Int.toNat_natCast]
  simp
theorem or16 (a b : Int) (h0 : 0 ≤ a) (h1 : a < 16) (k0 : 0 ≤ b) (k1 : b < 16) : bits .or .i64 (a * 16) b = 16 * a + b := by
  rw [bits_join .i64 62 (by decide) (fun n h0 h1 => by rw [IntKind.wrap_i64]; omega) 4 (a * 16) b (by omega) (by omega) (by omega) k0 (by omega) (by omega)]
  omega
theorem part_loop41 (s : ByteArray) (hs : s.size ≤ 24) (hm : s.size % 2 = 0) : ∀ d (i : Nat) (out : List Int), s.size - i = d → i ≤ s.size → i % 2 = 0 → out.length ≤ i →
    Ev (fun k => impl_partOf.l0 k s out (i : Int)) (match unhexI (s.toList.drop i) with | some b => (true, out ++ b, true) | none => noPart) := by
  have hl := toList_len s
  intro d
  induction d using Nat.strongRecOn with
  | ind d ih =>
    intro i out hd hi hi2 ho
    by_cases hlt : i < s.size
    · have h0 : i < s.toList.length := by omega
      have h1 : i + 1 < s.toList.length := by omega
      refine Ev.step (fun k => by rw [impl_partOf.l0]) ?_
      rw [List.drop_eq_getElem_cons h0, List.drop_eq_getElem_cons h1]
      simp only [if_pos (show (i : Int) < (s.size : Int) by omega), if_pos (show (0 : Int) ≤ (i : Int) by omega), w64 (a := (i : Int) + 1) (by omega) (by omega), if_pos (show (0 : Int) ≤ (i : Int) + 1 by omega), if_pos (show (i : Int) + 1 < (s.size : Int) by omega), idx_some s i h0, bindS]
      have hx1 := idx_some s (i + 1) h1
      rw [show ((i + 1 : Nat) : Int) = (i : Int) + 1 by omega] at hx1
      simp only [hx1, bindS]
      have ra := hexI_range s.toList[i]
      have rb := hexI_range (s.toList[i + 1]'h1)
      have hun : unhexI (s.toList[i] :: (s.toList[i + 1]'h1) :: s.toList.drop (i + 1 + 1)) = if hexI s.toList[i] < 0 then none else if hexI (s.toList[i + 1]'h1) < 0 then none else (unhexI (s.toList.drop (i + 1 + 1))).map (fun l => (16 * hexI s.toList[i] + hexI (s.toList[i + 1]'h1)) :: l) := by conv => lhs; unfold unhexI
      rw [hun]
      by_cases ha : hexI s.toList[i] < 0
      · simp only [if_pos ha]
        exact Ev.now _
      · simp only [if_neg ha]
        by_cases hb : hexI (s.toList[i + 1]'h1) < 0
        · simp only [if_pos hb]
          exact Ev.now _
        · simp only [if_neg hb, if_pos (show out.length < 17592186044416 by omega), w64 (a := hexI s.toList[i] * 16) (by omega) (by omega), or16 _ _ (by omega) ra.2 (by omega) rb.2, w64 (a := (i : Int) + 2) (by omega) (by omega)]
          have := ih (s.size - (i + 2)) (by omega) (i + 2) (out ++ [16 * hexI s.toList[i] + hexI (s.toList[i + 1]'h1)]) rfl (by omega) (by omega) (by simp; omega)
          rw [show ((i + 2 : Nat) : Int) = (i : Int) + 2 by omega] at this
          cases hu : unhexI (s.toList.drop (i + 1 + 1)) with
          | none => rw [show i + 2 = i + 1 + 1 from rfl, hu] at this; exact this
          | some b => rw [show i + 2 = i + 1 + 1 from rfl, hu] at this; simpa using this
    · obtain rfl : i = s.size := by omega
      refine Ev.step (fun k => by rw [impl_partOf.l0]) ?_
      simp only [if_neg (show ¬ ((s.size : Nat) : Int) < (s.size : Int) by omega)]
      rw [List.drop_of_length_le (by omega)]
      simp only [unhexI, List.append_nil]
      exact Ev.now _
theorem cutPrefix_some (s : ByteArray) : strings_CutPrefix.f s (⟨#[120]⟩ : ByteArray) = if s.toList.take 1 = [120] then some (s.extract 1 s.size, true) else some (s, false) := by
  have hl := toList_len s
  have hz : (ByteArray.mk #[120]).size = 1 := rfl
  have h120 : (ByteArray.mk #[120]).toList = [120] := toList_mk [120]
  unfold strings_CutPrefix.f stringslite_CutPrefix.f stringslite_HasPrefix.f
  simp only [hz]
  by_cases h : (s.size : Int) ≥ 1
  · simp only [if_pos h, if_pos (show (0 : Int) ≤ ((1 : Nat) : Int) by omega), if_pos (show ((1 : Nat) : Int) ≤ (s.size : Int) by omega), bindS, h120]
    have e : (s.extract 0 ((1 : Nat) : Int).toNat).toList = s.toList.take 1 := by rw [extract_list]; rfl
    rw [e]
    by_cases hp : s.toList.take 1 = [120]
    · rw [hp, if_pos rfl]
      rfl
    · rw [if_neg hp, if_neg (by simpa using hp)]
      rfl
  · have hn : s.toList.take 1 ≠ [120] := by
      intro e
      have := congrArg List.length e
      rw [List.length_take] at this
      simp at this
      omega
    simp only [if_neg (show ¬ ((s.size : Int) ≥ ((1 : Nat) : Int)) by omega), bindS, if_neg hn]
    rfl
theorem partOf_ev (s : ByteArray) (hs : s.size ≤ 10000000) : Ev (fun k => impl_partOf.f k s) (partI s.toList) := by
  have hl := toList_len s
  unfold impl_partOf.f partI
  by_cases h1 : s.toList = [45]
  · simp only [if_pos h1]
    exact Ev.now _
  · simp only [if_neg h1, cutPrefix_some]
    have hstop : ∀ t : ByteArray, Ev (fun k => impl_partOf.j0 k t true) noPart := fun t => Ev.step (fun k => by rw [impl_partOf.j0]) (by simp only [if_true]; exact Ev.now _)
    by_cases hp : s.toList.take 1 = [120]
    · have hex : (s.extract 1 s.size).toList = s.toList.drop 1 := by
        rw [extract_list]
        exact List.take_of_length_le (by rw [List.length_drop]; omega)
      have hsz : (s.extract 1 s.size).size = (s.toList.drop 1).length := by rw [← toList_len, hex]
      simp only [if_pos hp, bindS, if_true, hsz]
      rw [decide_eq_true hp, Bool.true_and]
      by_cases h2 : ((s.toList.drop 1).length : Int) % 2 = 1
      · simp only [if_pos h2]
        rw [decide_eq_false (by omega)]
        exact hstop _
      · simp only [if_neg h2]
        rw [decide_eq_true (show (s.toList.drop 1).length % 2 = 0 by omega), Bool.true_and]
        by_cases h3 : (s.toList.drop 1).length ≤ 24
        · rw [decide_eq_true h3, decide_eq_false (by omega)]
          simp only [if_true]
          refine Ev.step (fun k => by rw [impl_partOf.j0]) ?_
          simp only [Bool.false_eq_true, if_false]
          have := part_loop41 (s.extract 1 s.size) (by omega) (by omega) _ 0 [] rfl (by omega) rfl (by simp)
          rw [List.drop_zero, hex] at this
          simpa using this
        · rw [decide_eq_false h3, decide_eq_true (by omega)]
          simp only [Bool.false_eq_true, if_false]
          exact hstop _
    · simp only [if_neg hp, bindS, Bool.false_eq_true, if_false]
      rw [decide_eq_false hp, Bool.false_and]
      simp only [Bool.false_eq_true, if_false]
      exact hstop _
/-- The reference's bytes. -/
def unhexS : List UInt8 → List Int
  | a :: b :: r => (16 * hexI a + hexI b) :: unhexS r
  | _ => []
theorem digit_ev (s : ByteArray) (i : Nat) (h : i < s.toList.length) : Ev (fun k => spec_l41Digit.f k (bt s (i : Int))) (hexI s.toList[i]) := by
  rw [bt_list s i (by rw [← toList_len]; exact h), hexI_eq]
  generalize s.toList[i].toNat = n
  unfold spec_l41Digit.f
  by_cases h1 : (n : Int) ≥ 48
  · simp only [if_pos h1]
    refine Ev.step (fun k => by rw [spec_l41Digit.j0]) ?_
    by_cases h2 : (n : Int) ≤ 57
    · simp only [decide_eq_true h2, if_true]
      rw [if_pos (show 48 ≤ n ∧ n ≤ 57 by omega), show ((n : Int) - 48) % 256 = n - 48 by omega]
      exact Ev.now _
    · simp only [decide_eq_false h2, Bool.false_eq_true, if_false]
      rw [if_neg (show ¬ (48 ≤ n ∧ n ≤ 57) by omega)]
      by_cases h3 : (n : Int) ≥ 97
      · simp only [if_pos h3]
        by_cases h4 : (n : Int) ≤ 102
        · simp only [if_pos h4]
          rw [if_pos (show 97 ≤ n ∧ n ≤ 102 by omega), show ((n : Int) - 97) % 256 + 10 = n - 87 by omega]
          exact Ev.now _
        · simp only [if_neg h4]
          rw [if_neg (show ¬ (97 ≤ n ∧ n ≤ 102) by omega)]
          exact Ev.now _
      · simp only [if_neg h3]
        rw [if_neg (show ¬ (97 ≤ n ∧ n ≤ 102) by omega)]
        exact Ev.now _
  · simp only [if_neg h1]
    refine Ev.step (fun k => by rw [spec_l41Digit.j0]) ?_
    simp only [Bool.false_eq_true, if_false, if_neg (show ¬ (n : Int) ≥ 97 by omega)]
    rw [if_neg (show ¬ (48 ≤ n ∧ n ≤ 57) by omega), if_neg (show ¬ (97 ≤ n ∧ n ≤ 102) by omega)]
    exact Ev.now _
theorem bytes_loop41 (s : ByteArray) (hs : s.size ≤ 10000000) : ∀ d (i : Nat) (out : List Int), s.size - i = d → i ≤ s.size + 1 → out.length ≤ i →
    Ev (fun k => spec_l41Bytes.l0 k s out (i : Int)) (out ++ unhexS (s.toList.drop i)) := by
  have hl := toList_len s
  intro d
  induction d using Nat.strongRecOn with
  | ind d ih =>
    intro i out hd hi ho
    refine Ev.step (fun k => by rw [spec_l41Bytes.l0]) ?_
    rw [w64 (a := (i : Int) + 1) (by omega) (by omega)]
    by_cases hlt : i + 1 < s.size
    · have h0 : i < s.toList.length := by omega
      have h1 : i + 1 < s.toList.length := by omega
      rw [List.drop_eq_getElem_cons h0, List.drop_eq_getElem_cons h1]
      simp only [if_pos (show (i : Int) + 1 < (s.size : Int) by omega), if_pos (show (0 : Int) ≤ (i : Int) by omega), if_pos (show (i : Int) < (s.size : Int) by omega), if_pos (show (0 : Int) ≤ (i : Int) + 1 by omega)]
      refine Ev.bind (digit_ev s i h0) ?_
      have hx1 := digit_ev s (i + 1) h1
      rw [show ((i + 1 : Nat) : Int) = (i : Int) + 1 by omega] at hx1
      refine Ev.bind hx1 ?_
      have ra := hexI_range s.toList[i]
      have rb := hexI_range (s.toList[i + 1]'h1)
      simp only [if_pos (show out.length < 17592186044416 by omega), w64 (a := 16 * hexI s.toList[i]) (by omega) (by omega), w64 (a := 16 * hexI s.toList[i] + hexI (s.toList[i + 1]'h1)) (by omega) (by omega), w64 (a := (i : Int) + 2) (by omega) (by omega)]
      have := ih (s.size - (i + 2)) (by omega) (i + 2) (out ++ [16 * hexI s.toList[i] + hexI (s.toList[i + 1]'h1)]) rfl (by omega) (by simp; omega)
      rw [show ((i + 2 : Nat) : Int) = (i : Int) + 2 by omega] at this
      simpa [unhexS] using this
    · simp only [if_neg (show ¬ (i : Int) + 1 < (s.size : Int) by omega)]
      have : unhexS (s.toList.drop i) = [] := by
        have hlen : (s.toList.drop i).length ≤ 1 := by rw [List.length_drop]; omega
        match hq : s.toList.drop i, hlen with
        | [], _ => rfl
        | [_], _ => rfl
      rw [this, List.append_nil]
      exact Ev.now _
theorem bytes41_ev (s : ByteArray) (hs : s.size ≤ 10000000) : Ev (fun k => spec_l41Bytes.f k s) (unhexS (s.toList.drop 1)) := by
  unfold spec_l41Bytes.f
  have := bytes_loop41 s hs _ 1 [] rfl (by omega) (by simp)
  simpa using this
theorem unhexS_hex : ∀ l : List Int, l.all isB = true → unhexS (hexOf l) = l
  | [], _ => rfl
  | x :: l, h => by
    rw [List.all_cons, Bool.and_eq_true, isB_iff] at h
    have ih := unhexS_hex l h.2
    show unhexS (hx (x.toNat / 16) :: hx (x.toNat % 16) :: hexOf l) = _
    unfold unhexS
    rw [hexI_hx _ (by omega), hexI_hx _ (by omega), ih]
    simp only [List.cons.injEq, and_true]
    omega
theorem unhexS_part {has : Bool} {l : List Int} (h : partOk has l = true) : unhexS ((partT has l).drop 1) = l ∧ (partT has l != [45]) = has := by
  unfold partOk at h
  unfold partT
  cases has
  · simp only [Bool.false_eq_true, if_false, decide_eq_true_eq] at h
    rw [List.eq_nil_of_length_eq_zero h]
    exact ⟨rfl, rfl⟩
  · simp only [if_true, Bool.and_eq_true, decide_eq_true_eq] at h
    exact ⟨unhexS_hex l h.2, by simp⟩
theorem unhexS_len : ∀ (n : Nat) (l : List UInt8), l.length ≤ n → (unhexS l).length ≤ n := by
  intro n
  induction n using Nat.strongRecOn with
  | ind n ih =>
    intro l hl
    match l, hl with
    | [], _ => simp [unhexS]
    | [_], _ => simp [unhexS]
    | a :: b :: r, hl =>
      simp only [List.length_cons] at hl
      have := ih (n - 2) (by omega) r (by omega)
      simp only [unhexS, List.length_cons]
      omega
end Go.Proofs.YteoicjlhkaljbaaDoor.Pu

namespace Go.Proofs.YteoicjlhkaljbaaDoor.Pu
open Go.RowKit Go.Proofs.YteoicjlhkaljbaaDoorW.PrintWords Go.Proofs.YteoicjlhkaljbaaDoorW.PrintLast Go.Proofs.YteoicjlhkaljbaaDoor.G
set_option linter.unusedVariables false
set_option linter.unusedSimpArgs false
def lineV (r : S25) : ByteArray := if recOk r = true then ⟨(textOf r).toArray⟩ else ⟨#[]⟩
theorem partT_len (has : Bool) (l : List Int) (h : l.length ≤ 12) : (partT has l).length ≤ 25 := by unfold partT; split; simp only [List.length_cons, hexOf_len]; omega; simp
theorem text_len {r : S25} (h : recOk r = true) : (textOf r).length ≤ 63 := by
  obtain ⟨h0, h1, _⟩ := recOk_parts h
  have hl := recOk_len h
  have la := dec_len r.f0.toNat 4 (by omega)
  have lb := dec_len r.f1.toNat 4 (by omega)
  have lp := partT_len r.f2 r.f3 hl.1
  have lq := partT_len r.f4 r.f5 hl.2
  unfold textOf
  simp only [List.length_append, List.length_cons]
  omega
theorem partText_some (has : Bool) (l : List Int) (hl : l.length ≤ 12) (ho : has = true → l.all isB = true) : impl_partText.f has l = some ⟨(partT has l).toArray⟩ := by
  unfold impl_partText.f partT
  cases has
  · rfl
  · have hs : hexT l = ⟨(hexOf l).toArray⟩ := by unfold hexT; rw [if_pos (ho rfl)]
    simp only [if_true, impl_BytesText.f, if_pos (show l.length ≤ 1000000 by omega), bindS, hs]
    rw [if_pos (by rw [size_mk, hexOf_len]; omega), show (⟨#[120]⟩ : ByteArray) = ByteArray.mk [120].toArray from rfl, app_mk]
    rfl
theorem itoa_some (n : Int) (h0 : 0 ≤ n) (h1 : n ≤ 99999) : strconv_Itoa_67.f n = some ⟨(dec n.toNat).toArray⟩ := by
  unfold strconv_Itoa_67.f
  rw [if_pos (by omega)]
theorem words_some {r : S25} (h : recOk r = true) : impl_recordWords.f r.f0 r.f1 r.f2 r.f3 r.f4 r.f5 = some [⟨(dec r.f0.toNat).toArray⟩, ⟨(dec r.f1.toNat).toArray⟩, ⟨(partT r.f2 r.f3).toArray⟩, ⟨(partT r.f4 r.f5).toArray⟩] := by
  obtain ⟨h0, h1, h2, h3, _, _⟩ := recOk_parts h
  have hl := recOk_len h
  unfold impl_recordWords.f
  simp only [itoa_some _ h0.1 h0.2, itoa_some _ h1.1 h1.2, partText_some _ _ hl.1 h2, partText_some _ _ hl.2 h3, bindS]
theorem join_four (a b c d : List UInt8) : Lib.join [a, b, c, d] [32] = a ++ 32 :: (b ++ 32 :: (c ++ 32 :: d)) := by
  simp [Lib.join, List.intercalate]
theorem RecordText_ev (r : S25) (hr : Lens r) : Ev (fun k => impl_RecordText.f k r.f0 r.f1 r.f2 r.f3 r.f4 r.f5) (lineV r) := by
  unfold impl_RecordText.f lineV
  refine Ev.bind (RecordValid_ev r hr) ?_
  by_cases h : recOk r = true
  · have hl := text_len h
    simp only [h, if_true, words_some h, bindS]
    have e : Lib.join (List.map (fun x => x.data.toList) [(⟨(dec r.f0.toNat).toArray⟩ : ByteArray), ⟨(dec r.f1.toNat).toArray⟩, ⟨(partT r.f2 r.f3).toArray⟩, ⟨(partT r.f4 r.f5).toArray⟩]) (ByteArray.mk #[32]).data.toList = textOf r := join_four _ _ _ _
    unfold strings_Join.f
    rw [e, if_pos ⟨by omega, by simp⟩]
    exact Ev.now _
  · have h' : recOk r = false := by simpa using h
    simp only [h', Bool.false_eq_true, if_false]
    exact Ev.now _
theorem sRecordText_ev (r : S25) (hr : Lens r) : Ev (fun k => spec_RecordText.f k r.f0 r.f1 r.f2 r.f3 r.f4 r.f5) (lineV r) := by
  unfold spec_RecordText.f lineV
  refine Ev.bind (sRecordValid_ev r hr) ?_
  by_cases h : recOk r = true
  · simp only [h, if_true]
    exact Ev.bind (text_ev r h) (Ev.now _)
  · have h' : recOk r = false := by simpa using h
    simp only [h', Bool.false_eq_true, if_false]
    exact Ev.now _
theorem lineV_list (r : S25) : (lineV r).toList = if recOk r = true then textOf r else [] := by
  unfold lineV
  split
  · exact toList_mk _
  · exact toList_mk []
theorem lineV_size (r : S25) : (lineV r).size ≤ 63 := by
  unfold lineV
  split
  · rename_i h; rw [size_mk]; exact text_len h
  · simp [ByteArray.size]
end Go.Proofs.YteoicjlhkaljbaaDoor.Pu

namespace Go.Proofs.YteoicjlhkaljbaaDoor.Pu
open Go.RowKit Go.Proofs.YteoicjlhkaljbaaDoorW.PrintWords Go.Proofs.YteoicjlhkaljbaaDoorW.PrintLast Go.Proofs.YteoicjlhkaljbaaDoor.G
set_option linter.unusedVariables false
set_option linter.unusedSimpArgs false
abbrev Rec := S25
def tup (r : Rec) : RecR := (r.f0, r.f1, r.f2, r.f3, r.f4, r.f5, true)
/-- The one record with this line. -/
noncomputable def recV (s : List UInt8) : RecR := open Classical in if h : ∃ r : Rec, recOk r = true ∧ textOf r = s then tup h.choose else noRec
theorem recV_some {r : Rec} (h : recOk r = true) : recV (textOf r) = tup r := by
  unfold recV
  have hx : ∃ r' : Rec, recOk r' = true ∧ textOf r' = textOf r := ⟨r, h, rfl⟩
  rw [dif_pos hx]
  congr 1
  exact text_inj hx.choose_spec.1 h hx.choose_spec.2
theorem recV_none {s : List UInt8} (h : ∀ r : Rec, recOk r = true → textOf r ≠ s) : recV s = noRec := by
  unfold recV
  rw [dif_neg (fun ⟨r, h1, h2⟩ => h r h1 h2)]
theorem recOk_mk {a b : Nat} {h2 h4 : Bool} {l3 l5 : List Int} : recOk (⟨(a : Int), (b : Int), h2, l3, h4, l5⟩ : Rec) = (decide (a ≤ 99999) && decide (b ≤ 99999) && (partOk h2 l3 && partOk h4 l5)) := by
  unfold recOk rng
  simp only
  rw [decide_eq_true (show (0 : Int) ≤ (a : Int) by omega), decide_eq_true (show (0 : Int) ≤ (b : Int) by omega), Bool.true_and, Bool.true_and]
  rw [show decide ((a : Int) ≤ 99999) = decide (a ≤ 99999) from decide_eq_decide.2 (by omega), show decide ((b : Int) ≤ 99999) = decide (b ≤ 99999) from decide_eq_decide.2 (by omega)]
theorem split_text {r : Rec} (h : recOk r = true) : splitL (textOf r) = [dec r.f0.toNat, dec r.f1.toNat, partT r.f2 r.f3, partT r.f4 r.f5] := by
  obtain ⟨_, _, h2, h3, _, _⟩ := recOk_parts h
  unfold textOf
  rw [splitL_app (dec_no _), splitL_app (dec_no _), splitL_app (part_no _ _ h2), splitL_none (part_no _ _ h3)]
theorem recOk_part {r : Rec} (h : recOk r = true) : partOk r.f2 r.f3 = true ∧ partOk r.f4 r.f5 = true := by
  unfold recOk at h
  simp only [Bool.and_eq_true] at h
  exact h.2
theorem text_of_four {s a b c d : List UInt8} (h : splitL s = [a, b, c, d]) : s = a ++ 32 :: (b ++ 32 :: (c ++ 32 :: d)) := by
  have := (splitL_join s).1
  rw [h, join_four] at this
  exact this.symm
theorem rd_four (ws : List ByteArray) (a b c d : List UInt8) (h : ws.map ByteArray.toList = [a, b, c, d]) : ws.length = 4 ∧ (rdOf ByteArray.empty ws 0).toList = a ∧ (rdOf ByteArray.empty ws 1).toList = b ∧ (rdOf ByteArray.empty ws 2).toList = c ∧ (rdOf ByteArray.empty ws 3).toList = d := by
  match ws, h with
  | [x, y, z, u], h =>
    simp only [List.map_cons, List.map_nil, List.cons.injEq, and_true] at h
    exact ⟨rfl, h.1, h.2.1, h.2.2.1, h.2.2.2⟩
theorem piece_len {l p : List UInt8} (h : p ∈ splitL l) : p.length ≤ l.length := by
  induction l generalizing p with
  | nil => simp [splitL] at h; rw [h]; simp
  | cons c l ih =>
    unfold splitL at h
    split at h
    · rcases List.mem_cons.1 h with rfl | h
      · simp
      · have := ih h; simp only [List.length_cons]; omega
    · rcases List.mem_cons.1 h with rfl | h
      · cases hs : splitL l with
        | nil => exact absurd hs (splitL_ne l)
        | cons q qs => have := ih (p := q) (by rw [hs]; simp); simp only [List.headD_cons, List.length_cons]; omega
      · have := ih (List.mem_of_mem_tail h); simp only [List.length_cons]; omega
/-- The program. -/
theorem RecordOf_ev (s : ByteArray) (hs : s.size ≤ 10000000) : Ev (fun k => impl_RecordOf.f k s) (recV s.toList) := by
  have hl := toList_len s
  unfold impl_RecordOf.f strings_Split.f
  rw [if_pos ⟨by omega, by decide⟩]
  simp only [bindS]
  have hws := splitB_list s
  simp only [← toList_data] at hws
  generalize Lib.splitB ⟨#[32]⟩ 0 (Lib.countB s ⟨#[32]⟩) s = ws at hws
  by_cases h4 : ws.length = 4
  · simp only [if_pos h4]
    obtain ⟨a, b, c, d, hsp⟩ : ∃ a b c d, splitL s.toList = [a, b, c, d] := by
      rw [← hws]
      match ws, h4 with
      | [x, y, z, u], _ => exact ⟨_, _, _, _, rfl⟩
    obtain ⟨_, e0, e1, e2, e3⟩ := rd_four ws a b c d (hws.trans hsp)
    have hsz : ∀ p ∈ splitL s.toList, p.length ≤ 10000000 := fun p hp => Nat.le_trans (piece_len hp) (by omega)
    rw [hsp] at hsz
    have z0 : (rdOf ByteArray.empty ws 0).size ≤ 10000000 := by rw [← toList_len, e0]; exact hsz a (by simp)
    have z1 : (rdOf ByteArray.empty ws 1).size ≤ 10000000 := by rw [← toList_len, e1]; exact hsz b (by simp)
    have z2 : (rdOf ByteArray.empty ws 2).size ≤ 10000000 := by rw [← toList_len, e2]; exact hsz c (by simp)
    have z3 : (rdOf ByteArray.empty ws 3).size ≤ 10000000 := by rw [← toList_len, e3]; exact hsz d (by simp)
    have n0 := numberOf_ev _ z0
    have n1 := numberOf_ev _ z1
    have p2 := partOf_ev _ z2
    have p3 := partOf_ev _ z3
    rw [e0] at n0
    rw [e1] at n1
    rw [e2] at p2
    rw [e3] at p3
    refine Ev.bind n0 (Ev.bind n1 (Ev.bind p2 (Ev.bind p3 ?_)))
    have htx := text_of_four hsp
    by_cases hg : ((numI a).2 && (numI b).2 && (partI c).2.2 && (partI d).2.2) = true
    · simp only [Bool.and_eq_true] at hg
      obtain ⟨⟨⟨g0, g1⟩, g2⟩, g3⟩ := hg
      obtain ⟨m0, q0, l0, d0⟩ := numI_inv (l := a) (n := (numI a).1) (by rw [← g0])
      obtain ⟨m1, q1, l1, d1⟩ := numI_inv (l := b) (n := (numI b).1) (by rw [← g1])
      obtain ⟨t2, k2⟩ := partI_inv (w := c) (has := (partI c).1) (l := (partI c).2.1) (by rw [← g2])
      obtain ⟨t3, k3⟩ := partI_inv (w := d) (has := (partI d).1) (l := (partI d).2.1) (by rw [← g3])
      have hok : recOk (⟨(numI a).1, (numI b).1, (partI c).1, (partI c).2.1, (partI d).1, (partI d).2.1⟩ : Rec) = true := by
        rw [q0, q1, recOk_mk, decide_eq_true l0, decide_eq_true l1, k2, k3]
        rfl
      have htext : textOf (⟨(numI a).1, (numI b).1, (partI c).1, (partI c).2.1, (partI d).1, (partI d).2.1⟩ : Rec) = s.toList := by
        unfold textOf
        simp only
        rw [q0, q1, Int.toNat_natCast, Int.toNat_natCast, d0, d1, t2, t3]
        exact htx.symm
      have hL := recOk_len hok
      simp only [g0, g1, g2, g3, Bool.and_self, if_true]
      refine Ev.bind (RecordValid_ev (⟨(numI a).1, (numI b).1, (partI c).1, (partI c).2.1, (partI d).1, (partI d).2.1⟩ : Rec) ⟨by omega, by omega⟩) ?_
      rw [hok]
      simp only [if_true]
      rw [← htext, recV_some hok]
      exact Ev.now _
    · simp only [if_neg hg]
      rw [recV_none (fun r hr he => hg ?_)]
      · exact Ev.now _
      · have h2 := split_text hr
        rw [he, hsp] at h2
        simp only [List.cons.injEq, and_true] at h2
        obtain ⟨r0, r1, _⟩ := recOk_parts hr
        obtain ⟨pk2, pk3⟩ := recOk_part hr
        rw [h2.1, h2.2.1, h2.2.2.1, h2.2.2.2, numI_dec _ (by omega), numI_dec _ (by omega), partI_part pk2, partI_part pk3]
        rfl
  · simp only [if_neg h4]
    rw [recV_none (fun r hr he => h4 ?_)]
    · exact Ev.now _
    · have h2 := split_text hr
      rw [he, ← hws] at h2
      exact (rd_four ws _ _ _ _ h2).1
/-- The reference. -/
theorem sRecordOf_ev (s : ByteArray) (hs : s.size ≤ 10000000) : Ev (fun k => spec_RecordOf.f k s) (recV s.toList) := by
  have hl := toList_len s
  unfold spec_RecordOf.f
  obtain ⟨ws, hev, hws⟩ := cut_ends s hs
  refine Ev.bind hev ?_
  by_cases h4 : ws.length = 4
  · obtain ⟨a, b, c, d, hsp⟩ : ∃ a b c d, splitL s.toList = [a, b, c, d] := by
      rw [← hws]
      match ws, h4 with
      | [x, y, z, u], _ => exact ⟨_, _, _, _, rfl⟩
    obtain ⟨_, e0, e1, e2, e3⟩ := rd_four ws a b c d (hws.trans hsp)
    have hsz : ∀ p ∈ splitL s.toList, p.length ≤ 10000000 := fun p hp => Nat.le_trans (piece_len hp) (by omega)
    rw [hsp] at hsz
    have z0 : (rdOf ByteArray.empty ws 0).size ≤ 10000000 := by rw [← toList_len, e0]; exact hsz a (by simp)
    have z1 : (rdOf ByteArray.empty ws 1).size ≤ 10000000 := by rw [← toList_len, e1]; exact hsz b (by simp)
    have z2 : (rdOf ByteArray.empty ws 2).size ≤ 10000000 := by rw [← toList_len, e2]; exact hsz c (by simp)
    have z3 : (rdOf ByteArray.empty ws 3).size ≤ 10000000 := by rw [← toList_len, e3]; exact hsz d (by simp)
    have n0 := number_ev _ z0
    have n1 := number_ev _ z1
    have p2 := bytes41_ev _ z2
    have p3 := bytes41_ev _ z3
    rw [e0] at n0
    rw [e1] at n1
    rw [e2] at p2
    rw [e3] at p3
    simp only [h4, if_pos (show ((4 : Nat) : Int) = 4 from rfl), if_pos (show (0 : Int) < ((4 : Nat) : Int) by decide), if_pos (show (1 : Int) < ((4 : Nat) : Int) by decide), if_pos (show (2 : Int) < ((4 : Nat) : Int) by decide), if_pos (show (3 : Int) < ((4 : Nat) : Int) by decide)]
    refine Ev.bind n0 (Ev.bind n1 (Ev.bind p2 (Ev.bind p3 ?_)))
    rw [e2, e3]
    have hL : Lens (⟨numS a, numS b, c != [45], unhexS (c.drop 1), d != [45], unhexS (d.drop 1)⟩ : Rec) := by
      have h1 := unhexS_len _ (c.drop 1) (Nat.le_refl _)
      have h2 := unhexS_len _ (d.drop 1) (Nat.le_refl _)
      have h3 := hsz c (by simp)
      have h5 := hsz d (by simp)
      rw [List.length_drop] at h1 h2
      exact ⟨by dsimp only; omega, by dsimp only; omega⟩
    refine Ev.bind (sRecordText_ev _ hL) ?_
    rw [lineV_list]
    by_cases hok : recOk (⟨numS a, numS b, c != [45], unhexS (c.drop 1), d != [45], unhexS (d.drop 1)⟩ : Rec) = true
    · rw [if_pos hok]
      by_cases ht : textOf (⟨numS a, numS b, c != [45], unhexS (c.drop 1), d != [45], unhexS (d.drop 1)⟩ : Rec) = s.toList
      · simp only [if_pos ht]
        rw [← ht, recV_some hok]
        exact Ev.now _
      · simp only [if_neg ht]
        rw [recV_none (fun r hr he => ht ?_)]
        · exact Ev.now _
        · exact four_back hsp hr he
    · rw [if_neg hok]
      have hne : ¬ ([] : List UInt8) = s.toList := by
        intro e
        rw [← e] at hsp
        simp [splitL] at hsp
      simp only [if_neg hne]
      rw [recV_none (fun r hr he => hok ?_)]
      · exact Ev.now _
      · exact four_ok hsp hr he
  · simp only [if_neg (show ¬ (ws.length : Int) = 4 by omega)]
    rw [recV_none (fun r hr he => h4 ?_)]
    · exact Ev.now _
    · have h2 := split_text hr
      rw [he, ← hws] at h2
      exact (rd_four ws _ _ _ _ h2).1
where
  four_eq {s a b c d : List UInt8} (hsp : splitL s = [a, b, c, d]) {r : Rec} (hr : recOk r = true) (he : textOf r = s) : (⟨numS a, numS b, c != [45], unhexS (c.drop 1), d != [45], unhexS (d.drop 1)⟩ : Rec) = r := by
    have h2 := split_text hr
    rw [he, hsp] at h2
    simp only [List.cons.injEq, and_true] at h2
    obtain ⟨r0, r1, _⟩ := recOk_parts hr
    obtain ⟨pk2, pk3⟩ := recOk_part hr
    rw [h2.1, h2.2.1, h2.2.2.1, h2.2.2.2, numS_dec _ (by omega), numS_dec _ (by omega), (unhexS_part pk2).1, (unhexS_part pk2).2, (unhexS_part pk3).1, (unhexS_part pk3).2]
    cases r
    simp only at r0 r1 ⊢
    congr 1 <;> omega
  four_back {s a b c d : List UInt8} (hsp : splitL s = [a, b, c, d]) {r : Rec} (hr : recOk r = true) (he : textOf r = s) : textOf (⟨numS a, numS b, c != [45], unhexS (c.drop 1), d != [45], unhexS (d.drop 1)⟩ : Rec) = s := by rw [four_eq hsp hr he, he]
  four_ok {s a b c d : List UInt8} (hsp : splitL s = [a, b, c, d]) {r : Rec} (hr : recOk r = true) (he : textOf r = s) : recOk (⟨numS a, numS b, c != [45], unhexS (c.drop 1), d != [45], unhexS (d.drop 1)⟩ : Rec) = true := by rw [four_eq hsp hr he, hr]
end Go.Proofs.YteoicjlhkaljbaaDoor.Pu

namespace Go.Proofs.YteoicjlhkaljbaaDoor.Pu
open Go.RowKit Go.Proofs.YteoicjlhkaljbaaDoorW.PrintWords Go.Proofs.YteoicjlhkaljbaaDoorW.PrintLast Go.Proofs.YteoicjlhkaljbaaDoorW.PrintMore Go.Proofs.YteoicjlhkaljbaaDoor.G
set_option linter.unusedVariables false
set_option linter.unusedSimpArgs false
/-- Rows of records that can be told. -/
def RowR (l : List S25) : Prop := l.length ≤ 9223372036854775807 ∧ ∀ r ∈ l, Lens r
theorem RowR.rd {l : List S25} (h : RowR l) (i : Nat) (hi : i < l.length) : Lens (rd_T25 l (i : Int)) := by
  rw [rdR_nat l i hi]
  exact h.2 _ (List.getElem_mem _)
/-! rows of batches -/
theorem rdB_nat (l : List S84) (i : Nat) (h : i < l.length) : rd_T84 l (i : Int) = l[i] := by
  unfold rd_T84
  simp [h]
/-- Rows of batches that can be told. -/
def RowB (l : List S84) : Prop := l.length ≤ 9223372036854775807 ∧ ∀ b ∈ l, RowR b.f5
theorem RowB.rd {l : List S84} (h : RowB l) (i : Nat) (hi : i < l.length) : RowR (rd_T84 l (i : Int)).f5 := by
  rw [rdB_nat l i hi]
  exact h.2 _ (List.getElem_mem _)
end Go.Proofs.YteoicjlhkaljbaaDoor.Pu

namespace Go.Proofs.YteoicjlhkaljbaaDoor.Pu
open Go.RowKit Go.Proofs.YteoicjlhkaljbaaDoorW.PrintWords Go.Proofs.YteoicjlhkaljbaaDoorW.PrintLast Go.Proofs.YteoicjlhkaljbaaDoor.G
set_option linter.unusedVariables false
set_option linter.unusedSimpArgs false
theorem xor_i64 (a b : Int) (h0 : 0 ≤ a) (h1 : a < 4611686018427387904) (k0 : 0 ≤ b) (k1 : b < 4611686018427387904) : 0 ≤ bits .xor .i64 a b := by
  obtain ⟨a, rfl⟩ := Int.eq_ofNat_of_zero_le h0
  obtain ⟨b, rfl⟩ := Int.eq_ofNat_of_zero_le k0
  have ha : a < 2 ^ 62 := by omega
  have hb : b < 2 ^ 62 := by omega
  have hx := Nat.xor_lt_two_pow ha hb
  have ha' : a % 2 ^ 64 = a := Nat.mod_eq_of_lt (by omega)
  have hb' : b % 2 ^ 64 = b := Nat.mod_eq_of_lt (by omega)
  show 0 ≤ IntKind.i64.wrap ((BitVec.ofInt 64 (a : Int) ^^^ BitVec.ofInt 64 (b : Int)).toNat : Int)
  rw [BitVec.ofInt_natCast, BitVec.ofInt_natCast, BitVec.toNat_xor, BitVec.toNat_ofNat, BitVec.toNat_ofNat, ha', hb', IntKind.wrap_i64]
  omega
theorem rd_range {b : List Int} (hb : ∀ x ∈ b, 0 ≤ x ∧ x ≤ 255) (i : Int) : 0 ≤ rd b i ∧ rd b i ≤ 255 := by
  unfold rd
  rw [List.getD_eq_getElem?_getD]
  rcases h : b[i.toNat]? with _ | x
  · simp
  · exact hb x (List.mem_of_getElem? h)
theorem mod_range {x n : Int} (h0 : 0 ≤ x) (h1 : 1 ≤ n) : 0 ≤ Int.tmod x n ∧ Int.tmod x n < n := by
  rw [Int.tmod_eq_emod_of_nonneg h0]
  exact ⟨Int.emod_nonneg _ (by omega), Int.emod_lt_of_pos _ (by omega)⟩
/-- A code that is read: bytes, and a place that is no great number. -/
def CodeOk (b : List Int) : Prop := b.length ≤ 2000 ∧ ∀ x ∈ b, 0 ≤ x ∧ x ≤ 255
theorem pick_ends {b : List Int} (hb : CodeOk b) (p n : Int) (h0 : 0 ≤ p) (h1 : p ≤ 1000000000) (hn : n ≤ 4611686018427387904) :
    EndsIn (fun k => spec_l6Rd_pick.f k b p n) (fun r => r.2 = p + 1 ∧ 0 ≤ r.1 ∧ (1 ≤ n → r.1 < n) ∧ (n < 1 → r.1 = 0)) := by
  obtain ⟨hl, hr⟩ := hb
  unfold spec_l6Rd_pick.f
  rw [w64 (a := p + 1) (by omega) (by omega)]
  by_cases hn1 : n < 1
  · simp only [if_pos hn1]
    refine EndsIn.step (fun k => by rw [spec_l6Rd_pick.j0]) ?_
    simp only [if_true]
    exact EndsIn.now _ ⟨rfl, by omega, by omega, fun _ => rfl⟩
  · simp only [if_neg hn1]
    refine EndsIn.step (fun k => by rw [spec_l6Rd_pick.j0]) ?_
    rw [show p + 1 - 1 = p by omega, w64 (a := p) (by omega) (by omega)]
    by_cases hz : (b.length : Int) = 0
    · have : ((b.length : Int) == 0) = true := by simpa using hz
      simp only [this, if_true]
      exact EndsIn.now _ ⟨rfl, by omega, by omega, fun h => by omega⟩
    · have hz' : ((b.length : Int) == 0) = false := by simpa using hz
      simp only [hz', Bool.false_eq_true, if_false]
      by_cases hp : p < (b.length : Int)
      · have hx := rd_range hr p
        simp only [if_pos hp, if_pos h0, if_neg (show ¬ n = 0 by omega)]
        rw [w64 (a := rd b p) (by omega) (by omega)]
        have hm := mod_range (x := rd b p) (n := n) hx.1 (by omega)
        exact EndsIn.now _ ⟨rfl, hm.1, fun _ => hm.2, fun h => by omega⟩
      · have hm1 := mod_range (x := p) (n := (b.length : Int)) h0 (by omega)
        have h7 : wrap64 (wrap64 (p * 7) + 3) = p * 7 + 3 := by
          rw [w64 (a := p * 7) (by omega) (by omega), w64 (by omega) (by omega)]
        have hm2 := mod_range (x := p * 7 + 3) (n := (b.length : Int)) (by omega) (by omega)
        simp only [if_neg hp, if_neg hz, h7, if_pos hm1.1, if_pos hm1.2, if_pos hm2.1, if_pos hm2.2, if_neg (show ¬ n = 0 by omega)]
        have hx1 := rd_range hr (Int.tmod p b.length)
        have hx2 := rd_range hr (Int.tmod (p * 7 + 3) b.length)
        generalize rd b (Int.tmod p b.length) = x1 at hx1 ⊢
        generalize rd b (Int.tmod (p * 7 + 3) b.length) = x2 at hx2 ⊢
        have hd : 0 ≤ Int.tdiv p (b.length : Int) ∧ Int.tdiv p (b.length : Int) ≤ p := by
          rw [Int.tdiv_eq_ediv_of_nonneg h0]
          exact ⟨Int.ediv_nonneg h0 (by omega), Int.ediv_le_self _ h0⟩
        generalize Int.tdiv p (b.length : Int) = q at hd ⊢
        have e1 : wrap64 x1 = x1 := w64 (by omega) (by omega)
        have e2 : wrap64 x2 = x2 := w64 (by omega) (by omega)
        have e3 : wrap64 (x1 * 131) = x1 * 131 := w64 (by omega) (by omega)
        have e4 : wrap64 (x2 * 1117) = x2 * 1117 := w64 (by omega) (by omega)
        have e5 : wrap64 (x1 * 131 + x2 * 1117) = x1 * 131 + x2 * 1117 := w64 (by omega) (by omega)
        have e6 : wrap64 (p * 29) = p * 29 := w64 (by omega) (by omega)
        have e7 : wrap64 (x1 * 131 + x2 * 1117 + p * 29) = x1 * 131 + x2 * 1117 + p * 29 := w64 (by omega) (by omega)
        have e8 : wrap64 q = q := w64 (by omega) (by omega)
        have e9 : wrap64 (q * 53) = q * 53 := w64 (by omega) (by omega)
        have e10 : wrap64 (x1 * 131 + x2 * 1117 + p * 29 + q * 53) = x1 * 131 + x2 * 1117 + p * 29 + q * 53 := w64 (by omega) (by omega)
        simp only [e1, e2, e3, e4, e5, e6, e7, e8, e9, e10]
        have hX : 0 ≤ x1 * 131 + x2 * 1117 + p * 29 + q * 53 ∧ x1 * 131 + x2 * 1117 + p * 29 + q * 53 < 4611686018427387904 := ⟨by omega, by omega⟩
        generalize x1 * 131 + x2 * 1117 + p * 29 + q * 53 = X at hX ⊢
        have e11 : wrap64 (Int.tdiv X 64) = X / 64 := by
          rw [Int.tdiv_eq_ediv_of_nonneg hX.1]
          exact w64 (by omega) (by omega)
        rw [e11]
        have hxx := xor_i64 X (X / 64) hX.1 hX.2 (by omega) (by omega)
        have hm := mod_range (n := n) hxx (by omega)
        exact EndsIn.now _ ⟨rfl, hm.1, fun _ => hm.2, fun h => by omega⟩
end Go.Proofs.YteoicjlhkaljbaaDoor.Pu

namespace Go.Proofs.YteoicjlhkaljbaaDoor.Pu
open Go.RowKit Go.Proofs.YteoicjlhkaljbaaDoorW.PrintWords Go.Proofs.YteoicjlhkaljbaaDoorW.PrintLast Go.Proofs.YteoicjlhkaljbaaDoorW.PrintMore Go.Proofs.YteoicjlhkaljbaaDoor.G
set_option linter.unusedVariables false
set_option linter.unusedSimpArgs false
theorem part_loop {b : List Int} (hb : CodeOk b) (n : Int) (hn : n ≤ 12) : ∀ d (i : Nat) (l : List Int) (p : Int), 12 - i = d → l.length = i → i ≤ 12 → 0 ≤ p → p ≤ 900000000 + 2 * (i : Int) →
    EndsIn (fun k => spec_l91Part.l0 k l n (i : Int) b p) (fun r => r.2.1.length ≤ 12 ∧ p ≤ r.2.2 ∧ r.2.2 ≤ p + 2 * (12 - (i : Int))) := by
  intro d
  induction d with
  | zero =>
    intro i l p hd hl hi p0 p1
    refine EndsIn.step (fun k => by rw [spec_l91Part.l0]) ?_
    simp only [if_neg (show ¬ (i : Int) < n by omega)]
    exact EndsIn.now _ ⟨by show l.length ≤ 12; omega, by show p ≤ p; omega, by show p ≤ _; omega⟩
  | succ d ih =>
    intro i l p hd hl hi p0 p1
    refine EndsIn.step (fun k => by rw [spec_l91Part.l0]) ?_
    by_cases h : (i : Int) < n
    · simp only [if_pos h]
      refine EndsIn.bind (pick_ends hb p 256 p0 (by omega) (by omega)) fun q hq => ?_
      obtain ⟨q2, q3, q4, _⟩ := hq
      simp only [bindS]
      rw [q2]
      refine EndsIn.bind (pick_ends hb (p + 1) 4 (by omega) (by omega) (by omega)) fun s hs => ?_
      obtain ⟨s2, s3, s4, _⟩ := hs
      have s5 := s4 (by omega)
      rw [s2]
      simp only [if_pos s3, if_pos (show s.1 < (([1, 2, 3, q.1] : List Int).length : Int) by simpa using s5), if_pos (show l.length < 17592186044416 by omega), w64 (a := (i : Int) + 1) (by omega) (by omega)]
      have := ih (i + 1) (l ++ [rd [1, 2, 3, q.1] s.1]) (p + 1 + 1) (by omega) (by rw [List.length_append, hl]; rfl) (by omega) (by omega) (by omega)
      exact this.mono fun r hr => ⟨hr.1, by omega, by omega⟩
    · simp only [if_neg h]
      exact EndsIn.now _ ⟨by show l.length ≤ 12; omega, by show p ≤ p; omega, by show p ≤ _; omega⟩
theorem part_ends {b : List Int} (hb : CodeOk b) (p : Int) (h0 : 0 ≤ p) (h1 : p ≤ 800000000) : EndsIn (fun k => spec_l91Part.f k b p) (fun r => r.2.1.length ≤ 12 ∧ p ≤ r.2.2 ∧ r.2.2 ≤ p + 30) := by
  have st : ∀ (n q : Int), n ≤ 12 → p ≤ q → q ≤ p + 5 → EndsIn (fun k => spec_l91Part.j0 k [] n b q) (fun r => r.2.1.length ≤ 12 ∧ p ≤ r.2.2 ∧ r.2.2 ≤ p + 30) := by
    intro n q hn q0 q1
    refine EndsIn.step (fun k => by rw [spec_l91Part.j0]) ?_
    have := part_loop hb n hn 12 0 [] q (by omega) rfl (by omega) (by omega) (by omega)
    exact this.mono fun r hr => ⟨hr.1, by omega, by omega⟩
  unfold spec_l91Part.f
  refine EndsIn.bind (pick_ends hb p 4 h0 (by omega) (by omega)) fun q hq => ?_
  obtain ⟨q2, q3, q4, _⟩ := hq
  rw [q2]
  by_cases hz : q.1 = 0
  · simp only [if_pos hz]
    exact EndsIn.now _ ⟨by simp, by show p ≤ p + 1; omega, by show p + 1 ≤ p + 30; omega⟩
  · simp only [if_neg hz, bindS]
    refine EndsIn.bind (pick_ends hb (p + 1) 5 (by omega) (by omega) (by omega)) fun s hs => ?_
    obtain ⟨s2, s3, s4, _⟩ := hs
    have s5 := s4 (by omega)
    rw [s2]
    refine EndsIn.bind (pick_ends hb (p + 1 + 1) 12 (by omega) (by omega) (by omega)) fun u hu => ?_
    obtain ⟨u2, u3, u4, _⟩ := hu
    rw [u2]
    by_cases hu0 : u.1 = 0
    · simp only [if_pos hu0]
      exact st _ _ (by omega) (by omega) (by omega)
    · simp only [if_neg hu0]
      exact st _ _ (by omega) (by omega) (by omega)
end Go.Proofs.YteoicjlhkaljbaaDoor.Pu

namespace Go.Proofs.YteoicjlhkaljbaaDoor.Pu
open Go.RowKit Go.Proofs.YteoicjlhkaljbaaDoorW.PrintWords Go.Proofs.YteoicjlhkaljbaaDoorW.PrintLast Go.Proofs.YteoicjlhkaljbaaDoor.G
set_option linter.unusedVariables false
set_option linter.unusedSimpArgs false
theorem open_some (l0 : List Int) (hr : ∀ x ∈ l0, 0 ≤ x ∧ x ≤ 255) : ∃ b, spec_l6Open.f l0 = some (b, 0) ∧ CodeOk b := by
  unfold spec_l6Open.f
  by_cases h : (l0.length : Int) > 2000
  · rw [if_pos h, if_pos (by omega)]
    exact ⟨_, rfl, by rw [List.length_take]; omega, fun x hx => hr x (List.mem_of_mem_take hx)⟩
  · rw [if_neg h]
    exact ⟨_, rfl, by omega, hr⟩
end Go.Proofs.YteoicjlhkaljbaaDoor.Pu

namespace Go.Proofs.YteoicjlhkaljbaaDoor.Pu
open Go.RowKit Go.Proofs.YteoicjlhkaljbaaDoorW.PrintWords Go.Proofs.YteoicjlhkaljbaaDoorW.PrintLast Go.Proofs.YteoicjlhkaljbaaDoor.G
set_option linter.unusedVariables false
set_option linter.unusedSimpArgs false
theorem drawRec_ends {b : List Int} (hb : CodeOk b) (p : Int) (h0 : 0 ≤ p) (h1 : p ≤ 300000000) : EndsIn (fun k => spec_l91Record.f k b p) (fun r => r.2.2.2.1.length ≤ 13 ∧ r.2.2.2.2.2.1.length ≤ 13 ∧ p ≤ r.2.2.2.2.2.2 ∧ r.2.2.2.2.2.2 ≤ p + 1000) := by
  unfold spec_l91Record.f
  refine EndsIn.bind (pick_ends hb p 60 (by omega) (by omega) (by omega)) fun a ha => ?_
  refine EndsIn.bind (pick_ends hb a.2 250 (by omega) (by omega) (by omega)) fun c hc => ?_
  refine EndsIn.bind (pick_ends hb c.2 2 (by omega) (by omega) (by omega)) fun d hd => ?_
  refine EndsIn.bind (pick_ends hb d.2 100 (by omega) (by omega) (by omega)) fun e he => ?_
  refine EndsIn.bind (part_ends hb e.2 (by omega) (by omega)) fun f hf => ?_
  refine EndsIn.bind (part_ends hb f.2.2 (by omega) (by omega)) fun g hg => ?_
  refine EndsIn.bind (pick_ends hb g.2.2 40 (by omega) (by omega) (by omega)) fun m hm => ?_
  by_cases h0 : m.1 = 0
  · simp only [if_pos h0, bindS]
    refine EndsIn.bind (pick_ends hb m.2 3 (by omega) (by omega) (by omega)) fun n hn => ?_
    simp only [if_pos (show 0 ≤ n.1 by omega), if_pos (show n.1 < (([-1, 99999, 100000] : List Int).length : Int) by simp; omega)]
    exact EndsIn.now _ ⟨by dsimp only; omega, by dsimp only; omega, by dsimp only; omega, by dsimp only; omega⟩
  · simp only [if_neg h0]
    by_cases h1 : m.1 = 1
    · simp only [if_pos h1]
      exact EndsIn.now _ ⟨by dsimp only; omega, by dsimp only; omega, by dsimp only; omega, by dsimp only; omega⟩
    · simp only [if_neg h1]
      by_cases h2 : m.1 = 2
      · simp only [if_pos h2, if_pos (show g.2.1.length < 17592186044416 by omega)]
        exact EndsIn.now _ ⟨by dsimp only; omega, by simp; omega, by dsimp only; omega, by dsimp only; omega⟩
      · simp only [if_neg h2]
        exact EndsIn.now _ ⟨by dsimp only; omega, by dsimp only; omega, by dsimp only; omega, by dsimp only; omega⟩
end Go.Proofs.YteoicjlhkaljbaaDoor.Pu

namespace Go.Proofs.YteoicjlhkaljbaaDoor.Pu
open Go.RowKit Go.Proofs.YteoicjlhkaljbaaDoorW.PrintWords Go.Proofs.YteoicjlhkaljbaaDoorW.PrintLast Go.Proofs.YteoicjlhkaljbaaDoor.G
set_option linter.unusedVariables false
set_option linter.unusedSimpArgs false
theorem of_ends {b : List Int} (hb : CodeOk b) (p : Int) (l : List ByteArray) (h0 : 0 ≤ p) (h1 : p ≤ 1000000000) (hl : 1 ≤ l.length) (hl2 : l.length ≤ 100) (hs : ∀ x ∈ l, x.size ≤ 20) : EndsIn (fun k => spec_l6Rd_of.f k b p l) (fun r => r.1.size ≤ 20 ∧ r.2 = p + 1) := by
  unfold spec_l6Rd_of.f
  refine EndsIn.bind (pick_ends hb p _ h0 h1 (by omega)) fun a ha => ?_
  simp only [if_pos (show 0 ≤ a.1 by omega), if_pos (show a.1 < (l.length : Int) by omega)]
  refine EndsIn.now _ ⟨?_, ha.1⟩
  unfold rdOf
  have hn : a.1.toNat < l.length := by omega
  simp only [List.getD_eq_getElem?_getD, List.getElem?_eq_getElem hn, Option.getD_some]
  exact hs _ (List.getElem_mem hn)
theorem drawLine_ends {l0 : List Int} {c : List Int} (hc : spec_l6Open.f l0 = some (c, 0)) (hok : CodeOk c) : EndsIn (fun k => spec_DrawRecordOf.f k l0) (fun s => s.size ≤ 200) := by
  unfold spec_DrawRecordOf.f
  simp only [hc, bindS]
  refine EndsIn.bind (drawRec_ends hok 0 (by omega) (by omega)) fun q hq => ?_
  obtain ⟨q0, q1, q2, q3, q4, q5, p⟩ := q
  dsimp only at hq ⊢
  refine EndsIn.bind (P := fun t => t.size ≤ 63) (EndsIn.of (sRecordText_ev (⟨q0, q1, q2, q3, q4, q5⟩ : S25) ⟨by dsimp only; omega, by dsimp only; omega⟩) (lineV_size _)) fun t ht => ?_
  by_cases he : t.toList = []
  · simp only [if_pos he]
    refine EndsIn.bind (of_ends hok p _ (by omega) (by omega) (by simp) (by simp) (by decide)) fun r hr => EndsIn.now _ (by omega)
  · simp only [if_neg he]
    have hpos : 1 ≤ t.size := by
      rcases Nat.eq_zero_or_pos t.size with h | h
      · exact absurd (by rw [toList_data]; exact List.eq_nil_of_length_eq_zero (by rw [data_length]; exact h)) he
      · exact h
    refine EndsIn.bind (pick_ends hok p (t.size : Int) (by omega) (by omega) (by omega)) fun a ha => ?_
    refine EndsIn.bind (pick_ends hok a.2 6 (by omega) (by omega) (by omega)) fun b hb => ?_
    by_cases h0 : b.1 = 0
    · simp only [if_pos h0, if_pos (show 0 ≤ a.1 by omega), if_pos (show a.1 ≤ (t.size : Int) by omega)]
      refine EndsIn.bind (of_ends hok b.2 _ (by omega) (by omega) (by simp) (by simp) (by decide)) fun r hr => ?_
      have e1 : (t.extract 0 a.1.toNat).size ≤ 63 := by rw [ByteArray.size_extract]; omega
      have e2 : (t.extract (a.1 + 1).toNat t.size).size ≤ 63 := by rw [ByteArray.size_extract]; omega
      have e3 : ((t.extract 0 a.1.toNat) ++ r.1).size ≤ 83 := by rw [ByteArray.size_append]; omega
      rw [w64 (a := a.1 + 1) (by omega) (by omega)]
      simp only [if_pos (show (t.extract 0 a.1.toNat).size + r.1.size ≤ 9223372036854775807 by omega), if_pos (show 0 ≤ a.1 + 1 by omega), if_pos (show a.1 + 1 ≤ (t.size : Int) by omega), if_pos (show ((t.extract 0 a.1.toNat) ++ r.1).size + (t.extract (a.1 + 1).toNat t.size).size ≤ 9223372036854775807 by omega)]
      exact EndsIn.now _ (by rw [ByteArray.size_append]; omega)
    · simp only [if_neg h0]
      exact EndsIn.now _ (by omega)
end Go.Proofs.YteoicjlhkaljbaaDoor.Pu

namespace Go.Proofs.YteoicjlhkaljbaaDoor.Pu
open Go.RowKit Go.Proofs.YteoicjlhkaljbaaDoorW.PrintWords Go.Proofs.YteoicjlhkaljbaaDoorW.PrintLast Go.Proofs.YteoicjlhkaljbaaDoorW.PrintMore Go.Proofs.YteoicjlhkaljbaaDoor.G
set_option linter.unusedVariables false
set_option linter.unusedSimpArgs false
theorem selfInts (l : List Int) (hl : l.length ≤ 9223372036854775807) : Ev (fun k => laws_sameInts.f k l l) true := by
  unfold laws_sameInts.f
  simp only [if_true]
  have := ev_all l hl (fun k i => laws_sameInts.l0 k l l i) (fun k i => some true) (fun _ => true) true
    (fun k => by simp only [laws_sameInts.l0]; rw [if_neg (by omega)])
    (fun k i h => by simp only [laws_sameInts.l0]; rw [if_pos (by omega), if_pos (by omega), if_pos (by omega), if_pos trivial]; rfl)
    (fun i h => Ev.now _) l.length 0 (by omega) (by omega)
  rw [show ((l.drop 0).all fun _ => true) = true from List.all_eq_true.2 (fun _ _ => rfl)] at this
  simpa using this
theorem selfRecord (x : S25) (h : Lens x) : Ev (fun k => laws_sameRecord.f k x.f0 x.f1 x.f2 x.f3 x.f4 x.f5 x.f0 x.f1 x.f2 x.f3 x.f4 x.f5) true := by
  unfold laws_sameRecord.f
  simp only [if_true, beq_self_eq_true]
  refine Ev.bind (selfInts _ h.1) ?_
  simp only [if_true]
  exact Ev.bind (selfInts _ h.2) (Ev.now _)
end Go.Proofs.YteoicjlhkaljbaaDoor.Pu

namespace Go.Proofs.YteoicjlhkaljbaaDoor.Pure
open Go.RowKit Go.Proofs.YteoicjlhkaljbaaDoor.G Go.Proofs.YteoicjlhkaljbaaDoorW.PrintWords Go.Proofs.YteoicjlhkaljbaaDoorW.PrintLast Go.Proofs.YteoicjlhkaljbaaDoorW.PrintMore Go.Proofs.YteoicjlhkaljbaaDoor.Pu
set_option linter.unusedSimpArgs false
theorem FnRecordOf : OFnRecordOf.Pure := by
  intro l0 hl0 ho0
  refine EndsIn.rounds ?_
  unfold laws_FnRecordOf.f
  have hr := fun x hx => u8_range (ho0 x hx)
  by_cases h : (l0.length : Int) > 1048576
  · simp only [if_pos h]
    exact EndsIn.now _ rfl
  · simp only [if_neg h]
    obtain ⟨c, hc, hok⟩ := open_some l0 hr
    refine EndsIn.bind (drawLine_ends hc hok) fun s hs => ?_
    refine ⟨true, ?_, rfl⟩
    refine Ev.bind (RecordOf_ev s (by omega)) (Ev.bind (sRecordOf_ev s (by omega)) ?_)
    by_cases hx : ∃ r : Rec, recOk r = true ∧ textOf r = s.toList
    · obtain ⟨r, h1, h2⟩ := hx
      have hL : Lens r := by have := recOk_len h1; exact ⟨by omega, by omega⟩
      rw [← h2, recV_some h1]
      simp only [tup, bne_self_eq_false, Bool.false_eq_true, if_false]
      refine Ev.bind (selfRecord r hL) ?_
      simp only [if_true, Bool.not_true]
      refine Ev.step (fun k => by rw [laws_FnRecordOf.j0]) ?_
      simp only [Bool.false_eq_true, if_false]
      refine Ev.bind (RecordValid_ev r hL) ?_
      simp only [h1, if_true]
      refine Ev.bind (RecordText_ev r hL) ?_
      rw [lineV_list, if_pos h1, h2, beq_self_eq_true]
      exact Ev.now _
    · rw [recV_none (fun r h1 h2 => hx ⟨r, h1, h2⟩)]
      simp only [noRec, bne_self_eq_false, Bool.false_eq_true, if_false]
      refine Ev.bind (selfRecord (⟨0, 0, false, [], false, []⟩ : S25) ⟨by simp, by simp⟩) ?_
      simp only [if_true, Bool.not_false]
      refine Ev.step (fun k => by rw [laws_FnRecordOf.j0]) ?_
      simp only [if_true, beq_self_eq_true]
      exact Ev.bind (selfRecord (⟨0, 0, false, [], false, []⟩ : S25) ⟨by simp, by simp⟩) (Ev.now _)
end Go.Proofs.YteoicjlhkaljbaaDoor.Pure

namespace Go.Proofs.YteoicjlhkaljbaaDoor.fnRecordOf
open Go.ChangeShapes Go.WideShapes Go.ChangeAt Go.RowKit Go.Proofs.YteoicjlhkaljbaaDoor.OFnRecordOf Go.Proofs.YteoicjlhkaljbaaDoor.G Go.Joins
open Go.ChangeMaps (open_string shut_string)
set_option linter.unusedVariables false
theorem own : ownKnob Tryd.prog.godebug = none := by kernel_rfl
theorem laidOut : laidOutB Tryd.prog = true := by kernel_rfl
set_option maxRecDepth 100000 in
theorem lifted (os : Os) (started : os.Started) (H : Type) (enc : TypeId × Value → H) :
    ReturnsInHanded {} Tryd.checked os 8 .any (fun w args => (Rows.fnRecordOfSpec.pre enc Tryd.prog Tryd.f8 Rows.fnRecordOfRow.domain false w args ∧ laidMetH Tryd.prog Rows.fnRecordOfRow.laid w) ∧ sizedMet enc Tryd.prog Tryd.f8 (OpenSpec.ofChange Rows.fnRecordOfSpec) false w args) (Rows.fnRecordOfSpec.post enc Tryd.prog Tryd.f8 false true false false) := by
  refine returns_and_shaped (C := Tryd.checked) (X := fun w _ => laidMetH Tryd.prog Rows.fnRecordOfRow.laid w) (fun _ _ _ hh h => h.of_heap hh) own started (by kernel_rfl) Tryd.func8
    (ChangeSpec.witness_shaped (enc := enc) (C := Tryd.checked) (os := os) (X := fun w _ => laidMetH Tryd.prog Rows.fnRecordOfRow.laid w) false (World.laidAll Tryd.prog os Rows.fnRecordOfRow.laid) #[.slice none 0 0] 8 (World.laidAll_os _ _ _)
      (World.shaped_of_ZipB (by kernel_rfl) (by kernel_rfl)) (by kernel_rfl) (by kernel_rfl) (by kernel_rfl)
      (by rw [MakeChecks.laidMetH_plain _ _ _ (by kernel_rfl)]; exact laidMet_laidAll _ (by kernel_rfl) (by kernel_rfl))) ?_
  intro W base args ds gs before hval0 hW hcnd hsz0 hLL hsh _
  have hsz : (DataW.weightsEach Tryd.prog (Tryd.f8.params.toList ++ Rows.fnRecordOfSpec.plain.varTypes Tryd.prog) (ds ++ gs)).all (· ≤ reachBytes) = true := hsz0
  have hval : ∀ (j : Nat) t v, Tryd.f8.params[j]? = some t → args[j]? = some v → Value.okWide Tryd.prog W .any base t v := hval0
  have hW' := hW
  obtain ⟨p, q, hA0, hV, rfl, hfz, hnd⟩ := hW
  have hA : DataW.TrodAll enc Tryd.prog W 0 (fun _ => true) true Tryd.f8.params.toList args.toList ds p := hA0
  rw [Tryd.params8] at hA hval hsz
  obtain ⟨v0, vs0, d0, ds0, p0, q0, hargs, rfl, rfl, h0, r0⟩ := trodAll_cons hA
  obtain ⟨rfl, rfl, rfl⟩ := trodAll_nil r0
  obtain rfl : args = #[v0] := by cases args; simp_all
  obtain ⟨rfl, rfl⟩ := trodVars_none hV
  obtain ⟨a0, len0, cap0, rfl⟩ := okWide_slice Tryd.underlying22 (hval 0 22 v0 rfl rfl)
  have k0 := h0
  have lt0 : ∀ x ∈ p0, x.block < W.heap.size := by obtain ⟨m, hm⟩ := k0; exact DataW.trod_lt m _ _ _ hm
  obtain ⟨fuel0, hf0⟩ := h0
  obtain ⟨A0, c0, l0, hcs0, hlc0, hm0, hC0, ho0⟩ := Rd.opens_row Tryd.underlying22 (Rd.opens_int Tryd.underlying5 (by kernel_rfl)) hf0
  simp [Value.cells] at hcs0
  obtain ⟨rfl, rfl, rfl⟩ := hcs0
  have hL : laidMet Tryd.prog [("math/bits.deBruijn32tab", Rows.laid_math_bits_deBruijn32tab), ("math/bits.deBruijn64tab", Rows.laid_math_bits_deBruijn64tab), ("internal/strconv.uint64pow10", Rows.laid_internal_strconv_uint64pow10), ("unicode/utf8.acceptRanges", Rows.laid_unicode_utf8_acceptRanges), ("unicode/utf8.first", Rows.laid_unicode_utf8_first)] W := by
    have h_ := hLL
    rw [MakeChecks.laidMetH_plain _ _ _ (by kernel_rfl)] at h_
    exact h_
  have hT : Lib.TabIs Tryd.prog W "internal/strconv.uint64pow10" .u64 Lib.pow10Tab := pow10_laid hL.tail.tail
  have hE : ErrOk [0, 1] W := ⟨fun h_ => hT, fun h_ => maxLen_cell hsh⟩
  clear hL hLL hsh hT
  clear hA0 hval0 hsz0 hsz
  obtain ⟨k, h⟩ := Pure.FnRecordOf l0 (Nat.le_trans hlc0 hm0) ho0
  refine (laws_FnRecordOf.calls k _ _ l0 true W hE hC0 hlc0 h).mono fun e W' ⟨he, bel0⟩ => ?_
  subst he
  have bel : Below W.heap.size W W' := bel0
  exact ⟨_, rfl, _, _, _, [], _, [], hW', trodAll_mk1 (shut_bool Tryd.underlying4 _), (trodAll_cons_mk (Below.trod laidOut (by kernel_rfl) (of_decide_eq_true (by kernel_rfl)) k0 bel lt0) trodAll_mk0), rfl, bel.frame _, fun h => by cases h⟩
theorem over : Rows.fnRecordOfRow.holds Tryd.pinned (OpenSpec.ofChange Rows.fnRecordOfSpec) :=
  OpenClaim.holds_of_wide 8 Tryd.f8 rfl rfl rfl rfl rfl rfl rfl ⟨rfl, rfl, rfl, rfl, rfl⟩ rfl rfl rfl rfl rfl (by kernel_rfl) Tryd.func8 (by kernel_rfl)
    (of_decide_eq_true (by kernel_rfl)) (by unfold Func.isWrapper; first | (rw [if_pos (by decide +kernel)]; kernel_rfl) | (rw [if_neg (by decide +kernel)]; exact ⟨rfl, rfl⟩))
    (fun os started H enc _ => lifted os started H enc)
theorem proved : Rows.FnRecordOfSaid := over
#print axioms proved
end Go.Proofs.YteoicjlhkaljbaaDoor.fnRecordOf
namespace Go.Proofs.YteoicjlhkaljbaaDoor
/-- The row, under a short name, for the claim. -/
theorem fnRecordOf_holds : Rows.FnRecordOfSaid := fnRecordOf.proved
theorem fnRecordOf_card : Rows.FnRecordOfCardSaid :=
  Claim7.holds_tied_plain_at .later [] [.data, .data, .data, .data, .pinned] true (true, "ef6fe5f5f6daff1c50aa8af91370cf0377cad3eec5cad5a8540fa73015e2e4f7") false
    fnRecordOf_holds (fun _ h => by cases h) (by kernel_rfl) (fun _ h => by cases h) fnRecordOf_row_tie rfl ⟨rfl, rfl⟩ (by kernel_rfl) rfl
    (fun f fn hf hfn => by
      obtain rfl : f = 8 := Option.some.inj ((show Tryd.prog.funcNamed "loop.example/recordbatches/laws.FnRecordOf" = some 8 by kernel_rfl).symm.trans hf) |>.symm
      obtain rfl : fn = Tryd.f8 := (Option.some.inj (Tryd.func8.symm.trans hfn)).symm
      exact ⟨by kernel_rfl, fun j t ht => by
        rw [Tryd.params8] at ht
        have h3 : t = 22 := by
          rcases j with _ | j
          · have h_ := ht.symm; simp at h_; simp [h_]
          · simp at ht
        rcases h3 with rfl
        · exact (show Tryd.prog.wantsStandIn 22 = false by kernel_rfl)⟩)
    (by kernel_rfl)
#print axioms fnRecordOf_card
end Go.Proofs.YteoicjlhkaljbaaDoor

