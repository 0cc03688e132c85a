/- A text of seat YteoicjlhkaljbaaDoor: what the law FnRecordOfBlank needs of this repo's texts (by pack.py). Not trusted: Lean checks it. -/
import Derived.Test.YteoicjlhkaljbaaDoorKFnRecordOfBlank9
import Derived.Lib.SplitLaws
import Derived.Lib.Join
import Derived.Laws.BitsLemmas
import Derived.Shelf.Strings.BuilderK
import Derived.Test.YteoicjlhkaljbaaDoorProg
import Derived.Lay
import Derived.LaidMore
import Derived.MakeChecks
import Derived.Stop.LaidErr
import Derived.Test.YteoicjlhkaljbaaDoorRows
import Derived.Test.YteoicjlhkaljbaaDoorCards
import Derived.Test.YteoicjlhkaljbaaDoorTie
import Derived.SevenTiedAt
import Derived.WalkSmall
import Derived.ChangeVars
import Derived.JoinedOf
import Derived.LaidLaws
import Derived.LaidHandle
import Derived.Stop.LaidTwo
import Derived.Stop.Joined
import Derived.RowKitTokens
import Derived.WalkKit
import Derived.ProofKit
import Derived.OpenShut
import Derived.ShutString
import Derived.ChangeOld
import Derived.Below
import Derived.SizedLaws
import Derived.Lib.SmallJoins
import Derived.Laws.StructEq
import Derived.ChangeSlices
namespace Go.Proofs.YteoicjlhkaljbaaDoor.Pu
open Go.RowKit Go.Proofs.YteoicjlhkaljbaaDoorW.PrintWords Go.Proofs.YteoicjlhkaljbaaDoorW.PrintLast Go.Proofs.YteoicjlhkaljbaaDoor.G
set_option linter.unusedVariables false
set_option linter.unusedSimpArgs false
theorem str_one (x : Int) (h0 : 0 ≤ x) (h1 : x ≤ 255) : strOfNums [x] = ByteArray.mk [UInt8.ofNat x.toNat].toArray := by
  unfold strOfNums
  simp
theorem dec_ev : ∀ (m n : Nat), n < 10 ^ (m + 1) → n ≤ 1000000000000 → Ev (fun k => spec_l6Dec.f k (n : Int)) (ByteArray.mk (dec n).toArray) := by
  intro m
  induction m with
  | zero =>
    intro n h hn
    refine Ev.step (fun k => by rw [spec_l6Dec.f]) ?_
    have h10 : n < 10 := by simpa using h
    simp only [if_neg (show ¬ (n : Int) < -9223372036854775807 by omega), if_neg (show ¬ (n : Int) < 0 by omega), if_pos (show (n : Int) < 10 by omega), w64 (a := 48 + (n : Int)) (by omega) (by omega)]
    rw [show (48 + (n : Int)) % 256 = 48 + n by omega, str_one _ (by omega) (by omega)]
    unfold dec
    rw [dif_pos h10, show (48 + (n : Int)).toNat = 48 + n by omega]
    exact Ev.now _
  | succ m ih =>
    intro n h hn
    refine Ev.step (fun k => by rw [spec_l6Dec.f]) ?_
    by_cases h10 : n < 10
    · simp only [if_neg (show ¬ (n : Int) < -9223372036854775807 by omega), if_neg (show ¬ (n : Int) < 0 by omega), if_pos (show (n : Int) < 10 by omega), w64 (a := 48 + (n : Int)) (by omega) (by omega)]
      rw [show (48 + (n : Int)) % 256 = 48 + n by omega, str_one _ (by omega) (by omega)]
      unfold dec
      rw [dif_pos h10, show (48 + (n : Int)).toNat = 48 + n by omega]
      exact Ev.now _
    · have ht : Int.tdiv (n : Int) 10 = ((n / 10 : Nat) : Int) := by
        rw [Int.tdiv_eq_ediv_of_nonneg (by omega)]; omega
      have hm : Int.tmod (n : Int) 10 = ((n % 10 : Nat) : Int) := by
        rw [Int.tmod_eq_emod_of_nonneg (by omega)]; omega
      simp only [if_neg (show ¬ (n : Int) < -9223372036854775807 by omega), if_neg (show ¬ (n : Int) < 0 by omega), if_neg (show ¬ (n : Int) < 10 by omega), ht, hm, w64 (a := ((n / 10 : Nat) : Int)) (by omega) (by omega), w64 (a := 48 + ((n % 10 : Nat) : Int)) (by omega) (by omega)]
      have h1 : n / 10 < 10 ^ (m + 1) := by rw [Nat.pow_succ] at h; omega
      refine Ev.bind (ih (n / 10) h1 (by omega)) ?_
      simp only [bindS]
      rw [show (48 + ((n % 10 : Nat) : Int)) % 256 = 48 + ((n % 10 : Nat) : Int) by omega, str_one _ (by omega) (by omega), show (48 + ((n % 10 : Nat) : Int)).toNat = 48 + n % 10 by omega]
      have hl := dec_len (n / 10) 12 (by omega)
      have hs : (ByteArray.mk (dec (n / 10)).toArray).size + (ByteArray.mk [UInt8.ofNat (48 + n % 10)].toArray).size ≤ 9223372036854775807 := by
        rw [size_mk, size_mk]; simp only [List.length_singleton]; omega
      simp only [if_pos hs, app_mk]
      rw [show dec n = dec (n / 10) ++ [UInt8.ofNat (48 + n % 10)] by rw [dec, dif_neg h10]]
      exact Ev.now _
theorem hex_loop (l : List Int) (hl : l.length ≤ 1000000) (ho : l.all isB = true) : ∀ d i, l.length - i = d → i ≤ l.length →
    Ev (fun k => spec_BytesText.l0 k l digs (ByteArray.mk (hexOf (l.take i)).toArray) (i : Int)) (ByteArray.mk (hexOf l).toArray) := by
  intro d
  induction d with
  | zero =>
    intro i hi hle
    refine Ev.step (fun k => by rw [spec_BytesText.l0]) ?_
    simp only [if_neg (show ¬ ((i : Int) < (l.length : Int)) by omega)]
    rw [List.take_of_length_le (by omega)]
    exact Ev.now _
  | succ d ih =>
    intro i hi hle
    have hlt : i < l.length := by omega
    have hb := (isB_iff _).1 (List.all_eq_true.1 ho _ (List.getElem_mem hlt))
    obtain ⟨n, hn⟩ := Int.eq_ofNat_of_zero_le hb.1
    have hn2 : n ≤ 255 := by omega
    refine Ev.step (fun k => by rw [spec_BytesText.l0]) ?_
    simp only [if_pos (show (i : Int) < (l.length : Int) by omega)]
    refine Ev.bind (l1Ok_ev l (by omega)) ?_
    have ht : Int.tdiv (n : Int) 16 = ((n / 16 : Nat) : Int) := by
      rw [Int.tdiv_eq_ediv_of_nonneg (by omega)]; omega
    have hm : Int.tmod (n : Int) 16 = ((n % 16 : Nat) : Int) := by
      rw [Int.tmod_eq_emod_of_nonneg (by omega)]; omega
    have d1 := digs_at (n / 16) (by omega)
    have d2 := digs_at (n % 16) (by omega)
    have hsz : digs.size = 16 := rfl
    simp only [ho, if_true, if_pos (show (0 : Int) ≤ (i : Int) by omega), rdi_nat l i hlt, hn, ht, hm, w64 (a := ((n / 16 : Nat) : Int)) (by omega) (by omega), w64 (a := ((n / 16 : Nat) : Int) + 1) (by omega) (by omega), w64 (a := ((n % 16 : Nat) : Int) + 1) (by omega) (by omega), w64 (a := (i : Int) + 1) (by omega) (by omega),
      if_pos (show (0 : Int) ≤ ((n / 16 : Nat) : Int) by omega), if_pos (show ((n / 16 : Nat) : Int) ≤ ((n / 16 : Nat) : Int) + 1 by omega), if_pos (show ((n / 16 : Nat) : Int) + 1 ≤ (digs.size : Int) by rw [hsz]; omega),
      if_pos (show (0 : Int) ≤ ((n % 16 : Nat) : Int) by omega), if_pos (show ((n % 16 : Nat) : Int) ≤ ((n % 16 : Nat) : Int) + 1 by omega), if_pos (show ((n % 16 : Nat) : Int) + 1 ≤ (digs.size : Int) by rw [hsz]; omega),
      Int.toNat_natCast, show (((n / 16 : Nat) : Int) + 1).toNat = n / 16 + 1 by omega, show (((n % 16 : Nat) : Int) + 1).toNat = n % 16 + 1 by omega, d1, d2]
    have hll : (hexOf (l.take i)).length ≤ 2000000 := by rw [hexOf_len, List.length_take]; omega
    have s1 : (ByteArray.mk (hexOf (l.take i)).toArray).size + (ByteArray.mk [hx (n / 16)].toArray).size ≤ 9223372036854775807 := by
      rw [size_mk, size_mk]; simp only [List.length_singleton]; omega
    have s2 : (ByteArray.mk (hexOf (l.take i)).toArray ++ ByteArray.mk [hx (n / 16)].toArray).size + (ByteArray.mk [hx (n % 16)].toArray).size ≤ 9223372036854775807 := by
      rw [app_mk, size_mk, size_mk]; simp only [List.length_singleton, List.length_append]; omega
    simp only [if_pos s1, if_pos s2]
    simp only [app_mk]
    have := ih (i + 1) (by omega) (by omega)
    rw [List.take_succ_eq_append_getElem hlt, hexOf_snoc, hn, Int.toNat_natCast] at this
    simp only [List.append_assoc, List.cons_append, List.nil_append] at this ⊢
    exact this
theorem hex_ev (l : List Int) (hl : l.length ≤ 1000000) (ho : l.all isB = true) : Ev (fun k => spec_BytesText.f k l) (ByteArray.mk (hexOf l).toArray) := by
  unfold spec_BytesText.f
  have := hex_loop l hl ho l.length 0 (by omega) (by omega)
  exact this
def partT (has : Bool) (l : List Int) : List UInt8 := if has = true then 120 :: hexOf l else [45]
theorem part_ev (has : Bool) (l : List Int) (hl : l.length ≤ 1000000) (ho : has = true → l.all isB = true) : Ev (fun k => spec_l41Part.f k has l) (ByteArray.mk (partT has l).toArray) := by
  unfold spec_l41Part.f partT
  cases has
  · exact Ev.now _
  · simp only [if_true]
    refine Ev.bind (hex_ev l hl (ho rfl)) ?_
    have : 1 + (ByteArray.mk (hexOf l).toArray).size ≤ 9223372036854775807 := by rw [size_mk, hexOf_len]; omega
    simp only [if_pos this]
    rw [show (⟨#[120]⟩ : ByteArray) = ByteArray.mk [120].toArray from rfl, app_mk]
    exact Ev.now _
def textOf (r : S25) : List UInt8 := dec r.f0.toNat ++ 32 :: (dec r.f1.toNat ++ 32 :: (partT r.f2 r.f3 ++ 32 :: partT r.f4 r.f5))
theorem recOk_parts {r : S25} (h : recOk r = true) : (0 ≤ r.f0 ∧ r.f0 ≤ 99999) ∧ (0 ≤ r.f1 ∧ r.f1 ≤ 99999) ∧ (r.f2 = true → r.f3.all isB = true) ∧ (r.f4 = true → r.f5.all isB = true) ∧ (r.f2 = false → r.f3 = []) ∧ (r.f4 = false → r.f5 = []) := by
  unfold recOk partOk rng at h
  simp only [Bool.and_eq_true, decide_eq_true_eq] at h
  obtain ⟨⟨h0, h1⟩, h2, h3⟩ := h
  refine ⟨h0, h1, fun e => ?_, fun e => ?_, fun e => ?_, fun e => ?_⟩
  · rw [e] at h2; simp at h2; exact List.all_eq_true.2 h2.2
  · rw [e] at h3; simp at h3; exact List.all_eq_true.2 h3.2
  · rw [e] at h2; simpa using h2
  · rw [e] at h3; simpa using h3
theorem text_ev (r : S25) (h : recOk r = true) : Ev (fun k => spec_l41Text.f k r.f0 r.f1 r.f2 r.f3 r.f4 r.f5) (ByteArray.mk (textOf r).toArray) := by
  obtain ⟨h0, h1, h2, h3, _, _⟩ := recOk_parts h
  have hl := recOk_len h
  obtain ⟨a, ha⟩ := Int.eq_ofNat_of_zero_le h0.1
  obtain ⟨b, hb⟩ := Int.eq_ofNat_of_zero_le h1.1
  have la := dec_len a 4 (by omega)
  have lb := dec_len b 4 (by omega)
  have lp : (partT r.f2 r.f3).length ≤ 25 := by unfold partT; split; simp only [List.length_cons, hexOf_len]; omega; simp
  have lq : (partT r.f4 r.f5).length ≤ 25 := by unfold partT; split; simp only [List.length_cons, hexOf_len]; omega; simp
  unfold spec_l41Text.f
  rw [ha, hb]
  refine Ev.bind (dec_ev 4 a (by omega) (by omega)) ?_
  rw [show (⟨#[32]⟩ : ByteArray) = ByteArray.mk [32].toArray from rfl]
  simp only [if_pos (show (ByteArray.mk (dec a).toArray).size + 1 ≤ 9223372036854775807 by rw [size_mk]; omega)]
  refine Ev.bind (dec_ev 4 b (by omega) (by omega)) ?_
  simp only [app_mk]
  have e1 : (ByteArray.mk (dec a ++ [32]).toArray).size + (ByteArray.mk (dec b).toArray).size ≤ 9223372036854775807 := by rw [size_mk, size_mk]; simp only [List.length_append, List.length_singleton]; omega
  have e2 : (ByteArray.mk (dec a ++ [32] ++ dec b).toArray).size + 1 ≤ 9223372036854775807 := by rw [size_mk]; simp only [List.length_append, List.length_singleton]; omega
  simp only [if_pos e1, if_pos e2]
  refine Ev.bind (part_ev r.f2 r.f3 (by omega) h2) ?_
  simp only [app_mk]
  have e3 : (ByteArray.mk (dec a ++ [32] ++ dec b ++ [32]).toArray).size + (ByteArray.mk (partT r.f2 r.f3).toArray).size ≤ 9223372036854775807 := by rw [size_mk, size_mk]; simp only [List.length_append, List.length_singleton]; omega
  have e4 : (ByteArray.mk (dec a ++ [32] ++ dec b ++ [32] ++ partT r.f2 r.f3).toArray).size + 1 ≤ 9223372036854775807 := by rw [size_mk]; simp only [List.length_append, List.length_singleton]; omega
  simp only [if_pos e3, if_pos e4]
  refine Ev.bind (part_ev r.f4 r.f5 (by omega) h3) ?_
  simp only [app_mk]
  have e5 : (ByteArray.mk (dec a ++ [32] ++ dec b ++ [32] ++ partT r.f2 r.f3 ++ [32]).toArray).size + (ByteArray.mk (partT r.f4 r.f5).toArray).size ≤ 9223372036854775807 := by rw [size_mk, size_mk]; simp only [List.length_append, List.length_singleton]; omega
  simp only [if_pos e5]
  unfold textOf
  rw [ha, hb, Int.toNat_natCast, Int.toNat_natCast]
  have : dec a ++ [32] ++ dec b ++ [32] ++ partT r.f2 r.f3 ++ [32] ++ partT r.f4 r.f5 = dec a ++ 32 :: (dec b ++ 32 :: (partT r.f2 r.f3 ++ 32 :: partT r.f4 r.f5)) := by simp
  rw [this]
  exact Ev.now _
/-! one line, one record -/
theorem split_first {a b x y : List UInt8} {c : UInt8} (ha : c ∉ a) (hb : c ∉ b) (h : a ++ c :: x = b ++ c :: y) : a = b ∧ x = y := by
  induction a generalizing b with
  | nil =>
    cases b with
    | nil => simpa using h
    | cons d b =>
      simp only [List.nil_append, List.cons_append, List.cons.injEq] at h
      exact absurd (by simp [h.1]) hb
  | cons d a ih =>
    cases b with
    | nil =>
      simp only [List.nil_append, List.cons_append, List.cons.injEq] at h
      exact absurd (by simp [h.1]) ha
    | cons e b =>
      simp only [List.cons_append, List.cons.injEq] at h
      have := ih (fun m => ha (by simp [m])) (fun m => hb (by simp [m])) h.2
      exact ⟨by rw [h.1, this.1], this.2⟩
theorem dec_digit (n : Nat) : ∀ c ∈ dec n, 48 ≤ c.toNat ∧ c.toNat ≤ 57 := by
  induction n using Nat.strongRecOn with
  | ind n ih =>
    intro c hc
    unfold dec at hc
    split at hc
    · rename_i h
      simp only [List.mem_singleton] at hc
      subst hc
      simp only [UInt8.toNat_ofNat']
      omega
    · rename_i h
      rcases List.mem_append.1 hc with hc | hc
      · exact ih (n / 10) (by omega) c hc
      · simp only [List.mem_singleton] at hc
        subst hc
        simp only [UInt8.toNat_ofNat']
        omega
def val (l : List UInt8) : Nat := l.foldl (fun n c => 10 * n + (c.toNat - 48)) 0
theorem val_dec (n : Nat) : val (dec n) = n := by
  induction n using Nat.strongRecOn with
  | ind n ih =>
    unfold dec
    split
    · rename_i h
      simp only [val, List.foldl_cons, List.foldl_nil, UInt8.toNat_ofNat']
      omega
    · rename_i h
      have := ih (n / 10) (by omega)
      unfold val at this ⊢
      rw [List.foldl_append, this]
      simp only [List.foldl_cons, List.foldl_nil, UInt8.toNat_ofNat']
      omega
theorem dec_inj {a b : Nat} (h : dec a = dec b) : a = b := by rw [← val_dec a, ← val_dec b, h]
theorem dec_no (n : Nat) : (32 : UInt8) ∉ dec n := fun h => by
  have := dec_digit n 32 h
  simp at this
theorem hx_range (n : Nat) (h : n < 16) : 48 ≤ (hx n).toNat ∧ (hx n).toNat ≤ 102 := by
  unfold hx
  split <;> simp only [UInt8.toNat_ofNat'] <;> omega
theorem hx_inj {a b : Nat} (ha : a < 16) (hb : b < 16) (h : hx a = hx b) : a = b := by
  have h2 : (hx a).toNat = (hx b).toNat := by rw [h]
  unfold hx at h2
  split at h2 <;> split at h2 <;> simp only [UInt8.toNat_ofNat'] at h2 <;> omega
theorem part_no (has : Bool) (l : List Int) (ho : has = true → l.all isB = true) : (32 : UInt8) ∉ partT has l := by
  unfold partT
  cases has
  · simp
  · simp only [if_true, List.mem_cons, not_or]
    refine ⟨by decide, fun h => ?_⟩
    unfold hexOf at h
    obtain ⟨x, hx1, hx2⟩ := List.mem_flatMap.1 h
    have hb := (isB_iff _).1 (List.all_eq_true.1 (ho rfl) x hx1)
    simp only [List.mem_cons, List.not_mem_nil, or_false] at hx2
    rcases hx2 with h2 | h2
    · have := (hx_range (x.toNat / 16) (by omega)).1
      rw [← h2] at this
      simp at this
    · have := (hx_range (x.toNat % 16) (by omega)).1
      rw [← h2] at this
      simp at this
theorem hexOf_inj : ∀ {a b : List Int}, a.all isB = true → b.all isB = true → hexOf a = hexOf b → a = b
  | [], [], _, _, _ => rfl
  | [], y :: ys, _, _, h => by
    have := congrArg List.length h
    rw [hexOf_len, hexOf_len] at this
    simp at this
  | x :: xs, [], _, _, h => by
    have := congrArg List.length h
    rw [hexOf_len, hexOf_len] at this
    simp at this
  | x :: xs, y :: ys, ha, hb, h => by
    rw [List.all_cons, Bool.and_eq_true, isB_iff] at ha hb
    have h' : hx (x.toNat / 16) :: hx (x.toNat % 16) :: hexOf xs = hx (y.toNat / 16) :: hx (y.toNat % 16) :: hexOf ys := h
    simp only [List.cons.injEq] at h'
    obtain ⟨h1, h2, h3⟩ := h'
    have e1 := hx_inj (by omega) (by omega) h1
    have e2 := hx_inj (by omega) (by omega) h2
    have e3 := hexOf_inj ha.2 hb.2 h3
    rw [e3, show x = y by omega]
theorem partT_inj {h1 h2 : Bool} {a b : List Int} (ha : h1 = true → a.all isB = true) (hb : h2 = true → b.all isB = true) (na : h1 = false → a = []) (nb : h2 = false → b = []) (h : partT h1 a = partT h2 b) : h1 = h2 ∧ a = b := by
  unfold partT at h
  cases h1 <;> cases h2
  · exact ⟨rfl, by rw [na rfl, nb rfl]⟩
  · simp at h
  · simp at h
  · simp only [if_true, List.cons.injEq, true_and] at h
    exact ⟨rfl, hexOf_inj (ha rfl) (hb rfl) h⟩
theorem text_inj {a b : S25} (ha : recOk a = true) (hb : recOk b = true) (h : textOf a = textOf b) : a = b := by
  obtain ⟨a0, a1, a2, a3, a4, a5⟩ := recOk_parts ha
  obtain ⟨b0, b1, b2, b3, b4, b5⟩ := recOk_parts hb
  unfold textOf at h
  obtain ⟨e0, h⟩ := split_first (dec_no _) (dec_no _) h
  obtain ⟨e1, h⟩ := split_first (dec_no _) (dec_no _) h
  obtain ⟨e2, h⟩ := split_first (part_no _ _ a2) (part_no _ _ b2) h
  have k0 := dec_inj e0
  have k1 := dec_inj e1
  obtain ⟨k2, k3⟩ := partT_inj a2 b2 a4 b4 e2
  obtain ⟨k4, k5⟩ := partT_inj a3 b3 a5 b5 h
  cases a; cases b
  simp only at a0 a1 b0 b1 k0 k1 k2 k3 k4 k5
  subst k2 k3 k4 k5
  congr 1 <;> omega
end Go.Proofs.YteoicjlhkaljbaaDoor.Pu

namespace Go.Proofs.YteoicjlhkaljbaaDoor.Pu
open Go.RowKit Go.Proofs.YteoicjlhkaljbaaDoorW.PrintWords Go.Proofs.YteoicjlhkaljbaaDoorW.PrintLast Go.Proofs.YteoicjlhkaljbaaDoor.G
set_option linter.unusedVariables false
set_option linter.unusedSimpArgs false
def splitL : List UInt8 → List (List UInt8)
  | [] => [[]]
  | c :: l => if c = 32 then [] :: splitL l else (c :: (splitL l).headD []) :: (splitL l).tail
theorem splitL_ne (l : List UInt8) : splitL l ≠ [] := by
  cases l with
  | nil => simp [splitL]
  | cons c l => unfold splitL; split <;> simp
theorem splitL_none : ∀ {l : List UInt8}, (32 : UInt8) ∉ l → splitL l = [l]
  | [], _ => rfl
  | c :: l, h => by
    have hc : ¬ c = 32 := fun e => h (by simp [e])
    have ih := splitL_none (l := l) (fun m => h (by simp [m]))
    unfold splitL
    rw [if_neg hc, ih]
    rfl
theorem splitL_app : ∀ {a b : List UInt8}, (32 : UInt8) ∉ a → splitL (a ++ 32 :: b) = a :: splitL b
  | [], b, _ => by
    rw [List.nil_append]
    conv => lhs; unfold splitL
    rw [if_pos rfl]
  | c :: a, b, h => by
    have hc : ¬ c = 32 := fun e => h (by simp [e])
    have ih := splitL_app (a := a) (b := b) (fun m => h (by simp [m]))
    rw [List.cons_append]
    conv => lhs; unfold splitL
    rw [if_neg hc, ih]
    rfl
theorem splitL_join (l : List UInt8) : Lib.join (splitL l) [32] = l ∧ ∀ p ∈ splitL l, (32 : UInt8) ∉ p := by
  induction l with
  | nil => exact ⟨by simp [splitL, Lib.join_one], by simp [splitL]⟩
  | cons c l ih =>
    obtain ⟨h1, h2⟩ := ih
    have hne := splitL_ne l
    cases hs : splitL l with
    | nil => exact absurd hs hne
    | cons p ps =>
      rw [hs] at h1 h2
      unfold splitL
      by_cases hc : c = 32
      · rw [if_pos hc, hs]
        refine ⟨?_, fun q hq => ?_⟩
        · subst hc
          simp only [Lib.join, List.intercalate] at h1 ⊢
          simp only [List.intersperse_cons_cons, List.flatten_cons] at h1 ⊢
          simp [h1]
        · rcases List.mem_cons.1 hq with rfl | hq
          · simp
          · exact h2 q hq
      · rw [if_neg hc, hs]
        refine ⟨?_, fun q hq => ?_⟩
        · simp only [List.headD_cons, List.tail_cons]
          cases ps with
          | nil => rw [Lib.join_one] at h1 ⊢; rw [h1]
          | cons p2 ps =>
            simp only [Lib.join, List.intercalate] at h1 ⊢
            simp only [List.intersperse_cons_cons, List.flatten_cons] at h1 ⊢
            rw [List.cons_append, h1]
        · simp only [List.headD_cons, List.tail_cons] at hq
          rcases List.mem_cons.1 hq with rfl | hq
          · simp only [List.mem_cons, not_or]
            exact ⟨fun e => hc e.symm, h2 p (by simp)⟩
          · exact h2 q (List.mem_cons_of_mem _ hq)
/-- The library's cut. -/
theorem first_blank (l : List UInt8) : (Lib.index l [32] = -1 ∧ (32 : UInt8) ∉ l) ∨ ∃ a b, l = a ++ 32 :: b ∧ (32 : UInt8) ∉ a ∧ Lib.index l [32] = (a.length : Nat) := by
  induction l with
  | nil => exact .inl ⟨rfl, by simp⟩
  | cons c l ih =>
    by_cases hc : c = 32
    · subst hc
      exact .inr ⟨[], l, rfl, by simp, by simp [Lib.index]⟩
    · have hc2 : ¬ (32 : UInt8) = c := fun e => hc e.symm
      have hp : ([32] : List UInt8).isPrefixOf (c :: l) = false := by show ((32 : UInt8) == c && ([] : List UInt8).isPrefixOf l) = false; rw [beq_eq_false_iff_ne.2 hc2]; rfl
      rcases ih with ⟨h1, h2⟩ | ⟨a, b, e, ha, hi⟩
      · refine .inl ⟨?_, by simp [hc2, h2]⟩
        unfold Lib.index
        rw [hp, h1]
        rfl
      · refine .inr ⟨c :: a, b, by rw [e]; rfl, by simp [hc2, ha], ?_⟩
        unfold Lib.index
        rw [hp, hi]
        have : (((a.length : Nat) : Int) == -1) = false := by rw [beq_eq_false_iff_ne]; omega
        simp [this]
theorem splitK_eq : ∀ (n : Nat) (l : List UInt8), l.length ≤ n → Lib.splitK [32] 0 (Lib.count l [32]) l = splitL l := by
  intro n
  induction n with
  | zero =>
    intro l hl
    obtain rfl : l = [] := List.eq_nil_of_length_eq_zero (by omega)
    rw [Lib.count_miss (s := []) (sub := [32]) rfl]
    rfl
  | succ n ih =>
    intro l hl
    rcases first_blank l with ⟨h1, h2⟩ | ⟨a, b, e, ha, hi⟩
    · rw [Lib.count_miss h1, splitL_none h2]
      rfl
    · have hd : l.drop (a.length + ([32] : List UInt8).length) = b := by rw [e]; simp
      rw [Lib.count_hit (by simp) hi, hd, Nat.add_comm]
      unfold Lib.splitK
      have hm : ¬ (Lib.index l [32] == -1) = true := by rw [hi]; simp
      rw [if_neg hm, hi, Int.toNat_natCast, hd, ih b (by rw [e] at hl; simp at hl; omega)]
      rw [e, splitL_app ha]
      simp
theorem splitB_list (s : ByteArray) : (Lib.splitB ⟨#[32]⟩ 0 (Lib.countB s ⟨#[32]⟩) s).map (·.data.toList) = splitL s.data.toList := by
  rw [Lib.splitB_data]
  exact splitK_eq s.data.toList.length _ (Nat.le_refl _)
/-- The reference's cut. -/
theorem extract_list (s : ByteArray) (a b : Nat) : (s.extract a b).toList = (s.toList.drop a).take (b - a) := by
  rw [toList_data, toList_data, Lib.extract_data]
theorem bt_list (s : ByteArray) (i : Nat) (h : i < s.size) : bt s (i : Int) = ((s.toList[i]'(by rw [toList_data]; simpa using h)).toNat : Int) := by
  have := bt_get s i h
  simp only [toList_data]
  exact this
theorem toList_len (s : ByteArray) : s.toList.length = s.size := by rw [toList_data]; exact data_length s
theorem cut_loop (s : ByteArray) (hs : s.size ≤ 10000000) : ∀ d (i from_ : Nat) (out : List ByteArray), s.size - i = d → i ≤ s.size → from_ ≤ i → out.length ≤ i → (32 : UInt8) ∉ (s.toList.drop from_).take (i - from_) →
    EndsIn (fun k => spec_l41Cut.l0 k s out (from_ : Int) (i : Int)) (fun r => r.map ByteArray.toList = out.map ByteArray.toList ++ splitL (s.toList.drop from_)) := by
  intro d
  have hl := toList_len s
  induction d with
  | zero =>
    intro i f out hd hi hf ho hno
    obtain rfl : i = s.size := by omega
    refine EndsIn.step (fun k => by rw [spec_l41Cut.l0]) ?_
    simp only [if_neg (show ¬ ((s.size : Nat) : Int) < (s.size : Int) by omega), if_pos (show (0 : Int) ≤ (f : Int) by omega), if_pos (show (f : Int) ≤ (s.size : Int) by omega), if_pos (show out.length < 8796093022208 by omega)]
    refine EndsIn.now _ ?_
    have e : (s.toList.drop f).take (s.size - f) = s.toList.drop f := List.take_of_length_le (by rw [List.length_drop]; omega)
    rw [e] at hno
    rw [List.map_append, splitL_none hno, List.map_cons, List.map_nil, extract_list, Int.toNat_natCast, e]
  | succ d ih =>
    intro i f out hd hi hf ho hno
    have hlt : i < s.size := by omega
    refine EndsIn.step (fun k => by rw [spec_l41Cut.l0]) ?_
    simp only [if_pos (show (i : Int) < (s.size : Int) by omega), if_pos (show (0 : Int) ≤ (i : Int) by omega), if_pos (show (0 : Int) ≤ (f : Int) by omega), if_pos (show (f : Int) ≤ (i : Int) by omega), if_pos (show (i : Int) ≤ (s.size : Int) by omega), if_pos (show out.length < 8796093022208 by omega), bt_list s i hlt, w64 (a := (i : Int) + 1) (by omega) (by omega)]
    have hli : i < s.toList.length := by omega
    have hdrop : s.toList.drop f = (s.toList.drop f).take (i - f) ++ s.toList[i] :: s.toList.drop (i + 1) := by
      have h1 : (s.toList.drop f).drop (i - f) = s.toList.drop i := by rw [List.drop_drop]; congr 1; omega
      rw [← List.drop_eq_getElem_cons hli, ← h1, List.take_append_drop]
    by_cases hc : s.toList[i] = 32
    · have hc' : ((s.toList[i].toNat : Nat) : Int) = 32 := by rw [hc]; rfl
      simp only [if_pos hc']
      have := ih (i + 1) (i + 1) (out ++ [s.extract f i]) (by omega) (by omega) (by omega) (by simp; omega) (by simp)
      simp only [Int.toNat_natCast]
      refine EndsIn.mono (by exact_mod_cast this) fun r hr => ?_
      rw [hr, List.map_append, List.map_cons, List.map_nil, extract_list, List.append_assoc]
      congr 1
      rw [hdrop, hc, splitL_app hno]
      rw [← hc, ← hdrop]
      simp
    · have hc' : ¬ ((s.toList[i].toNat : Nat) : Int) = 32 := fun e => hc (UInt8.toNat_inj.1 (by simpa using (by omega : s.toList[i].toNat = 32)))
      simp only [if_neg hc']
      have hno2 : (32 : UInt8) ∉ (s.toList.drop f).take (i + 1 - f) := by
        have e : (s.toList.drop f).take (i + 1 - f) = (s.toList.drop f).take (i - f) ++ [s.toList[i]] := by
          have hlt2 : i - f < (s.toList.drop f).length := by rw [List.length_drop]; omega
          rw [show i + 1 - f = (i - f) + 1 by omega, List.take_succ_eq_append_getElem hlt2]
          simp only [List.getElem_drop]
          congr 3
          omega
        rw [e, List.mem_append, List.mem_singleton]
        rintro (h | h)
        · exact hno h
        · exact hc h.symm
      have := ih (i + 1) f out (by omega) (by omega) (by omega) (by omega) hno2
      exact_mod_cast this
theorem cut_ends (s : ByteArray) (hs : s.size ≤ 10000000) : EndsIn (fun k => spec_l41Cut.f k s) (fun r => r.map ByteArray.toList = splitL s.toList) := by
  unfold spec_l41Cut.f
  have := cut_loop s hs s.size 0 0 [] (by omega) (by omega) (by omega) (by simp) (by simp)
  refine EndsIn.mono (by exact_mod_cast this) fun r hr => ?_
  simpa using hr
end Go.Proofs.YteoicjlhkaljbaaDoor.Pu

namespace Go.Proofs.YteoicjlhkaljbaaDoor.Pu
open Go.RowKit Go.Proofs.YteoicjlhkaljbaaDoorW.PrintWords Go.Proofs.YteoicjlhkaljbaaDoorW.PrintLast Go.Proofs.YteoicjlhkaljbaaDoor.G
set_option linter.unusedVariables false
set_option linter.unusedSimpArgs false
def isDig (c : UInt8) : Bool := decide (48 ≤ c.toNat) && decide (c.toNat ≤ 57)
theorem val_snoc (l : List UInt8) (c : UInt8) : val (l ++ [c]) = 10 * val l + (c.toNat - 48) := by
  unfold val
  rw [List.foldl_append]
  rfl
theorem val_lt : ∀ (n : Nat) (l : List UInt8), l.length = n → l.all isDig = true → val l < 10 ^ l.length := by
  intro n
  induction n with
  | zero => intro l hl _; rw [List.eq_nil_of_length_eq_zero hl]; decide
  | succ n ih =>
    intro l hl ha
    obtain ⟨m, c, rfl⟩ : ∃ m c, l = m ++ [c] := by
      rcases List.eq_nil_or_concat l with rfl | ⟨m, c, rfl⟩
      · simp at hl
      · exact ⟨m, c, by simp⟩
    simp only [List.length_append, List.length_singleton] at hl
    rw [List.all_append, Bool.and_eq_true] at ha
    have h1 := ih m (by omega) ha.1
    have hc : isDig c = true := by simpa using ha.2
    unfold isDig at hc
    simp only [Bool.and_eq_true, decide_eq_true_eq] at hc
    rw [val_snoc, List.length_append, List.length_singleton, Nat.pow_succ]
    omega
/-- One to five digits, no zero ahead. -/
def shape (l : List UInt8) : Bool := decide (1 ≤ l.length) && decide (l.length ≤ 5) && !(decide (1 < l.length) && l.headD 0 == 48)
def numI (l : List UInt8) : Int × Bool := if (shape l && l.all isDig) = true then ((val l : Nat), true) else (0, false)
theorem dec_val : ∀ (n : Nat) (l : List UInt8), l.length = n → l ≠ [] → l.all isDig = true → (1 < l.length → l.headD 0 ≠ 48) → dec (val l) = l := by
  intro n
  induction n with
  | zero => intro l hl hne; exact absurd (List.eq_nil_of_length_eq_zero hl) hne
  | succ n ih =>
    intro l hl hne ha hz
    obtain ⟨m, c, rfl⟩ : ∃ m c, l = m ++ [c] := by
      rcases List.eq_nil_or_concat l with rfl | ⟨m, c, rfl⟩
      · simp at hl
      · exact ⟨m, c, by simp⟩
    simp only [List.length_append, List.length_singleton] at hl hz
    rw [List.all_append, Bool.and_eq_true] at ha
    have hc : isDig c = true := by simpa using ha.2
    unfold isDig at hc
    simp only [Bool.and_eq_true, decide_eq_true_eq] at hc
    have hcc : UInt8.ofNat (48 + (c.toNat - 48)) = c := by rw [show 48 + (c.toNat - 48) = c.toNat by omega]; simp
    rw [val_snoc]
    cases m with
    | nil =>
      show dec (10 * 0 + (c.toNat - 48)) = [c]
      unfold dec
      rw [dif_pos (by omega), show 48 + (10 * 0 + (c.toNat - 48)) = 48 + (c.toNat - 48) by omega, hcc]
    | cons x m =>
      have hz' : x ≠ 48 := by simpa using hz (by simp)
      have hm := ih (x :: m) (by omega) (by simp) ha.1 (fun _ => by simpa using hz')
      have hpos : 1 ≤ val (x :: m) := by
        rcases Nat.eq_zero_or_pos (val (x :: m)) with h0 | h0
        · rw [h0] at hm
          have : dec 0 = [48] := by unfold dec; rfl
          rw [this] at hm
          simp only [List.cons.injEq] at hm
          exact absurd hm.1.symm hz'
        · exact h0
      rw [dec, dif_neg (by omega), show (10 * val (x :: m) + (c.toNat - 48)) / 10 = val (x :: m) by omega, show (10 * val (x :: m) + (c.toNat - 48)) % 10 = c.toNat - 48 by omega, hm, hcc]
theorem dec_head (n : Nat) (h : 10 ≤ n) : (dec n).headD 0 ≠ 48 := by
  induction n using Nat.strongRecOn with
  | ind n ih =>
    have hd : dec n = dec (n / 10) ++ [UInt8.ofNat (48 + n % 10)] := by rw [dec, dif_neg (by omega)]
    rw [hd]
    by_cases h2 : n / 10 < 10
    · have : dec (n / 10) = [UInt8.ofNat (48 + n / 10)] := by rw [dec, dif_pos h2]
      rw [this]
      show UInt8.ofNat (48 + n / 10) ≠ 48
      intro e
      have := congrArg UInt8.toNat e
      simp only [UInt8.toNat_ofNat'] at this
      have h48 : (48 : UInt8).toNat = 48 := rfl
      omega
    · have := ih (n / 10) (by omega) (by omega)
      cases hq : dec (n / 10) with
      | nil => rw [hq] at this; have hl := dec_digit (n / 10); unfold dec at hq; split at hq <;> simp at hq
      | cons y ys => rw [hq] at this; simpa using this
theorem dec_ne (n : Nat) : dec n ≠ [] := by unfold dec; split <;> simp
theorem dec_all (n : Nat) : (dec n).all isDig = true := List.all_eq_true.2 fun c hc => by
  have := dec_digit n c hc
  unfold isDig
  simp only [Bool.and_eq_true, decide_eq_true_eq]
  exact this
theorem shape_dec (n : Nat) (h : n ≤ 99999) : shape (dec n) = true := by
  have h1 := dec_len n 4 (by omega)
  have h2 : 1 ≤ (dec n).length := List.length_pos_iff.2 (dec_ne n)
  unfold shape
  simp only [Bool.and_eq_true, decide_eq_true_eq, Bool.not_eq_true', Bool.and_eq_false_iff, decide_eq_false_iff_not, beq_eq_false_iff_ne]
  refine ⟨⟨h2, h1⟩, ?_⟩
  by_cases h10 : n < 10
  · left
    have : dec n = [UInt8.ofNat (48 + n)] := by rw [dec, dif_pos h10]
    rw [this]
    simp
  · exact .inr (dec_head n (by omega))
theorem numI_dec (n : Nat) (h : n ≤ 99999) : numI (dec n) = (((n : Nat) : Int), true) := by
  unfold numI
  rw [shape_dec n h, dec_all n, val_dec]
  rfl
theorem numI_inv {l : List UInt8} {n : Int} (h : numI l = (n, true)) : ∃ m : Nat, n = m ∧ m ≤ 99999 ∧ dec m = l := by
  unfold numI at h
  by_cases hs : (shape l && l.all isDig) = true
  · rw [if_pos hs] at h
    obtain rfl : ((val l : Nat) : Int) = n := congrArg Prod.fst h
    rw [Bool.and_eq_true] at hs
    obtain ⟨h1, h2⟩ := hs
    unfold shape at h1
    simp only [Bool.and_eq_true, decide_eq_true_eq, Bool.not_eq_true', Bool.and_eq_false_iff, decide_eq_false_iff_not, beq_eq_false_iff_ne] at h1
    have hv := val_lt l.length l rfl h2
    have hp : 10 ^ l.length ≤ 10 ^ 5 := Nat.pow_le_pow_right (by decide) h1.1.2
    refine ⟨val l, rfl, by omega, dec_val l.length l rfl (fun e => by rw [e] at h1; simp at h1) h2 (fun hl => ?_)⟩
    rcases h1.2 with h3 | h3
    · exact absurd hl h3
    · exact h3
  · rw [if_neg hs] at h
    cases h
theorem bt_dig (s : ByteArray) (i : Nat) (h : i < s.toList.length) : isDig s.toList[i] = (decide (¬ bt s (i : Int) < 48) && decide (¬ bt s (i : Int) > 57)) := by
  rw [bt_list s i (by rw [← toList_len]; exact h)]
  unfold isDig
  congr 1
  · exact decide_eq_decide.2 (by omega)
  · exact decide_eq_decide.2 (by omega)
/-- A loop over the digits of a word. -/
theorem num_loop {β : Type} (s : ByteArray) (hs : s.size ≤ 5) (L : Nat → Int → Int → Option β) (no : β) (yes : Int → β)
    (hend : ∀ k x, L (k + 1) x (s.size : Int) = some (yes x))
    (hstep : ∀ k x (i : Nat), i < s.size → L (k + 1) x (i : Int) = if bt s (i : Int) < 48 then some no else if bt s (i : Int) > 57 then some no else L k (wrap64 ((wrap64 (10 * x)) + ((bt s (i : Int) - 48) % 256))) (wrap64 ((i : Int) + 1))) :
    ∀ d i, s.size - i = d → i ≤ s.size → (s.toList.take i).all isDig = true → Ev (fun k => L k ((val (s.toList.take i) : Nat) : Int) (i : Int)) (if s.toList.all isDig = true then yes ((val s.toList : Nat) : Int) else no) := by
  intro d
  have hl := toList_len s
  induction d with
  | zero =>
    intro i hd hi ha
    obtain rfl : i = s.size := by omega
    refine Ev.step (fun k => hend k _) ?_
    have e : s.toList.take s.size = s.toList := List.take_of_length_le (by omega)
    rw [e] at ha ⊢
    rw [if_pos ha]
    exact Ev.now _
  | succ d ih =>
    intro i hd hi ha
    have hlt : i < s.size := by omega
    have hli : i < s.toList.length := by omega
    refine Ev.step (fun k => hstep k _ i hlt) ?_
    have hb := bt_dig s i hli
    have hbl := bt_list s i hlt
    have hno : isDig s.toList[i] = false → s.toList.all isDig = false := fun h => by
      rw [List.all_eq_false]
      exact ⟨_, List.getElem_mem hli, by simp [h]⟩
    by_cases h1 : bt s (i : Int) < 48
    · simp only [if_pos h1]
      rw [hno (by rw [hb]; simp [h1])]
      exact Ev.now _
    · simp only [if_neg h1]
      by_cases h2 : bt s (i : Int) > 57
      · simp only [if_pos h2]
        rw [hno (by rw [hb]; simp [h2])]
        exact Ev.now _
      · simp only [if_neg h2]
        have htk : s.toList.take (i + 1) = s.toList.take i ++ [s.toList[i]] := List.take_succ_eq_append_getElem hli
        have hv := val_lt (s.toList.take i).length (s.toList.take i) rfl ha
        have hp : 10 ^ (s.toList.take i).length ≤ 10 ^ 5 := Nat.pow_le_pow_right (by decide) (by rw [List.length_take]; omega)
        have hd2 : isDig s.toList[i] = true := by rw [hb]; simp; omega
        have := ih (i + 1) (by omega) (by omega) (by rw [htk, List.all_append, ha]; simpa using hd2)
        rw [htk, val_snoc] at this
        rw [w64 (a := 10 * ((val (s.toList.take i) : Nat) : Int)) (by omega) (by omega), hbl]
        have hr := (isDig_iff s.toList[i]).1 hd2
        rw [show ((s.toList[i].toNat : Int) - 48) % 256 = ((s.toList[i].toNat - 48 : Nat) : Int) by omega, w64 (by omega) (by omega), w64 (by omega) (by omega)]
        exact_mod_cast this
where isDig_iff (c : UInt8) : isDig c = true ↔ 48 ≤ c.toNat ∧ c.toNat ≤ 57 := by unfold isDig; simp
theorem bt_head (s : ByteArray) (h : 0 < s.size) : (bt s 0 == 48) = (s.toList.headD 0 == 48) := by
  have hl := toList_len s
  have := bt_list s 0 h
  rw [show ((0 : Nat) : Int) = 0 from rfl] at this
  rw [this]
  obtain ⟨c, l, hs⟩ : ∃ c l, s.toList = c :: l := by
    cases hs : s.toList with
    | nil => rw [hs] at hl; simp at hl; omega
    | cons c l => exact ⟨c, l, rfl⟩
  have h0 : s.toList[0]'(by rw [hs]; simp) = c := by simp [hs]
  rw [h0, hs, List.headD_cons]
  rw [Bool.eq_iff_iff, beq_iff_eq, beq_iff_eq]
  constructor
  · intro hh
    exact UInt8.toNat_inj.1 (by simpa using (by omega : c.toNat = 48))
  · rintro rfl
    rfl
theorem numberOf_ev (s : ByteArray) (hs : s.size ≤ 10000000) : Ev (fun k => impl_numberOf.f k s) (numI s.toList) := by
  have hl := toList_len s
  unfold impl_numberOf.f
  have hgo : 1 ≤ s.size → s.size ≤ 5 → shape s.toList = true → Ev (fun k => impl_numberOf.j0 k s false) (numI s.toList) := by
    intro h1 h5 hsh
    refine Ev.step (fun k => by rw [impl_numberOf.j0]) ?_
    simp only [Bool.false_eq_true, if_false]
    have := num_loop s h5 (fun k x i => impl_numberOf.l0 k s x (s.size : Int) i) ((0 : Int), false) (fun x => (x, true)) (fun k x => by simp only [impl_numberOf.l0]; rw [if_neg (by omega)])
      (fun k x i hi => by simp only [impl_numberOf.l0]; rw [if_pos (by omega), if_pos (by omega), if_pos (by omega)]) s.size 0 (by omega) (by omega) rfl
    unfold numI
    rw [hsh, Bool.true_and]
    exact this
  have hstop : shape s.toList = false → Ev (fun k => impl_numberOf.j0 k s true) (numI s.toList) := by
    intro h
    refine Ev.step (fun k => by rw [impl_numberOf.j0]) ?_
    simp only [if_true]
    unfold numI
    rw [h]
    exact Ev.now _
  by_cases h1 : (s.size : Int) < 1
  · simp only [if_pos h1]
    exact hstop (by unfold shape; rw [hl, decide_eq_false (by omega)]; rfl)
  · simp only [if_neg h1]
    by_cases h5 : (s.size : Int) > 5
    · simp only [if_pos h5]
      exact hstop (by unfold shape; rw [hl, decide_eq_false (show ¬ s.size ≤ 5 by omega)]; simp)
    · simp only [if_neg h5]
      by_cases h2 : (s.size : Int) > 1
      · simp only [if_pos h2, if_pos (show (0 : Int) < (s.size : Int) by omega), bt_head s (by omega)]
        have hsh : shape s.toList = !(s.toList.headD 0 == 48) := by
          unfold shape
          rw [hl, decide_eq_true (show 1 ≤ s.size by omega), decide_eq_true (show s.size ≤ 5 by omega), decide_eq_true (show 1 < s.size by omega)]
          rfl
        cases hh : (s.toList.headD 0 == 48)
        · exact hgo (by omega) (by omega) (by rw [hsh, hh]; rfl)
        · exact hstop (by rw [hsh, hh]; rfl)
      · simp only [if_neg h2]
        exact hgo (by omega) (by omega) (by unfold shape; rw [hl, decide_eq_true (show 1 ≤ s.size by omega), decide_eq_true (show s.size ≤ 5 by omega), decide_eq_false (show ¬ 1 < s.size by omega)]; rfl)
/-- The reference's number. -/
def numS (l : List UInt8) : Int := if (decide (1 ≤ l.length) && decide (l.length ≤ 5) && l.all isDig) = true then ((val l : Nat) : Int) else -1
theorem numS_dec (n : Nat) (h : n ≤ 99999) : numS (dec n) = (n : Nat) := by
  have h1 := dec_len n 4 (by omega)
  have h2 : 1 ≤ (dec n).length := List.length_pos_iff.2 (dec_ne n)
  unfold numS
  rw [decide_eq_true h2, decide_eq_true h1, dec_all n, val_dec]
  rfl
theorem number_ev (s : ByteArray) (hs : s.size ≤ 10000000) : Ev (fun k => spec_l41Number.f k s) (numS s.toList) := by
  have hl := toList_len s
  unfold spec_l41Number.f numS
  rw [in_ev, hl]
  simp only [bindS]
  rw [show (decide ((1 : Int) ≤ (s.size : Int)) && decide ((s.size : Int) ≤ 5)) = (decide (1 ≤ s.size) && decide (s.size ≤ 5)) by
    congr 1
    · exact decide_eq_decide.2 (by omega)
    · exact decide_eq_decide.2 (by omega)]
  by_cases h : (decide (1 ≤ s.size) && decide (s.size ≤ 5)) = true
  · rw [h]
    simp only [if_true, Bool.true_and]
    simp only [Bool.and_eq_true, decide_eq_true_eq] at h
    have := num_loop s h.2 (fun k x i => spec_l41Number.l0 k s x i) (-1 : Int) (fun x => x) (fun k x => by simp only [spec_l41Number.l0]; rw [if_neg (by omega)])
      (fun k x i hi => by simp only [spec_l41Number.l0]; rw [if_pos (by omega), if_pos (by omega)]) s.size 0 (by omega) (by omega) rfl
    exact this
  · have h' : (decide (1 ≤ s.size) && decide (s.size ≤ 5)) = false := by simpa using h
    rw [h']
    simp only [Bool.false_eq_true, if_false, Bool.false_and]
    exact Ev.now _
end Go.Proofs.YteoicjlhkaljbaaDoor.Pu

namespace Go.Proofs.YteoicjlhkaljbaaDoor.Pu
open Go.RowKit Go.Proofs.YteoicjlhkaljbaaDoorW.PrintWords Go.Proofs.YteoicjlhkaljbaaDoorW.PrintLast Go.Proofs.YteoicjlhkaljbaaDoor.G
set_option linter.unusedVariables false
set_option linter.unusedSimpArgs false
def hexs : List UInt8 := [48, 49, 50, 51, 52, 53, 54, 55, 56, 57, 97, 98, 99, 100, 101, 102]
def hexI (c : UInt8) : Int := Lib.indexByte hexs c
theorem hexI_tab : ∀ c : Fin 256, hexI (UInt8.ofNat c.val) = if 48 ≤ c.val ∧ c.val ≤ 57 then (c.val : Int) - 48 else if 97 ≤ c.val ∧ c.val ≤ 102 then (c.val : Int) - 87 else -1 := by decide +kernel
theorem hexI_eq (c : UInt8) : hexI c = if 48 ≤ c.toNat ∧ c.toNat ≤ 57 then (c.toNat : Int) - 48 else if 97 ≤ c.toNat ∧ c.toNat ≤ 102 then (c.toNat : Int) - 87 else -1 := by
  have h := hexI_tab ⟨c.toNat, c.toNat_lt⟩
  simp only [UInt8.ofNat_toNat] at h
  exact h
theorem hexI_range (c : UInt8) : -1 ≤ hexI c ∧ hexI c < 16 := by rw [hexI_eq]; split; omega; split <;> omega
theorem hexI_hx (n : Nat) (h : n < 16) : hexI (hx n) = n := by
  have : ∀ i : Fin 16, hexI (hx i.val) = i.val := by decide +kernel
  exact this ⟨n, h⟩
theorem hx_hexI (c : UInt8) (h : 0 ≤ hexI c) : hx (hexI c).toNat = c := by
  have hh := hexI_eq c
  unfold hx
  split at hh
  · rw [hh, if_pos (by omega), show 48 + ((c.toNat : Int) - 48).toNat = c.toNat by omega]; simp
  · split at hh
    · rw [hh, if_neg (by omega), show 87 + ((c.toNat : Int) - 87).toNat = c.toNat by omega]; simp
    · omega
def unhexI : List UInt8 → Option (List Int)
  | a :: b :: r => if hexI a < 0 then none else if hexI b < 0 then none else (unhexI r).map (fun l => (16 * hexI a + hexI b) :: l)
  | _ => some []
def noPart : Bool × List Int × Bool := (false, [], false)
def partI (l : List UInt8) : Bool × List Int × Bool :=
  if l = [45] then (false, [], true) else if (decide (l.take 1 = [120]) && (decide ((l.drop 1).length % 2 = 0) && decide ((l.drop 1).length ≤ 24))) = true then (match unhexI (l.drop 1) with | some b => (true, b, true) | none => noPart) else noPart
theorem unhex_hex : ∀ l : List Int, l.all isB = true → unhexI (hexOf l) = some l
  | [], _ => rfl
  | x :: l, h => by
    rw [List.all_cons, Bool.and_eq_true, isB_iff] at h
    have ih := unhex_hex l h.2
    show unhexI (hx (x.toNat / 16) :: hx (x.toNat % 16) :: hexOf l) = _
    unfold unhexI
    rw [hexI_hx _ (by omega), hexI_hx _ (by omega), if_neg (by omega), if_neg (by omega), ih]
    simp only [Option.map_some, Option.some.injEq, List.cons.injEq, and_true]
    omega
theorem hex_unhex : ∀ (n : Nat) (l : List UInt8) (b : List Int), l.length ≤ n → l.length % 2 = 0 → unhexI l = some b → hexOf b = l ∧ b.all isB = true ∧ 2 * b.length = l.length := by
  intro n
  induction n with
  | zero =>
    intro l b hl _ h
    obtain rfl : l = [] := List.eq_nil_of_length_eq_zero (by omega)
    obtain rfl : [] = b := Option.some.inj h
    exact ⟨rfl, rfl, rfl⟩
  | succ n ih =>
    intro l b hl hm h
    match l, hl, hm, h with
    | [], _, _, h =>
      obtain rfl : [] = b := Option.some.inj h
      exact ⟨rfl, rfl, rfl⟩
    | [_], _, hm, _ => simp at hm
    | a :: c :: r, hl, hm, h =>
      simp only [List.length_cons] at hl hm
      unfold unhexI at h
      by_cases h1 : hexI a < 0
      · rw [if_pos h1] at h; cases h
      · by_cases h2 : hexI c < 0
        · rw [if_neg h1, if_pos h2] at h; cases h
        · rw [if_neg h1, if_neg h2] at h
          obtain ⟨b', hb, rfl⟩ := Option.map_eq_some_iff.1 h
          obtain ⟨e1, e2, e3⟩ := ih r b' (by omega) (by omega) hb
          have ra := hexI_range a
          have rc := hexI_range c
          refine ⟨?_, ?_, by simp only [List.length_cons]; omega⟩
          · show hx ((16 * hexI a + hexI c).toNat / 16) :: hx ((16 * hexI a + hexI c).toNat % 16) :: hexOf b' = _
            rw [e1, show (16 * hexI a + hexI c).toNat / 16 = (hexI a).toNat by omega, show (16 * hexI a + hexI c).toNat % 16 = (hexI c).toNat by omega, hx_hexI a (by omega), hx_hexI c (by omega)]
          · rw [List.all_cons, e2, Bool.and_true, isB_iff]
            omega
theorem partI_part {has : Bool} {l : List Int} (h : partOk has l = true) : partI (partT has l) = (has, l, true) := by
  unfold partOk at h
  unfold partI partT
  cases has
  · simp only [Bool.false_eq_true, if_false, decide_eq_true_eq] at h
    rw [List.eq_nil_of_length_eq_zero h]
    rfl
  · simp only [if_true, Bool.and_eq_true, decide_eq_true_eq] at h
    simp only [if_true]
    have hl := hexOf_len l
    rw [if_neg (by intro e; have := congrArg (fun l => l.headD 0) e; simp at this)]
    have e1 : List.take 1 (120 :: hexOf l) = [120] := rfl
    have e2 : List.drop 1 (120 :: hexOf l) = hexOf l := rfl
    rw [e1, e2, hl, decide_eq_true rfl, decide_eq_true (show 2 * l.length % 2 = 0 by omega), decide_eq_true (show 2 * l.length ≤ 24 by omega), unhex_hex l h.2]
    rfl
theorem partI_inv {w : List UInt8} {has : Bool} {l : List Int} (h : partI w = (has, l, true)) : partT has l = w ∧ partOk has l = true := by
  unfold partI at h
  by_cases h1 : w = [45]
  · rw [if_pos h1] at h
    obtain ⟨rfl, h2⟩ : has = false ∧ l = [] := by simp only [Prod.mk.injEq] at h; exact ⟨h.1.symm, h.2.1.symm⟩
    subst h2
    exact ⟨h1.symm, rfl⟩
  · rw [if_neg h1] at h
    by_cases h2 : (decide (w.take 1 = [120]) && (decide ((w.drop 1).length % 2 = 0) && decide ((w.drop 1).length ≤ 24))) = true
    · rw [if_pos h2] at h
      simp only [Bool.and_eq_true, decide_eq_true_eq] at h2
      cases hu : unhexI (w.drop 1) with
      | none => rw [hu] at h; simp [noPart] at h
      | some b =>
        rw [hu] at h
        simp only [Prod.mk.injEq] at h
        obtain ⟨rfl, rfl, _⟩ := h
        obtain ⟨e1, e2, e3⟩ := hex_unhex _ _ _ (Nat.le_refl _) h2.2.1 hu
        refine ⟨?_, ?_⟩
        · unfold partT
          rw [if_pos rfl, e1]
          have := List.take_append_drop 1 w
          rw [h2.1] at this
          exact this
        · unfold partOk
          rw [if_pos rfl, e2, Bool.and_true]
          exact decide_eq_true (by omega)
    · rw [if_neg h2] at h
      simp [noPart] at h
theorem idx_some (s : ByteArray) (i : Nat) (h : i < s.toList.length) : strings_IndexByte.f (⟨#[48, 49, 50, 51, 52, 53, 54, 55, 56, 57, 97, 98, 99, 100, 101, 102]⟩ : ByteArray) (bt s (i : Int)) = some (hexI s.toList[i]) := by
  rw [bt_list s i (by rw [← toList_len]; exact h)]
  unfold strings_IndexByte.f hexI hexs
  congr 2
  show ((s.toList[i].toNat : Int).toNat).toUInt8 = s.toList[i]
  rw [Int.toNat_natCast]
  simp
theorem or16 (a b : Int) (h0 : 0 ≤ a) (h1 : a < 16) (k0 : 0 ≤ b) (k1 : b < 16) : bits .or .i64 (a * 16) b = 16 * a + b := by
  rw [bits_join .i64 62 (by decide) (fun n h0 h1 => by rw [IntKind.wrap_i64]; omega) 4 (a * 16) b (by omega) (by omega) (by omega) k0 (by omega) (by omega)]
  omega
theorem part_loop41 (s : ByteArray) (hs : s.size ≤ 24) (hm : s.size % 2 = 0) : ∀ d (i : Nat) (out : List Int), s.size - i = d → i ≤ s.size → i % 2 = 0 → out.length ≤ i →
    Ev (fun k => impl_partOf.l0 k s out (i : Int)) (match unhexI (s.toList.drop i) with | some b => (true, out ++ b, true) | none => noPart) := by
  have hl := toList_len s
  intro d
  induction d using Nat.strongRecOn with
  | ind d ih =>
    intro i out hd hi hi2 ho
    by_cases hlt : i < s.size
    · have h0 : i < s.toList.length := by omega
      have h1 : i + 1 < s.toList.length := by omega
      refine Ev.step (fun k => by rw [impl_partOf.l0]) ?_
      rw [List.drop_eq_getElem_cons h0, List.drop_eq_getElem_cons h1]
      simp only [if_pos (show (i : Int) < (s.size : Int) by omega), if_pos (show (0 : Int) ≤ (i : Int) by omega), w64 (a := (i : Int) + 1) (by omega) (by omega), if_pos (show (0 : Int) ≤ (i : Int) + 1 by omega), if_pos (show (i : Int) + 1 < (s.size : Int) by omega), idx_some s i h0, bindS]
      have hx1 := idx_some s (i + 1) h1
      rw [show ((i + 1 : Nat) : Int) = (i : Int) + 1 by omega] at hx1
      simp only [hx1, bindS]
      have ra := hexI_range s.toList[i]
      have rb := hexI_range (s.toList[i + 1]'h1)
      have hun : unhexI (s.toList[i] :: (s.toList[i + 1]'h1) :: s.toList.drop (i + 1 + 1)) = if hexI s.toList[i] < 0 then none else if hexI (s.toList[i + 1]'h1) < 0 then none else (unhexI (s.toList.drop (i + 1 + 1))).map (fun l => (16 * hexI s.toList[i] + hexI (s.toList[i + 1]'h1)) :: l) := by conv => lhs; unfold unhexI
      rw [hun]
      by_cases ha : hexI s.toList[i] < 0
      · simp only [if_pos ha]
        exact Ev.now _
      · simp only [if_neg ha]
        by_cases hb : hexI (s.toList[i + 1]'h1) < 0
        · simp only [if_pos hb]
          exact Ev.now _
        · simp only [if_neg hb, if_pos (show out.length < 17592186044416 by omega), w64 (a := hexI s.toList[i] * 16) (by omega) (by omega), or16 _ _ (by omega) ra.2 (by omega) rb.2, w64 (a := (i : Int) + 2) (by omega) (by omega)]
          have := ih (s.size - (i + 2)) (by omega) (i + 2) (out ++ [16 * hexI s.toList[i] + hexI (s.toList[i + 1]'h1)]) rfl (by omega) (by omega) (by simp; omega)
          rw [show ((i + 2 : Nat) : Int) = (i : Int) + 2 by omega] at this
          cases hu : unhexI (s.toList.drop (i + 1 + 1)) with
          | none => rw [show i + 2 = i + 1 + 1 from rfl, hu] at this; exact this
          | some b => rw [show i + 2 = i + 1 + 1 from rfl, hu] at this; simpa using this
    · obtain rfl : i = s.size := by omega
      refine Ev.step (fun k => by rw [impl_partOf.l0]) ?_
      simp only [if_neg (show ¬ ((s.size : Nat) : Int) < (s.size : Int) by omega)]
      rw [List.drop_of_length_le (by omega)]
      simp only [unhexI, List.append_nil]
      exact Ev.now _
theorem cutPrefix_some (s : ByteArray) : strings_CutPrefix.f s (⟨#[120]⟩ : ByteArray) = if s.toList.take 1 = [120] then some (s.extract 1 s.size, true) else some (s, false) := by
  have hl := toList_len s
  have hz : (ByteArray.mk #[120]).size = 1 := rfl
  have h120 : (ByteArray.mk #[120]).toList = [120] := toList_mk [120]
  unfold strings_CutPrefix.f stringslite_CutPrefix.f stringslite_HasPrefix.f
  simp only [hz]
  by_cases h : (s.size : Int) ≥ 1
  · simp only [if_pos h, if_pos (show (0 : Int) ≤ ((1 : Nat) : Int) by omega), if_pos (show ((1 : Nat) : Int) ≤ (s.size : Int) by omega), bindS, h120]
    have e : (s.extract 0 ((1 : Nat) : Int).toNat).toList = s.toList.take 1 := by rw [extract_list]; rfl
    rw [e]
    by_cases hp : s.toList.take 1 = [120]
    · rw [hp, if_pos rfl]
      rfl
    · rw [if_neg hp, if_neg (by simpa using hp)]
      rfl
  · have hn : s.toList.take 1 ≠ [120] := by
      intro e
      have := congrArg List.length e
      rw [List.length_take] at this
      simp at this
      omega
    simp only [if_neg (show ¬ ((s.size : Int) ≥ ((1 : Nat) : Int)) by omega), bindS, if_neg hn]
    rfl
theorem partOf_ev (s : ByteArray) (hs : s.size ≤ 10000000) : Ev (fun k => impl_partOf.f k s) (partI s.toList) := by
  have hl := toList_len s
  unfold impl_partOf.f partI
  by_cases h1 : s.toList = [45]
  · simp only [if_pos h1]
    exact Ev.now _
  · simp only [if_neg h1, cutPrefix_some]
    have hstop : ∀ t : ByteArray, Ev (fun k => impl_partOf.j0 k t true) noPart := fun t => Ev.step (fun k => by rw [impl_partOf.j0]) (by simp only [if_true]; exact Ev.now _)
    by_cases hp : s.toList.take 1 = [120]
    · have hex : (s.extract 1 s.size).toList = s.toList.drop 1 := by
        rw [extract_list]
        exact List.take_of_length_le (by rw [List.length_drop]; omega)
      have hsz : (s.extract 1 s.size).size = (s.toList.drop 1).length := by rw [← toList_len, hex]
      simp only [if_pos hp, bindS, if_true, hsz]
      rw [decide_eq_true hp, Bool.true_and]
      by_cases h2 : ((s.toList.drop 1).length : Int) % 2 = 1
      · simp only [if_pos h2]
        rw [decide_eq_false (by omega)]
        exact hstop _
      · simp only [if_neg h2]
        rw [decide_eq_true (show (s.toList.drop 1).length % 2 = 0 by omega), Bool.true_and]
        by_cases h3 : (s.toList.drop 1).length ≤ 24
        · rw [decide_eq_true h3, decide_eq_false (by omega)]
          simp only [if_true]
          refine Ev.step (fun k => by rw [impl_partOf.j0]) ?_
          simp only [Bool.false_eq_true, if_false]
          have := part_loop41 (s.extract 1 s.size) (by omega) (by omega) _ 0 [] rfl (by omega) rfl (by simp)
          rw [List.drop_zero, hex] at this
          simpa using this
        · rw [decide_eq_false h3, decide_eq_true (by omega)]
          simp only [Bool.false_eq_true, if_false]
          exact hstop _
    · simp only [if_neg hp, bindS, Bool.false_eq_true, if_false]
      rw [decide_eq_false hp, Bool.false_and]
      simp only [Bool.false_eq_true, if_false]
      exact hstop _
/-- The reference's bytes. -/
def unhexS : List UInt8 → List Int
  | a :: b :: r => (16 * hexI a + hexI b) :: unhexS r
  | _ => []
theorem digit_ev (s : ByteArray) (i : Nat) (h : i < s.toList.length) : Ev (fun k => spec_l41Digit.f k (bt s (i : Int))) (hexI s.toList[i]) := by
  rw [bt_list s i (by rw [← toList_len]; exact h), hexI_eq]
  generalize s.toList[i].toNat = n
  unfold spec_l41Digit.f
  by_cases h1 : (n : Int) ≥ 48
  · simp only [if_pos h1]
    refine Ev.step (fun k => by rw [spec_l41Digit.j0]) ?_
    by_cases h2 : (n : Int) ≤ 57
    · simp only [decide_eq_true h2, if_true]
      rw [if_pos (show 48 ≤ n ∧ n ≤ 57 by omega), show ((n : Int) - 48) % 256 = n - 48 by omega]
      exact Ev.now _
    · simp only [decide_eq_false h2, Bool.false_eq_true, if_false]
      rw [if_neg (show ¬ (48 ≤ n ∧ n ≤ 57) by omega)]
      by_cases h3 : (n : Int) ≥ 97
      · simp only [if_pos h3]
        by_cases h4 : (n : Int) ≤ 102
        · simp only [if_pos h4]
          rw [if_pos (show 97 ≤ n ∧ n ≤ 102 by omega), show ((n : Int) - 97) % 256 + 10 = n - 87 by omega]
          exact Ev.now _
        · simp only [if_neg h4]
          rw [if_neg (show ¬ (97 ≤ n ∧ n ≤ 102) by omega)]
          exact Ev.now _
      · simp only [if_neg h3]
        rw [if_neg (show ¬ (97 ≤ n ∧ n ≤ 102) by omega)]
        exact Ev.now _
  · simp only [if_neg h1]
    refine Ev.step (fun k => by rw [spec_l41Digit.j0]) ?_
    simp only [Bool.false_eq_true, if_false, if_neg (show ¬ (n : Int) ≥ 97 by omega)]
    rw [if_neg (show ¬ (48 ≤ n ∧ n ≤ 57) by omega), if_neg (show ¬ (97 ≤ n ∧ n ≤ 102) by omega)]
    exact Ev.now _
theorem bytes_loop41 (s : ByteArray) (hs : s.size ≤ 10000000) : ∀ d (i : Nat) (out : List Int), s.size - i = d → i ≤ s.size + 1 → out.length ≤ i →
    Ev (fun k => spec_l41Bytes.l0 k s out (i : Int)) (out ++ unhexS (s.toList.drop i)) := by
  have hl := toList_len s
  intro d
  induction d using Nat.strongRecOn with
  | ind d ih =>
    intro i out hd hi ho
    refine Ev.step (fun k => by rw [spec_l41Bytes.l0]) ?_
    rw [w64 (a := (i : Int) + 1) (by omega) (by omega)]
    by_cases hlt : i + 1 < s.size
    · have h0 : i < s.toList.length := by omega
      have h1 : i + 1 < s.toList.length := by omega
      rw [List.drop_eq_getElem_cons h0, List.drop_eq_getElem_cons h1]
      simp only [if_pos (show (i : Int) + 1 < (s.size : Int) by omega), if_pos (show (0 : Int) ≤ (i : Int) by omega), if_pos (show (i : Int) < (s.size : Int) by omega), if_pos (show (0 : Int) ≤ (i : Int) + 1 by omega)]
      refine Ev.bind (digit_ev s i h0) ?_
      have hx1 := digit_ev s (i + 1) h1
      rw [show ((i + 1 : Nat) : Int) = (i : Int) + 1 by omega] at hx1
      refine Ev.bind hx1 ?_
      have ra := hexI_range s.toList[i]
      have rb := hexI_range (s.toList[i + 1]'h1)
      simp only [if_pos (show out.length < 17592186044416 by omega), w64 (a := 16 * hexI s.toList[i]) (by omega) (by omega), w64 (a := 16 * hexI s.toList[i] + hexI (s.toList[i + 1]'h1)) (by omega) (by omega), w64 (a := (i : Int) + 2) (by omega) (by omega)]
      have := ih (s.size - (i + 2)) (by omega) (i + 2) (out ++ [16 * hexI s.toList[i] + hexI (s.toList[i + 1]'h1)]) rfl (by omega) (by simp; omega)
      rw [show ((i + 2 : Nat) : Int) = (i : Int) + 2 by omega] at this
      simpa [unhexS] using this
    · simp only [if_neg (show ¬ (i : Int) + 1 < (s.size : Int) by omega)]
      have : unhexS (s.toList.drop i) = [] := by
        have hlen : (s.toList.drop i).length ≤ 1 := by rw [List.length_drop]; omega
        match hq : s.toList.drop i, hlen with
        | [], _ => rfl
        | [_], _ => rfl
      rw [this, List.append_nil]
      exact Ev.now _
theorem bytes41_ev (s : ByteArray) (hs : s.size ≤ 10000000) : Ev (fun k => spec_l41Bytes.f k s) (unhexS (s.toList.drop 1)) := by
  unfold spec_l41Bytes.f
  have := bytes_loop41 s hs _ 1 [] rfl (by omega) (by simp)
  simpa using this
theorem unhexS_hex : ∀ l : List Int, l.all isB = true → unhexS (hexOf l) = l
  | [], _ => rfl
  | x :: l, h => by
    rw [List.all_cons, Bool.and_eq_true, isB_iff] at h
    have ih := unhexS_hex l h.2
    show unhexS (hx (x.toNat / 16) :: hx (x.toNat % 16) :: hexOf l) = _
    unfold unhexS
    rw [hexI_hx _ (by omega), hexI_hx _ (by omega), ih]
    simp only [List.cons.injEq, and_true]
    omega
theorem unhexS_part {has : Bool} {l : List Int} (h : partOk has l = true) : unhexS ((partT has l).drop 1) = l ∧ (partT has l != [45]) = has := by
  unfold partOk at h
  unfold partT
  cases has
  · simp only [Bool.false_eq_true, if_false, decide_eq_true_eq] at h
    rw [List.eq_nil_of_length_eq_zero h]
    exact ⟨rfl, rfl⟩
  · simp only [if_true, Bool.and_eq_true, decide_eq_true_eq] at h
    exact ⟨unhexS_hex l h.2, by simp⟩
theorem unhexS_len : ∀ (n : Nat) (l : List UInt8), l.length ≤ n → (unhexS l).length ≤ n := by
  intro n
  induction n using Nat.strongRecOn with
  | ind n ih =>
    intro l hl
    match l, hl with
    | [], _ => simp [unhexS]
    | [_], _ => simp [unhexS]
    | a :: b :: r, hl =>
      simp only [List.length_cons] at hl
      have := ih (n - 2) (by omega) r (by omega)
      simp only [unhexS, List.length_cons]
      omega
end Go.Proofs.YteoicjlhkaljbaaDoor.Pu

namespace Go.Proofs.YteoicjlhkaljbaaDoor.G
open Go.RowKit Go.Shelf
/-- A builder of the call's own (from block B on), in block b: it holds these bytes. -/
def Bld (B b : Nat) (l : List UInt8) (w : World) : Prop := Lib.IsBuilderF 79 5 B b (Lib.byteCells l) w
theorem Bld.below {B b : Nat} {l : List UInt8} {w w' : World} (h : Bld B b l w) (hb : Below w.heap.size w w') : Bld B b l w' := by
  have one : ∀ {p : Value}, Lib.BuilderAtF 79 5 B b p (Lib.byteCells l) w → Lib.BuilderAtF 79 5 B b p (Lib.byteCells l) w' := by
    rintro p ⟨h1, v, h2, h3, h4⟩
    exact ⟨h1, v, (hb.block b (Array.getElem?_eq_some_iff.1 h2).1).trans h2, h3.kept ⟨hb.os, hb.tape, hb.output, hb.size, fun i hi _ => hb.block i hi⟩ (row := none) (by cases hv : v.ownBlock <;> simp), h4⟩
  exact h.imp one one
end Go.Proofs.YteoicjlhkaljbaaDoor.G

namespace Go.Proofs.YteoicjlhkaljbaaDoor.G
open Go.RowKit Go.Sort Go.Proofs.YteoicjlhkaljbaaDoorW.PrintWords Go.Proofs.YteoicjlhkaljbaaDoorW.PrintLast Go.Proofs.YteoicjlhkaljbaaDoorW.PrintMore
set_option linter.unusedVariables false
theorem dec_lib (n : Nat) : Lib.decDigits n = Pu.dec n := by
  induction n using Nat.strongRecOn with
  | ind n ih =>
    unfold Lib.decDigits Pu.dec
    by_cases h : n < 10
    · rw [dif_pos h, dif_pos h]
    · rw [dif_neg h, dif_neg h, ih (n / 10) (by omega)]
def strconv_Itoa_67.f (n : Int) : Option ByteArray := if 0 ≤ n ∧ n ≤ 1000000 then some ⟨(Pu.dec n.toNat).toArray⟩ else none
theorem below_growN (w : World) (k : Nat) (os : Array Obj) : Below w.heap.size w (grow (w.drewN k) os) :=
  ⟨rfl, rfl, rfl, by show w.heap.size ≤ (w.heap ++ os).size; rw [Array.size_append]; omega, fun j hj => by show (w.heap ++ os)[j]? = w.heap[j]?; rw [Array.getElem?_append_left hj]⟩
theorem strconv_Itoa_67.calls [ErrA] (a0 : Int) (r : ByteArray) (w : World) (hE : ErrOk [1] w) (h : strconv_Itoa_67.f a0 = some r) :
    Calls Tryd.prog 67 #[.int .i64 a0] w fun e w' => e = .returned (.string r) ∧ Below w.heap.size w w' := by
  unfold strconv_Itoa_67.f at h
  by_cases hn : 0 ≤ a0 ∧ a0 ≤ 1000000
  case neg => rw [if_neg hn] at h; exact absurd h (by simp)
  rw [if_pos hn] at h
  obtain rfl := Option.some.inj h
  refine (Tryd.strconv_Itoa a0 (by omega) (by omega) w (hE.1 (by decide))).mono fun e w' ⟨he, k, os, hw⟩ => ⟨?_, hw ▸ below_growN w k os⟩
  rw [he, Lib.itoa, if_neg (by omega), dec_lib]
end Go.Proofs.YteoicjlhkaljbaaDoor.G

namespace Go.Proofs.YteoicjlhkaljbaaDoor.G
open Go.RowKit Go.Proofs.YteoicjlhkaljbaaDoorW.PrintWords Go.Proofs.YteoicjlhkaljbaaDoorW.PrintLast Go.Proofs.YteoicjlhkaljbaaDoorW.PrintMore
set_option linter.unusedVariables false
def strings_Join.f (l : List ByteArray) (s : ByteArray) : Option ByteArray := if (Lib.join (l.map (·.data.toList)) s.data.toList).length ≤ 1000000000 ∧ l.length ≤ 1000000000 then some ⟨(Lib.join (l.map (·.data.toList)) s.data.toList).toArray⟩ else none
theorem add_off (b o j : Nat) : (⟨b, o, none⟩ : Addr).add j = ⟨b, o + j, none⟩ := by
  unfold Addr.add
  split <;> simp_all
theorem strings_Join.calls (A0 : Option Addr) (c0 : Nat) (l0 : List ByteArray) (a1 : ByteArray) (r : ByteArray) (w : World) (hr0 : Kd.C Kd.string w A0 l0.length l0) (hc0 : l0.length ≤ c0) (h : strings_Join.f l0 a1 = some r) :
    Calls Tryd.prog 69 #[.slice A0 l0.length c0, .string a1] w fun e w' => e = .returned (.string r) ∧ Below w.heap.size w w' := by
  unfold strings_Join.f at h
  split at h
  case isFalse => exact absurd h (by simp)
  case isTrue hn =>
  obtain rfl := Option.some.inj h
  cases l0 with
  | nil => exact (Tryd.strings_Join_none A0 c0 a1 w).mono fun e w' ⟨he, hw⟩ => ⟨he, hw ▸ Below.refl _ _⟩
  | cons x l =>
    obtain ⟨ad, rfl, h0⟩ := Kd.at_string hr0 0 (by omega) (by simp)
    have hcell : ∀ (j : Nat) y, (x :: l)[j]? = some y → w.cell? (ad.add j) = some (.string y) := by
      intro j y hy
      have hj : j < (x :: l).length := (List.getElem?_eq_some_iff.1 hy).1
      obtain ⟨ad', e, hc⟩ := Kd.at_string hr0 (j : Int) (by omega) (by omega)
      cases e
      rw [show ((j : Int)).toNat = j from rfl] at hc
      rw [hc]
      simp [rdOf, List.getD_eq_getElem?_getD, hy]
    obtain ⟨hsp, hlt⟩ : ad.spot = none ∧ ad.block < w.heap.size := by
      have h1 := hcell 0 x rfl
      have e0 : ad.add 0 = ad := by unfold Addr.add; simp
      rw [e0] at h1
      exact ⟨World.cell?_spot h1, World.block_lt_of_cell? w _ h1⟩
    obtain ⟨bk, o, sp⟩ := ad
    obtain rfl : sp = none := hsp
    exact Tryd.strings_Join bk o c0 (x :: l) a1 w (fun j y hy => add_off bk o j ▸ hcell j y hy) hlt (by omega) hc0 (by omega)
end Go.Proofs.YteoicjlhkaljbaaDoor.G

namespace Go.Proofs.YteoicjlhkaljbaaDoor.Pu
open Go.RowKit Go.Proofs.YteoicjlhkaljbaaDoorW.PrintWords Go.Proofs.YteoicjlhkaljbaaDoorW.PrintLast Go.Proofs.YteoicjlhkaljbaaDoor.G
set_option linter.unusedVariables false
set_option linter.unusedSimpArgs false
def lineV (r : S25) : ByteArray := if recOk r = true then ⟨(textOf r).toArray⟩ else ⟨#[]⟩
theorem partT_len (has : Bool) (l : List Int) (h : l.length ≤ 12) : (partT has l).length ≤ 25 := by unfold partT; split; simp only [List.length_cons, hexOf_len]; omega; simp
theorem text_len {r : S25} (h : recOk r = true) : (textOf r).length ≤ 63 := by
  obtain ⟨h0, h1, _⟩ := recOk_parts h
  have hl := recOk_len h
  have la := dec_len r.f0.toNat 4 (by omega)
  have lb := dec_len r.f1.toNat 4 (by omega)
  have lp := partT_len r.f2 r.f3 hl.1
  have lq := partT_len r.f4 r.f5 hl.2
  unfold textOf
  simp only [List.length_append, List.length_cons]
  omega
theorem join_four (a b c d : List UInt8) : Lib.join [a, b, c, d] [32] = a ++ 32 :: (b ++ 32 :: (c ++ 32 :: d)) := by
  simp [Lib.join, List.intercalate]
theorem sRecordText_ev (r : S25) (hr : Lens r) : Ev (fun k => spec_RecordText.f k r.f0 r.f1 r.f2 r.f3 r.f4 r.f5) (lineV r) := by
  unfold spec_RecordText.f lineV
  refine Ev.bind (sRecordValid_ev r hr) ?_
  by_cases h : recOk r = true
  · simp only [h, if_true]
    exact Ev.bind (text_ev r h) (Ev.now _)
  · have h' : recOk r = false := by simpa using h
    simp only [h', Bool.false_eq_true, if_false]
    exact Ev.now _
theorem lineV_list (r : S25) : (lineV r).toList = if recOk r = true then textOf r else [] := by
  unfold lineV
  split
  · exact toList_mk _
  · exact toList_mk []
theorem lineV_size (r : S25) : (lineV r).size ≤ 63 := by
  unfold lineV
  split
  · rename_i h; rw [size_mk]; exact text_len h
  · simp [ByteArray.size]
end Go.Proofs.YteoicjlhkaljbaaDoor.Pu

namespace Go.Proofs.YteoicjlhkaljbaaDoor.Pu
open Go.RowKit Go.Proofs.YteoicjlhkaljbaaDoorW.PrintWords Go.Proofs.YteoicjlhkaljbaaDoorW.PrintLast Go.Proofs.YteoicjlhkaljbaaDoor.G
set_option linter.unusedVariables false
set_option linter.unusedSimpArgs false
abbrev Rec := S25
def tup (r : Rec) : RecR := (r.f0, r.f1, r.f2, r.f3, r.f4, r.f5, true)
/-- The one record with this line. -/
noncomputable def recV (s : List UInt8) : RecR := open Classical in if h : ∃ r : Rec, recOk r = true ∧ textOf r = s then tup h.choose else noRec
theorem recV_some {r : Rec} (h : recOk r = true) : recV (textOf r) = tup r := by
  unfold recV
  have hx : ∃ r' : Rec, recOk r' = true ∧ textOf r' = textOf r := ⟨r, h, rfl⟩
  rw [dif_pos hx]
  congr 1
  exact text_inj hx.choose_spec.1 h hx.choose_spec.2
theorem recV_none {s : List UInt8} (h : ∀ r : Rec, recOk r = true → textOf r ≠ s) : recV s = noRec := by
  unfold recV
  rw [dif_neg (fun ⟨r, h1, h2⟩ => h r h1 h2)]
theorem recOk_mk {a b : Nat} {h2 h4 : Bool} {l3 l5 : List Int} : recOk (⟨(a : Int), (b : Int), h2, l3, h4, l5⟩ : Rec) = (decide (a ≤ 99999) && decide (b ≤ 99999) && (partOk h2 l3 && partOk h4 l5)) := by
  unfold recOk rng
  simp only
  rw [decide_eq_true (show (0 : Int) ≤ (a : Int) by omega), decide_eq_true (show (0 : Int) ≤ (b : Int) by omega), Bool.true_and, Bool.true_and]
  rw [show decide ((a : Int) ≤ 99999) = decide (a ≤ 99999) from decide_eq_decide.2 (by omega), show decide ((b : Int) ≤ 99999) = decide (b ≤ 99999) from decide_eq_decide.2 (by omega)]
theorem split_text {r : Rec} (h : recOk r = true) : splitL (textOf r) = [dec r.f0.toNat, dec r.f1.toNat, partT r.f2 r.f3, partT r.f4 r.f5] := by
  obtain ⟨_, _, h2, h3, _, _⟩ := recOk_parts h
  unfold textOf
  rw [splitL_app (dec_no _), splitL_app (dec_no _), splitL_app (part_no _ _ h2), splitL_none (part_no _ _ h3)]
theorem recOk_part {r : Rec} (h : recOk r = true) : partOk r.f2 r.f3 = true ∧ partOk r.f4 r.f5 = true := by
  unfold recOk at h
  simp only [Bool.and_eq_true] at h
  exact h.2
theorem text_of_four {s a b c d : List UInt8} (h : splitL s = [a, b, c, d]) : s = a ++ 32 :: (b ++ 32 :: (c ++ 32 :: d)) := by
  have := (splitL_join s).1
  rw [h, join_four] at this
  exact this.symm
theorem rd_four (ws : List ByteArray) (a b c d : List UInt8) (h : ws.map ByteArray.toList = [a, b, c, d]) : ws.length = 4 ∧ (rdOf ByteArray.empty ws 0).toList = a ∧ (rdOf ByteArray.empty ws 1).toList = b ∧ (rdOf ByteArray.empty ws 2).toList = c ∧ (rdOf ByteArray.empty ws 3).toList = d := by
  match ws, h with
  | [x, y, z, u], h =>
    simp only [List.map_cons, List.map_nil, List.cons.injEq, and_true] at h
    exact ⟨rfl, h.1, h.2.1, h.2.2.1, h.2.2.2⟩
theorem piece_len {l p : List UInt8} (h : p ∈ splitL l) : p.length ≤ l.length := by
  induction l generalizing p with
  | nil => simp [splitL] at h; rw [h]; simp
  | cons c l ih =>
    unfold splitL at h
    split at h
    · rcases List.mem_cons.1 h with rfl | h
      · simp
      · have := ih h; simp only [List.length_cons]; omega
    · rcases List.mem_cons.1 h with rfl | h
      · cases hs : splitL l with
        | nil => exact absurd hs (splitL_ne l)
        | cons q qs => have := ih (p := q) (by rw [hs]; simp); simp only [List.headD_cons, List.length_cons]; omega
      · have := ih (List.mem_of_mem_tail h); simp only [List.length_cons]; omega
/-- The program. -/
theorem RecordOf_ev (s : ByteArray) (hs : s.size ≤ 10000000) : Ev (fun k => impl_RecordOf.f k s) (recV s.toList) := by
  have hl := toList_len s
  unfold impl_RecordOf.f strings_Split.f
  rw [if_pos ⟨by omega, by decide⟩]
  simp only [bindS]
  have hws := splitB_list s
  simp only [← toList_data] at hws
  generalize Lib.splitB ⟨#[32]⟩ 0 (Lib.countB s ⟨#[32]⟩) s = ws at hws
  by_cases h4 : ws.length = 4
  · simp only [if_pos h4]
    obtain ⟨a, b, c, d, hsp⟩ : ∃ a b c d, splitL s.toList = [a, b, c, d] := by
      rw [← hws]
      match ws, h4 with
      | [x, y, z, u], _ => exact ⟨_, _, _, _, rfl⟩
    obtain ⟨_, e0, e1, e2, e3⟩ := rd_four ws a b c d (hws.trans hsp)
    have hsz : ∀ p ∈ splitL s.toList, p.length ≤ 10000000 := fun p hp => Nat.le_trans (piece_len hp) (by omega)
    rw [hsp] at hsz
    have z0 : (rdOf ByteArray.empty ws 0).size ≤ 10000000 := by rw [← toList_len, e0]; exact hsz a (by simp)
    have z1 : (rdOf ByteArray.empty ws 1).size ≤ 10000000 := by rw [← toList_len, e1]; exact hsz b (by simp)
    have z2 : (rdOf ByteArray.empty ws 2).size ≤ 10000000 := by rw [← toList_len, e2]; exact hsz c (by simp)
    have z3 : (rdOf ByteArray.empty ws 3).size ≤ 10000000 := by rw [← toList_len, e3]; exact hsz d (by simp)
    have n0 := numberOf_ev _ z0
    have n1 := numberOf_ev _ z1
    have p2 := partOf_ev _ z2
    have p3 := partOf_ev _ z3
    rw [e0] at n0
    rw [e1] at n1
    rw [e2] at p2
    rw [e3] at p3
    refine Ev.bind n0 (Ev.bind n1 (Ev.bind p2 (Ev.bind p3 ?_)))
    have htx := text_of_four hsp
    by_cases hg : ((numI a).2 && (numI b).2 && (partI c).2.2 && (partI d).2.2) = true
    · simp only [Bool.and_eq_true] at hg
      obtain ⟨⟨⟨g0, g1⟩, g2⟩, g3⟩ := hg
      obtain ⟨m0, q0, l0, d0⟩ := numI_inv (l := a) (n := (numI a).1) (by rw [← g0])
      obtain ⟨m1, q1, l1, d1⟩ := numI_inv (l := b) (n := (numI b).1) (by rw [← g1])
      obtain ⟨t2, k2⟩ := partI_inv (w := c) (has := (partI c).1) (l := (partI c).2.1) (by rw [← g2])
      obtain ⟨t3, k3⟩ := partI_inv (w := d) (has := (partI d).1) (l := (partI d).2.1) (by rw [← g3])
      have hok : recOk (⟨(numI a).1, (numI b).1, (partI c).1, (partI c).2.1, (partI d).1, (partI d).2.1⟩ : Rec) = true := by
        rw [q0, q1, recOk_mk, decide_eq_true l0, decide_eq_true l1, k2, k3]
        rfl
      have htext : textOf (⟨(numI a).1, (numI b).1, (partI c).1, (partI c).2.1, (partI d).1, (partI d).2.1⟩ : Rec) = s.toList := by
        unfold textOf
        simp only
        rw [q0, q1, Int.toNat_natCast, Int.toNat_natCast, d0, d1, t2, t3]
        exact htx.symm
      have hL := recOk_len hok
      simp only [g0, g1, g2, g3, Bool.and_self, if_true]
      refine Ev.bind (RecordValid_ev (⟨(numI a).1, (numI b).1, (partI c).1, (partI c).2.1, (partI d).1, (partI d).2.1⟩ : Rec) ⟨by omega, by omega⟩) ?_
      rw [hok]
      simp only [if_true]
      rw [← htext, recV_some hok]
      exact Ev.now _
    · simp only [if_neg hg]
      rw [recV_none (fun r hr he => hg ?_)]
      · exact Ev.now _
      · have h2 := split_text hr
        rw [he, hsp] at h2
        simp only [List.cons.injEq, and_true] at h2
        obtain ⟨r0, r1, _⟩ := recOk_parts hr
        obtain ⟨pk2, pk3⟩ := recOk_part hr
        rw [h2.1, h2.2.1, h2.2.2.1, h2.2.2.2, numI_dec _ (by omega), numI_dec _ (by omega), partI_part pk2, partI_part pk3]
        rfl
  · simp only [if_neg h4]
    rw [recV_none (fun r hr he => h4 ?_)]
    · exact Ev.now _
    · have h2 := split_text hr
      rw [he, ← hws] at h2
      exact (rd_four ws _ _ _ _ h2).1
/-- The reference. -/
theorem sRecordOf_ev (s : ByteArray) (hs : s.size ≤ 10000000) : Ev (fun k => spec_RecordOf.f k s) (recV s.toList) := by
  have hl := toList_len s
  unfold spec_RecordOf.f
  obtain ⟨ws, hev, hws⟩ := cut_ends s hs
  refine Ev.bind hev ?_
  by_cases h4 : ws.length = 4
  · obtain ⟨a, b, c, d, hsp⟩ : ∃ a b c d, splitL s.toList = [a, b, c, d] := by
      rw [← hws]
      match ws, h4 with
      | [x, y, z, u], _ => exact ⟨_, _, _, _, rfl⟩
    obtain ⟨_, e0, e1, e2, e3⟩ := rd_four ws a b c d (hws.trans hsp)
    have hsz : ∀ p ∈ splitL s.toList, p.length ≤ 10000000 := fun p hp => Nat.le_trans (piece_len hp) (by omega)
    rw [hsp] at hsz
    have z0 : (rdOf ByteArray.empty ws 0).size ≤ 10000000 := by rw [← toList_len, e0]; exact hsz a (by simp)
    have z1 : (rdOf ByteArray.empty ws 1).size ≤ 10000000 := by rw [← toList_len, e1]; exact hsz b (by simp)
    have z2 : (rdOf ByteArray.empty ws 2).size ≤ 10000000 := by rw [← toList_len, e2]; exact hsz c (by simp)
    have z3 : (rdOf ByteArray.empty ws 3).size ≤ 10000000 := by rw [← toList_len, e3]; exact hsz d (by simp)
    have n0 := number_ev _ z0
    have n1 := number_ev _ z1
    have p2 := bytes41_ev _ z2
    have p3 := bytes41_ev _ z3
    rw [e0] at n0
    rw [e1] at n1
    rw [e2] at p2
    rw [e3] at p3
    simp only [h4, if_pos (show ((4 : Nat) : Int) = 4 from rfl), if_pos (show (0 : Int) < ((4 : Nat) : Int) by decide), if_pos (show (1 : Int) < ((4 : Nat) : Int) by decide), if_pos (show (2 : Int) < ((4 : Nat) : Int) by decide), if_pos (show (3 : Int) < ((4 : Nat) : Int) by decide)]
    refine Ev.bind n0 (Ev.bind n1 (Ev.bind p2 (Ev.bind p3 ?_)))
    rw [e2, e3]
    have hL : Lens (⟨numS a, numS b, c != [45], unhexS (c.drop 1), d != [45], unhexS (d.drop 1)⟩ : Rec) := by
      have h1 := unhexS_len _ (c.drop 1) (Nat.le_refl _)
      have h2 := unhexS_len _ (d.drop 1) (Nat.le_refl _)
      have h3 := hsz c (by simp)
      have h5 := hsz d (by simp)
      rw [List.length_drop] at h1 h2
      exact ⟨by dsimp only; omega, by dsimp only; omega⟩
    refine Ev.bind (sRecordText_ev _ hL) ?_
    rw [lineV_list]
    by_cases hok : recOk (⟨numS a, numS b, c != [45], unhexS (c.drop 1), d != [45], unhexS (d.drop 1)⟩ : Rec) = true
    · rw [if_pos hok]
      by_cases ht : textOf (⟨numS a, numS b, c != [45], unhexS (c.drop 1), d != [45], unhexS (d.drop 1)⟩ : Rec) = s.toList
      · simp only [if_pos ht]
        rw [← ht, recV_some hok]
        exact Ev.now _
      · simp only [if_neg ht]
        rw [recV_none (fun r hr he => ht ?_)]
        · exact Ev.now _
        · exact four_back hsp hr he
    · rw [if_neg hok]
      have hne : ¬ ([] : List UInt8) = s.toList := by
        intro e
        rw [← e] at hsp
        simp [splitL] at hsp
      simp only [if_neg hne]
      rw [recV_none (fun r hr he => hok ?_)]
      · exact Ev.now _
      · exact four_ok hsp hr he
  · simp only [if_neg (show ¬ (ws.length : Int) = 4 by omega)]
    rw [recV_none (fun r hr he => h4 ?_)]
    · exact Ev.now _
    · have h2 := split_text hr
      rw [he, ← hws] at h2
      exact (rd_four ws _ _ _ _ h2).1
where
  four_eq {s a b c d : List UInt8} (hsp : splitL s = [a, b, c, d]) {r : Rec} (hr : recOk r = true) (he : textOf r = s) : (⟨numS a, numS b, c != [45], unhexS (c.drop 1), d != [45], unhexS (d.drop 1)⟩ : Rec) = r := by
    have h2 := split_text hr
    rw [he, hsp] at h2
    simp only [List.cons.injEq, and_true] at h2
    obtain ⟨r0, r1, _⟩ := recOk_parts hr
    obtain ⟨pk2, pk3⟩ := recOk_part hr
    rw [h2.1, h2.2.1, h2.2.2.1, h2.2.2.2, numS_dec _ (by omega), numS_dec _ (by omega), (unhexS_part pk2).1, (unhexS_part pk2).2, (unhexS_part pk3).1, (unhexS_part pk3).2]
    cases r
    simp only at r0 r1 ⊢
    congr 1 <;> omega
  four_back {s a b c d : List UInt8} (hsp : splitL s = [a, b, c, d]) {r : Rec} (hr : recOk r = true) (he : textOf r = s) : textOf (⟨numS a, numS b, c != [45], unhexS (c.drop 1), d != [45], unhexS (d.drop 1)⟩ : Rec) = s := by rw [four_eq hsp hr he, he]
  four_ok {s a b c d : List UInt8} (hsp : splitL s = [a, b, c, d]) {r : Rec} (hr : recOk r = true) (he : textOf r = s) : recOk (⟨numS a, numS b, c != [45], unhexS (c.drop 1), d != [45], unhexS (d.drop 1)⟩ : Rec) = true := by rw [four_eq hsp hr he, hr]
end Go.Proofs.YteoicjlhkaljbaaDoor.Pu

namespace Go.Proofs.YteoicjlhkaljbaaDoor.Pu
open Go.RowKit Go.Proofs.YteoicjlhkaljbaaDoorW.PrintWords Go.Proofs.YteoicjlhkaljbaaDoorW.PrintLast Go.Proofs.YteoicjlhkaljbaaDoorW.PrintMore Go.Proofs.YteoicjlhkaljbaaDoor.G
set_option linter.unusedVariables false
set_option linter.unusedSimpArgs false
/-- Rows of records that can be told. -/
def RowR (l : List S25) : Prop := l.length ≤ 9223372036854775807 ∧ ∀ r ∈ l, Lens r
theorem RowR.rd {l : List S25} (h : RowR l) (i : Nat) (hi : i < l.length) : Lens (rd_T25 l (i : Int)) := by
  rw [rdR_nat l i hi]
  exact h.2 _ (List.getElem_mem _)
/-! rows of batches -/
theorem rdB_nat (l : List S84) (i : Nat) (h : i < l.length) : rd_T84 l (i : Int) = l[i] := by
  unfold rd_T84
  simp [h]
/-- Rows of batches that can be told. -/
def RowB (l : List S84) : Prop := l.length ≤ 9223372036854775807 ∧ ∀ b ∈ l, RowR b.f5
theorem RowB.rd {l : List S84} (h : RowB l) (i : Nat) (hi : i < l.length) : RowR (rd_T84 l (i : Int)).f5 := by
  rw [rdB_nat l i hi]
  exact h.2 _ (List.getElem_mem _)
end Go.Proofs.YteoicjlhkaljbaaDoor.Pu

namespace Go.Proofs.YteoicjlhkaljbaaDoor.Pu
open Go.RowKit Go.Proofs.YteoicjlhkaljbaaDoorW.PrintWords Go.Proofs.YteoicjlhkaljbaaDoorW.PrintLast Go.Proofs.YteoicjlhkaljbaaDoor.G
set_option linter.unusedVariables false
set_option linter.unusedSimpArgs false
theorem xor_i64 (a b : Int) (h0 : 0 ≤ a) (h1 : a < 4611686018427387904) (k0 : 0 ≤ b) (k1 : b < 4611686018427387904) : 0 ≤ bits .xor .i64 a b := by
  obtain ⟨a, rfl⟩ := Int.eq_ofNat_of_zero_le h0
  obtain ⟨b, rfl⟩ := Int.eq_ofNat_of_zero_le k0
  have ha : a < 2 ^ 62 := by omega
  have hb : b < 2 ^ 62 := by omega
  have hx := Nat.xor_lt_two_pow ha hb
  have ha' : a % 2 ^ 64 = a := Nat.mod_eq_of_lt (by omega)
  have hb' : b % 2 ^ 64 = b := Nat.mod_eq_of_lt (by omega)
  show 0 ≤ IntKind.i64.wrap ((BitVec.ofInt 64 (a : Int) ^^^ BitVec.ofInt 64 (b : Int)).toNat : Int)
  rw [BitVec.ofInt_natCast, BitVec.ofInt_natCast, BitVec.toNat_xor, BitVec.toNat_ofNat, BitVec.toNat_ofNat, ha', hb', IntKind.wrap_i64]
  omega
theorem rd_range {b : List Int} (hb : ∀ x ∈ b, 0 ≤ x ∧ x ≤ 255) (i : Int) : 0 ≤ rd b i ∧ rd b i ≤ 255 := by
  unfold rd
  rw [List.getD_eq_getElem?_getD]
  rcases h : b[i.toNat]? with _ | x
  · simp
  · exact hb x (List.mem_of_getElem? h)
theorem mod_range {x n : Int} (h0 : 0 ≤ x) (h1 : 1 ≤ n) : 0 ≤ Int.tmod x n ∧ Int.tmod x n < n := by
  rw [Int.tmod_eq_emod_of_nonneg h0]
  exact ⟨Int.emod_nonneg _ (by omega), Int.emod_lt_of_pos _ (by omega)⟩
/-- A code that is read: bytes, and a place that is no great number. -/
def CodeOk (b : List Int) : Prop := b.length ≤ 2000 ∧ ∀ x ∈ b, 0 ≤ x ∧ x ≤ 255
theorem pick_ends {b : List Int} (hb : CodeOk b) (p n : Int) (h0 : 0 ≤ p) (h1 : p ≤ 1000000000) (hn : n ≤ 4611686018427387904) :
    EndsIn (fun k => spec_l6Rd_pick.f k b p n) (fun r => r.2 = p + 1 ∧ 0 ≤ r.1 ∧ (1 ≤ n → r.1 < n) ∧ (n < 1 → r.1 = 0)) := by
  obtain ⟨hl, hr⟩ := hb
  unfold spec_l6Rd_pick.f
  rw [w64 (a := p + 1) (by omega) (by omega)]
  by_cases hn1 : n < 1
  · simp only [if_pos hn1]
    refine EndsIn.step (fun k => by rw [spec_l6Rd_pick.j0]) ?_
    simp only [if_true]
    exact EndsIn.now _ ⟨rfl, by omega, by omega, fun _ => rfl⟩
  · simp only [if_neg hn1]
    refine EndsIn.step (fun k => by rw [spec_l6Rd_pick.j0]) ?_
    rw [show p + 1 - 1 = p by omega, w64 (a := p) (by omega) (by omega)]
    by_cases hz : (b.length : Int) = 0
    · have : ((b.length : Int) == 0) = true := by simpa using hz
      simp only [this, if_true]
      exact EndsIn.now _ ⟨rfl, by omega, by omega, fun h => by omega⟩
    · have hz' : ((b.length : Int) == 0) = false := by simpa using hz
      simp only [hz', Bool.false_eq_true, if_false]
      by_cases hp : p < (b.length : Int)
      · have hx := rd_range hr p
        simp only [if_pos hp, if_pos h0, if_neg (show ¬ n = 0 by omega)]
        rw [w64 (a := rd b p) (by omega) (by omega)]
        have hm := mod_range (x := rd b p) (n := n) hx.1 (by omega)
        exact EndsIn.now _ ⟨rfl, hm.1, fun _ => hm.2, fun h => by omega⟩
      · have hm1 := mod_range (x := p) (n := (b.length : Int)) h0 (by omega)
        have h7 : wrap64 (wrap64 (p * 7) + 3) = p * 7 + 3 := by
          rw [w64 (a := p * 7) (by omega) (by omega), w64 (by omega) (by omega)]
        have hm2 := mod_range (x := p * 7 + 3) (n := (b.length : Int)) (by omega) (by omega)
        simp only [if_neg hp, if_neg hz, h7, if_pos hm1.1, if_pos hm1.2, if_pos hm2.1, if_pos hm2.2, if_neg (show ¬ n = 0 by omega)]
        have hx1 := rd_range hr (Int.tmod p b.length)
        have hx2 := rd_range hr (Int.tmod (p * 7 + 3) b.length)
        generalize rd b (Int.tmod p b.length) = x1 at hx1 ⊢
        generalize rd b (Int.tmod (p * 7 + 3) b.length) = x2 at hx2 ⊢
        have hd : 0 ≤ Int.tdiv p (b.length : Int) ∧ Int.tdiv p (b.length : Int) ≤ p := by
          rw [Int.tdiv_eq_ediv_of_nonneg h0]
          exact ⟨Int.ediv_nonneg h0 (by omega), Int.ediv_le_self _ h0⟩
        generalize Int.tdiv p (b.length : Int) = q at hd ⊢
        have e1 : wrap64 x1 = x1 := w64 (by omega) (by omega)
        have e2 : wrap64 x2 = x2 := w64 (by omega) (by omega)
        have e3 : wrap64 (x1 * 131) = x1 * 131 := w64 (by omega) (by omega)
        have e4 : wrap64 (x2 * 1117) = x2 * 1117 := w64 (by omega) (by omega)
        have e5 : wrap64 (x1 * 131 + x2 * 1117) = x1 * 131 + x2 * 1117 := w64 (by omega) (by omega)
        have e6 : wrap64 (p * 29) = p * 29 := w64 (by omega) (by omega)
        have e7 : wrap64 (x1 * 131 + x2 * 1117 + p * 29) = x1 * 131 + x2 * 1117 + p * 29 := w64 (by omega) (by omega)
        have e8 : wrap64 q = q := w64 (by omega) (by omega)
        have e9 : wrap64 (q * 53) = q * 53 := w64 (by omega) (by omega)
        have e10 : wrap64 (x1 * 131 + x2 * 1117 + p * 29 + q * 53) = x1 * 131 + x2 * 1117 + p * 29 + q * 53 := w64 (by omega) (by omega)
        simp only [e1, e2, e3, e4, e5, e6, e7, e8, e9, e10]
        have hX : 0 ≤ x1 * 131 + x2 * 1117 + p * 29 + q * 53 ∧ x1 * 131 + x2 * 1117 + p * 29 + q * 53 < 4611686018427387904 := ⟨by omega, by omega⟩
        generalize x1 * 131 + x2 * 1117 + p * 29 + q * 53 = X at hX ⊢
        have e11 : wrap64 (Int.tdiv X 64) = X / 64 := by
          rw [Int.tdiv_eq_ediv_of_nonneg hX.1]
          exact w64 (by omega) (by omega)
        rw [e11]
        have hxx := xor_i64 X (X / 64) hX.1 hX.2 (by omega) (by omega)
        have hm := mod_range (n := n) hxx (by omega)
        exact EndsIn.now _ ⟨rfl, hm.1, fun _ => hm.2, fun h => by omega⟩
end Go.Proofs.YteoicjlhkaljbaaDoor.Pu

namespace Go.Proofs.YteoicjlhkaljbaaDoor.Pu
open Go.RowKit Go.Proofs.YteoicjlhkaljbaaDoorW.PrintWords Go.Proofs.YteoicjlhkaljbaaDoorW.PrintLast Go.Proofs.YteoicjlhkaljbaaDoorW.PrintMore Go.Proofs.YteoicjlhkaljbaaDoor.G
set_option linter.unusedVariables false
set_option linter.unusedSimpArgs false
theorem part_loop {b : List Int} (hb : CodeOk b) (n : Int) (hn : n ≤ 12) : ∀ d (i : Nat) (l : List Int) (p : Int), 12 - i = d → l.length = i → i ≤ 12 → 0 ≤ p → p ≤ 900000000 + 2 * (i : Int) →
    EndsIn (fun k => spec_l91Part.l0 k l n (i : Int) b p) (fun r => r.2.1.length ≤ 12 ∧ p ≤ r.2.2 ∧ r.2.2 ≤ p + 2 * (12 - (i : Int))) := by
  intro d
  induction d with
  | zero =>
    intro i l p hd hl hi p0 p1
    refine EndsIn.step (fun k => by rw [spec_l91Part.l0]) ?_
    simp only [if_neg (show ¬ (i : Int) < n by omega)]
    exact EndsIn.now _ ⟨by show l.length ≤ 12; omega, by show p ≤ p; omega, by show p ≤ _; omega⟩
  | succ d ih =>
    intro i l p hd hl hi p0 p1
    refine EndsIn.step (fun k => by rw [spec_l91Part.l0]) ?_
    by_cases h : (i : Int) < n
    · simp only [if_pos h]
      refine EndsIn.bind (pick_ends hb p 256 p0 (by omega) (by omega)) fun q hq => ?_
      obtain ⟨q2, q3, q4, _⟩ := hq
      simp only [bindS]
      rw [q2]
      refine EndsIn.bind (pick_ends hb (p + 1) 4 (by omega) (by omega) (by omega)) fun s hs => ?_
      obtain ⟨s2, s3, s4, _⟩ := hs
      have s5 := s4 (by omega)
      rw [s2]
      simp only [if_pos s3, if_pos (show s.1 < (([1, 2, 3, q.1] : List Int).length : Int) by simpa using s5), if_pos (show l.length < 17592186044416 by omega), w64 (a := (i : Int) + 1) (by omega) (by omega)]
      have := ih (i + 1) (l ++ [rd [1, 2, 3, q.1] s.1]) (p + 1 + 1) (by omega) (by rw [List.length_append, hl]; rfl) (by omega) (by omega) (by omega)
      exact this.mono fun r hr => ⟨hr.1, by omega, by omega⟩
    · simp only [if_neg h]
      exact EndsIn.now _ ⟨by show l.length ≤ 12; omega, by show p ≤ p; omega, by show p ≤ _; omega⟩
theorem part_ends {b : List Int} (hb : CodeOk b) (p : Int) (h0 : 0 ≤ p) (h1 : p ≤ 800000000) : EndsIn (fun k => spec_l91Part.f k b p) (fun r => r.2.1.length ≤ 12 ∧ p ≤ r.2.2 ∧ r.2.2 ≤ p + 30) := by
  have st : ∀ (n q : Int), n ≤ 12 → p ≤ q → q ≤ p + 5 → EndsIn (fun k => spec_l91Part.j0 k [] n b q) (fun r => r.2.1.length ≤ 12 ∧ p ≤ r.2.2 ∧ r.2.2 ≤ p + 30) := by
    intro n q hn q0 q1
    refine EndsIn.step (fun k => by rw [spec_l91Part.j0]) ?_
    have := part_loop hb n hn 12 0 [] q (by omega) rfl (by omega) (by omega) (by omega)
    exact this.mono fun r hr => ⟨hr.1, by omega, by omega⟩
  unfold spec_l91Part.f
  refine EndsIn.bind (pick_ends hb p 4 h0 (by omega) (by omega)) fun q hq => ?_
  obtain ⟨q2, q3, q4, _⟩ := hq
  rw [q2]
  by_cases hz : q.1 = 0
  · simp only [if_pos hz]
    exact EndsIn.now _ ⟨by simp, by show p ≤ p + 1; omega, by show p + 1 ≤ p + 30; omega⟩
  · simp only [if_neg hz, bindS]
    refine EndsIn.bind (pick_ends hb (p + 1) 5 (by omega) (by omega) (by omega)) fun s hs => ?_
    obtain ⟨s2, s3, s4, _⟩ := hs
    have s5 := s4 (by omega)
    rw [s2]
    refine EndsIn.bind (pick_ends hb (p + 1 + 1) 12 (by omega) (by omega) (by omega)) fun u hu => ?_
    obtain ⟨u2, u3, u4, _⟩ := hu
    rw [u2]
    by_cases hu0 : u.1 = 0
    · simp only [if_pos hu0]
      exact st _ _ (by omega) (by omega) (by omega)
    · simp only [if_neg hu0]
      exact st _ _ (by omega) (by omega) (by omega)
end Go.Proofs.YteoicjlhkaljbaaDoor.Pu

namespace Go.Proofs.YteoicjlhkaljbaaDoor.Pu
open Go.RowKit Go.Proofs.YteoicjlhkaljbaaDoorW.PrintWords Go.Proofs.YteoicjlhkaljbaaDoorW.PrintLast Go.Proofs.YteoicjlhkaljbaaDoor.G
set_option linter.unusedVariables false
set_option linter.unusedSimpArgs false
theorem open_some (l0 : List Int) (hr : ∀ x ∈ l0, 0 ≤ x ∧ x ≤ 255) : ∃ b, spec_l6Open.f l0 = some (b, 0) ∧ CodeOk b := by
  unfold spec_l6Open.f
  by_cases h : (l0.length : Int) > 2000
  · rw [if_pos h, if_pos (by omega)]
    exact ⟨_, rfl, by rw [List.length_take]; omega, fun x hx => hr x (List.mem_of_mem_take hx)⟩
  · rw [if_neg h]
    exact ⟨_, rfl, by omega, hr⟩
end Go.Proofs.YteoicjlhkaljbaaDoor.Pu

namespace Go.Proofs.YteoicjlhkaljbaaDoor.Pu
open Go.RowKit Go.Proofs.YteoicjlhkaljbaaDoorW.PrintWords Go.Proofs.YteoicjlhkaljbaaDoorW.PrintLast Go.Proofs.YteoicjlhkaljbaaDoor.G
set_option linter.unusedVariables false
set_option linter.unusedSimpArgs false
theorem drawRec_ends {b : List Int} (hb : CodeOk b) (p : Int) (h0 : 0 ≤ p) (h1 : p ≤ 300000000) : EndsIn (fun k => spec_l91Record.f k b p) (fun r => r.2.2.2.1.length ≤ 13 ∧ r.2.2.2.2.2.1.length ≤ 13 ∧ p ≤ r.2.2.2.2.2.2 ∧ r.2.2.2.2.2.2 ≤ p + 1000) := by
  unfold spec_l91Record.f
  refine EndsIn.bind (pick_ends hb p 60 (by omega) (by omega) (by omega)) fun a ha => ?_
  refine EndsIn.bind (pick_ends hb a.2 250 (by omega) (by omega) (by omega)) fun c hc => ?_
  refine EndsIn.bind (pick_ends hb c.2 2 (by omega) (by omega) (by omega)) fun d hd => ?_
  refine EndsIn.bind (pick_ends hb d.2 100 (by omega) (by omega) (by omega)) fun e he => ?_
  refine EndsIn.bind (part_ends hb e.2 (by omega) (by omega)) fun f hf => ?_
  refine EndsIn.bind (part_ends hb f.2.2 (by omega) (by omega)) fun g hg => ?_
  refine EndsIn.bind (pick_ends hb g.2.2 40 (by omega) (by omega) (by omega)) fun m hm => ?_
  by_cases h0 : m.1 = 0
  · simp only [if_pos h0, bindS]
    refine EndsIn.bind (pick_ends hb m.2 3 (by omega) (by omega) (by omega)) fun n hn => ?_
    simp only [if_pos (show 0 ≤ n.1 by omega), if_pos (show n.1 < (([-1, 99999, 100000] : List Int).length : Int) by simp; omega)]
    exact EndsIn.now _ ⟨by dsimp only; omega, by dsimp only; omega, by dsimp only; omega, by dsimp only; omega⟩
  · simp only [if_neg h0]
    by_cases h1 : m.1 = 1
    · simp only [if_pos h1]
      exact EndsIn.now _ ⟨by dsimp only; omega, by dsimp only; omega, by dsimp only; omega, by dsimp only; omega⟩
    · simp only [if_neg h1]
      by_cases h2 : m.1 = 2
      · simp only [if_pos h2, if_pos (show g.2.1.length < 17592186044416 by omega)]
        exact EndsIn.now _ ⟨by dsimp only; omega, by simp; omega, by dsimp only; omega, by dsimp only; omega⟩
      · simp only [if_neg h2]
        exact EndsIn.now _ ⟨by dsimp only; omega, by dsimp only; omega, by dsimp only; omega, by dsimp only; omega⟩
end Go.Proofs.YteoicjlhkaljbaaDoor.Pu

namespace Go.Proofs.YteoicjlhkaljbaaDoor.Pu
open Go.RowKit Go.Proofs.YteoicjlhkaljbaaDoorW.PrintWords Go.Proofs.YteoicjlhkaljbaaDoorW.PrintLast Go.Proofs.YteoicjlhkaljbaaDoor.G
set_option linter.unusedVariables false
set_option linter.unusedSimpArgs false
theorem of_ends {b : List Int} (hb : CodeOk b) (p : Int) (l : List ByteArray) (h0 : 0 ≤ p) (h1 : p ≤ 1000000000) (hl : 1 ≤ l.length) (hl2 : l.length ≤ 100) (hs : ∀ x ∈ l, x.size ≤ 20) : EndsIn (fun k => spec_l6Rd_of.f k b p l) (fun r => r.1.size ≤ 20 ∧ r.2 = p + 1) := by
  unfold spec_l6Rd_of.f
  refine EndsIn.bind (pick_ends hb p _ h0 h1 (by omega)) fun a ha => ?_
  simp only [if_pos (show 0 ≤ a.1 by omega), if_pos (show a.1 < (l.length : Int) by omega)]
  refine EndsIn.now _ ⟨?_, ha.1⟩
  unfold rdOf
  have hn : a.1.toNat < l.length := by omega
  simp only [List.getD_eq_getElem?_getD, List.getElem?_eq_getElem hn, Option.getD_some]
  exact hs _ (List.getElem_mem hn)
theorem drawLine_ends {l0 : List Int} {c : List Int} (hc : spec_l6Open.f l0 = some (c, 0)) (hok : CodeOk c) : EndsIn (fun k => spec_DrawRecordOf.f k l0) (fun s => s.size ≤ 200) := by
  unfold spec_DrawRecordOf.f
  simp only [hc, bindS]
  refine EndsIn.bind (drawRec_ends hok 0 (by omega) (by omega)) fun q hq => ?_
  obtain ⟨q0, q1, q2, q3, q4, q5, p⟩ := q
  dsimp only at hq ⊢
  refine EndsIn.bind (P := fun t => t.size ≤ 63) (EndsIn.of (sRecordText_ev (⟨q0, q1, q2, q3, q4, q5⟩ : S25) ⟨by dsimp only; omega, by dsimp only; omega⟩) (lineV_size _)) fun t ht => ?_
  by_cases he : t.toList = []
  · simp only [if_pos he]
    refine EndsIn.bind (of_ends hok p _ (by omega) (by omega) (by simp) (by simp) (by decide)) fun r hr => EndsIn.now _ (by omega)
  · simp only [if_neg he]
    have hpos : 1 ≤ t.size := by
      rcases Nat.eq_zero_or_pos t.size with h | h
      · exact absurd (by rw [toList_data]; exact List.eq_nil_of_length_eq_zero (by rw [data_length]; exact h)) he
      · exact h
    refine EndsIn.bind (pick_ends hok p (t.size : Int) (by omega) (by omega) (by omega)) fun a ha => ?_
    refine EndsIn.bind (pick_ends hok a.2 6 (by omega) (by omega) (by omega)) fun b hb => ?_
    by_cases h0 : b.1 = 0
    · simp only [if_pos h0, if_pos (show 0 ≤ a.1 by omega), if_pos (show a.1 ≤ (t.size : Int) by omega)]
      refine EndsIn.bind (of_ends hok b.2 _ (by omega) (by omega) (by simp) (by simp) (by decide)) fun r hr => ?_
      have e1 : (t.extract 0 a.1.toNat).size ≤ 63 := by rw [ByteArray.size_extract]; omega
      have e2 : (t.extract (a.1 + 1).toNat t.size).size ≤ 63 := by rw [ByteArray.size_extract]; omega
      have e3 : ((t.extract 0 a.1.toNat) ++ r.1).size ≤ 83 := by rw [ByteArray.size_append]; omega
      rw [w64 (a := a.1 + 1) (by omega) (by omega)]
      simp only [if_pos (show (t.extract 0 a.1.toNat).size + r.1.size ≤ 9223372036854775807 by omega), if_pos (show 0 ≤ a.1 + 1 by omega), if_pos (show a.1 + 1 ≤ (t.size : Int) by omega), if_pos (show ((t.extract 0 a.1.toNat) ++ r.1).size + (t.extract (a.1 + 1).toNat t.size).size ≤ 9223372036854775807 by omega)]
      exact EndsIn.now _ (by rw [ByteArray.size_append]; omega)
    · simp only [if_neg h0]
      exact EndsIn.now _ (by omega)
end Go.Proofs.YteoicjlhkaljbaaDoor.Pu

namespace Go.Proofs.YteoicjlhkaljbaaDoor.Pu
open Go.RowKit Go.Proofs.YteoicjlhkaljbaaDoorW.PrintWords Go.Proofs.YteoicjlhkaljbaaDoorW.PrintLast Go.Proofs.YteoicjlhkaljbaaDoorW.PrintMore Go.Proofs.YteoicjlhkaljbaaDoor.G
set_option linter.unusedVariables false
set_option linter.unusedSimpArgs false
theorem selfInts (l : List Int) (hl : l.length ≤ 9223372036854775807) : Ev (fun k => laws_sameInts.f k l l) true := by
  unfold laws_sameInts.f
  simp only [if_true]
  have := ev_all l hl (fun k i => laws_sameInts.l0 k l l i) (fun k i => some true) (fun _ => true) true
    (fun k => by simp only [laws_sameInts.l0]; rw [if_neg (by omega)])
    (fun k i h => by simp only [laws_sameInts.l0]; rw [if_pos (by omega), if_pos (by omega), if_pos (by omega), if_pos trivial]; rfl)
    (fun i h => Ev.now _) l.length 0 (by omega) (by omega)
  rw [show ((l.drop 0).all fun _ => true) = true from List.all_eq_true.2 (fun _ _ => rfl)] at this
  simpa using this
theorem selfRecord (x : S25) (h : Lens x) : Ev (fun k => laws_sameRecord.f k x.f0 x.f1 x.f2 x.f3 x.f4 x.f5 x.f0 x.f1 x.f2 x.f3 x.f4 x.f5) true := by
  unfold laws_sameRecord.f
  simp only [if_true, beq_self_eq_true]
  refine Ev.bind (selfInts _ h.1) ?_
  simp only [if_true]
  exact Ev.bind (selfInts _ h.2) (Ev.now _)
end Go.Proofs.YteoicjlhkaljbaaDoor.Pu

namespace Go.Proofs.YteoicjlhkaljbaaDoor.Pure
open Go.RowKit Go.Proofs.YteoicjlhkaljbaaDoor.G Go.Proofs.YteoicjlhkaljbaaDoorW.PrintWords Go.Proofs.YteoicjlhkaljbaaDoorW.PrintLast Go.Proofs.YteoicjlhkaljbaaDoorW.PrintMore Go.Proofs.YteoicjlhkaljbaaDoor.Pu
set_option linter.unusedSimpArgs false
theorem blanks {r : Rec} (h : recOk r = true) : (textOf r).count 32 = 3 := by
  obtain ⟨_, _, h2, h3, _, _⟩ := recOk_parts h
  unfold textOf
  simp only [List.count_append, List.count_cons_self, List.count_eq_zero_of_not_mem (dec_no _), List.count_eq_zero_of_not_mem (part_no _ _ h2), List.count_eq_zero_of_not_mem (part_no _ _ h3)]
theorem no_zero {r q : Rec} (_h : recOk r = true) (hq : recOk q = true) : textOf q ≠ 48 :: textOf r := by
  intro e
  have h1 := split_text hq
  have e2 : (48 : UInt8) :: textOf r = (48 :: dec r.f0.toNat) ++ 32 :: (dec r.f1.toNat ++ 32 :: (partT r.f2 r.f3 ++ 32 :: partT r.f4 r.f5)) := rfl
  rw [e, e2, splitL_app (by simp only [List.mem_cons, not_or]; exact ⟨by decide, dec_no _⟩)] at h1
  simp only [List.cons.injEq] at h1
  have h2 := h1.1
  have hd : dec q.f0.toNat = 48 :: dec r.f0.toNat := h2.symm
  by_cases h10 : q.f0.toNat < 10
  · have : dec q.f0.toNat = [UInt8.ofNat (48 + q.f0.toNat)] := by rw [dec, dif_pos h10]
    rw [this] at hd
    simp only [List.cons.injEq] at hd
    exact dec_ne _ hd.2.symm
  · have := dec_head q.f0.toNat (by omega)
    rw [hd] at this
    exact this rfl
theorem FnRecordOfBlank : OFnRecordOfBlank.Pure := by
  intro l0 hl0 ho0
  refine EndsIn.rounds ?_
  unfold laws_FnRecordOfBlank.f
  have hr := fun x hx => u8_range (ho0 x hx)
  by_cases h : (l0.length : Int) > 1048576
  · simp only [if_pos h]
    exact EndsIn.now _ rfl
  · simp only [if_neg h]
    obtain ⟨c, hc, hok⟩ := open_some l0 hr
    refine EndsIn.bind (drawLine_ends hc hok) fun s hs => ?_
    refine ⟨true, ?_, rfl⟩
    refine Ev.bind (RecordOf_ev s (by omega)) (Ev.bind (sRecordOf_ev s (by omega)) ?_)
    by_cases hx : ∃ r : Rec, recOk r = true ∧ textOf r = s.toList
    · obtain ⟨r, h1, h2⟩ := hx
      have hL : Lens r := by have := recOk_len h1; exact ⟨by omega, by omega⟩
      rw [← h2, recV_some h1]
      simp only [tup, bne_self_eq_false, Bool.false_eq_true, if_false]
      refine Ev.bind (selfRecord r hL) ?_
      simp only [if_true, Bool.not_true]
      refine Ev.step (fun k => by rw [laws_FnRecordOfBlank.j0]) ?_
      have app : ∀ a b : ByteArray, (a ++ b).toList = a.toList ++ b.toList := fun a b => by
        rw [toList_data, toList_data, toList_data, ByteArray.data_append, Array.toList_append]
      have l32 : (⟨#[32]⟩ : ByteArray).toList = [32] := toList_mk [32]
      have l48 : (⟨#[48]⟩ : ByteArray).toList = [48] := toList_mk [48]
      have z1 : ∀ a b : ByteArray, (a ++ b).size = a.size + b.size := fun a b => ByteArray.size_append
      have z32 : (⟨#[32]⟩ : ByteArray).size = 1 := rfl
      have z48 : (⟨#[48]⟩ : ByteArray).size = 1 := rfl
      simp only [Bool.false_eq_true, if_false, if_pos (show s.size + 1 ≤ 9223372036854775807 by omega)]
      have r1 := RecordOf_ev (s ++ ⟨#[32]⟩) (by rw [z1, z32]; omega)
      have r2 := RecordOf_ev (⟨#[32]⟩ ++ s) (by rw [z1, z32]; omega)
      have r3 := RecordOf_ev (⟨#[48]⟩ ++ s) (by rw [z1, z48]; omega)
      rw [app, l32, ← h2, recV_none (fun q hq e => by have c1 := blanks hq; rw [e, List.count_append, blanks h1] at c1; simp at c1)] at r1
      rw [app, l32, ← h2, recV_none (fun q hq e => by have c1 := blanks hq; rw [e, List.count_append, blanks h1] at c1; simp at c1)] at r2
      rw [app, l48, ← h2, recV_none (s := [48] ++ textOf r) (fun q hq e => no_zero h1 hq e)] at r3
      refine Ev.bind r1 ?_
      simp only [if_pos (show 1 + s.size ≤ 9223372036854775807 by omega)]
      refine Ev.bind r2 (Ev.bind r3 ?_)
      simp only [noRec, Bool.false_eq_true, if_false, Bool.not_false]
      exact Ev.now _
    · rw [recV_none (fun r h1 h2 => hx ⟨r, h1, h2⟩)]
      simp only [noRec, bne_self_eq_false, Bool.false_eq_true, if_false]
      refine Ev.bind (selfRecord (⟨0, 0, false, [], false, []⟩ : S25) ⟨by simp, by simp⟩) ?_
      simp only [if_true, Bool.not_false]
      refine Ev.step (fun k => by rw [laws_FnRecordOfBlank.j0]) ?_
      simp only [if_true, beq_self_eq_true]
      exact Ev.bind (selfRecord (⟨0, 0, false, [], false, []⟩ : S25) ⟨by simp, by simp⟩) (Ev.now _)
end Go.Proofs.YteoicjlhkaljbaaDoor.Pure

namespace Go.Proofs.YteoicjlhkaljbaaDoor.fnRecordOfBlank
open Go.ChangeShapes Go.WideShapes Go.ChangeAt Go.RowKit Go.Proofs.YteoicjlhkaljbaaDoor.OFnRecordOfBlank Go.Proofs.YteoicjlhkaljbaaDoor.G Go.Joins
open Go.ChangeMaps (open_string shut_string)
set_option linter.unusedVariables false
theorem own : ownKnob Tryd.prog.godebug = none := by kernel_rfl
theorem laidOut : laidOutB Tryd.prog = true := by kernel_rfl
set_option maxRecDepth 100000 in
theorem lifted (os : Os) (started : os.Started) (H : Type) (enc : TypeId × Value → H) :
    ReturnsInHanded {} Tryd.checked os 6 .any (fun w args => (Rows.fnRecordOfBlankSpec.pre enc Tryd.prog Tryd.f6 Rows.fnRecordOfBlankRow.domain false w args ∧ laidMetH Tryd.prog Rows.fnRecordOfBlankRow.laid w) ∧ sizedMet enc Tryd.prog Tryd.f6 (OpenSpec.ofChange Rows.fnRecordOfBlankSpec) false w args) (Rows.fnRecordOfBlankSpec.post enc Tryd.prog Tryd.f6 false true false false) := by
  refine returns_and_shaped (C := Tryd.checked) (X := fun w _ => laidMetH Tryd.prog Rows.fnRecordOfBlankRow.laid w) (fun _ _ _ hh h => h.of_heap hh) own started (by kernel_rfl) Tryd.func6
    (ChangeSpec.witness_shaped (enc := enc) (C := Tryd.checked) (os := os) (X := fun w _ => laidMetH Tryd.prog Rows.fnRecordOfBlankRow.laid w) false (World.laidAll Tryd.prog os Rows.fnRecordOfBlankRow.laid) #[.slice none 0 0] 8 (World.laidAll_os _ _ _)
      (World.shaped_of_ZipB (by kernel_rfl) (by kernel_rfl)) (by kernel_rfl) (by kernel_rfl) (by kernel_rfl)
      (by rw [MakeChecks.laidMetH_plain _ _ _ (by kernel_rfl)]; exact laidMet_laidAll _ (by kernel_rfl) (by kernel_rfl))) ?_
  intro W base args ds gs before hval0 hW hcnd hsz0 hLL hsh _
  have hsz : (DataW.weightsEach Tryd.prog (Tryd.f6.params.toList ++ Rows.fnRecordOfBlankSpec.plain.varTypes Tryd.prog) (ds ++ gs)).all (· ≤ reachBytes) = true := hsz0
  have hval : ∀ (j : Nat) t v, Tryd.f6.params[j]? = some t → args[j]? = some v → Value.okWide Tryd.prog W .any base t v := hval0
  have hW' := hW
  obtain ⟨p, q, hA0, hV, rfl, hfz, hnd⟩ := hW
  have hA : DataW.TrodAll enc Tryd.prog W 0 (fun _ => true) true Tryd.f6.params.toList args.toList ds p := hA0
  rw [Tryd.params6] at hA hval hsz
  obtain ⟨v0, vs0, d0, ds0, p0, q0, hargs, rfl, rfl, h0, r0⟩ := trodAll_cons hA
  obtain ⟨rfl, rfl, rfl⟩ := trodAll_nil r0
  obtain rfl : args = #[v0] := by cases args; simp_all
  obtain ⟨rfl, rfl⟩ := trodVars_none hV
  obtain ⟨a0, len0, cap0, rfl⟩ := okWide_slice Tryd.underlying22 (hval 0 22 v0 rfl rfl)
  have k0 := h0
  have lt0 : ∀ x ∈ p0, x.block < W.heap.size := by obtain ⟨m, hm⟩ := k0; exact DataW.trod_lt m _ _ _ hm
  obtain ⟨fuel0, hf0⟩ := h0
  obtain ⟨A0, c0, l0, hcs0, hlc0, hm0, hC0, ho0⟩ := Rd.opens_row Tryd.underlying22 (Rd.opens_int Tryd.underlying5 (by kernel_rfl)) hf0
  simp [Value.cells] at hcs0
  obtain ⟨rfl, rfl, rfl⟩ := hcs0
  have hL : laidMet Tryd.prog [("unicode/utf8.acceptRanges", Rows.laid_unicode_utf8_acceptRanges), ("unicode/utf8.first", Rows.laid_unicode_utf8_first)] W := by
    have h_ := hLL
    rw [MakeChecks.laidMetH_plain _ _ _ (by kernel_rfl)] at h_
    exact h_
  have hE : ErrOk [0] W := ⟨fun h_ => absurd h_ (by decide), fun h_ => maxLen_cell hsh⟩
  clear hL hLL hsh
  clear hA0 hval0 hsz0 hsz
  obtain ⟨k, h⟩ := Pure.FnRecordOfBlank l0 (Nat.le_trans hlc0 hm0) ho0
  refine (laws_FnRecordOfBlank.calls k _ _ l0 true W hE hC0 hlc0 h).mono fun e W' ⟨he, bel0⟩ => ?_
  subst he
  have bel : Below W.heap.size W W' := bel0
  exact ⟨_, rfl, _, _, _, [], _, [], hW', trodAll_mk1 (shut_bool Tryd.underlying4 _), (trodAll_cons_mk (Below.trod laidOut (by kernel_rfl) (of_decide_eq_true (by kernel_rfl)) k0 bel lt0) trodAll_mk0), rfl, bel.frame _, fun h => by cases h⟩
theorem over : Rows.fnRecordOfBlankRow.holds Tryd.pinned (OpenSpec.ofChange Rows.fnRecordOfBlankSpec) :=
  OpenClaim.holds_of_wide 6 Tryd.f6 rfl rfl rfl rfl rfl rfl rfl ⟨rfl, rfl, rfl, rfl, rfl⟩ rfl rfl rfl rfl rfl (by kernel_rfl) Tryd.func6 (by kernel_rfl)
    (of_decide_eq_true (by kernel_rfl)) (by unfold Func.isWrapper; first | (rw [if_pos (by decide +kernel)]; kernel_rfl) | (rw [if_neg (by decide +kernel)]; exact ⟨rfl, rfl⟩))
    (fun os started H enc _ => lifted os started H enc)
theorem proved : Rows.FnRecordOfBlankSaid := over
#print axioms proved
end Go.Proofs.YteoicjlhkaljbaaDoor.fnRecordOfBlank
namespace Go.Proofs.YteoicjlhkaljbaaDoor
/-- The row, under a short name, for the claim. -/
theorem fnRecordOfBlank_holds : Rows.FnRecordOfBlankSaid := fnRecordOfBlank.proved
theorem fnRecordOfBlank_card : Rows.FnRecordOfBlankCardSaid :=
  Claim7.holds_tied_plain_at .later [] [.data, .pinned] true (true, "ef6fe5f5f6daff1c50aa8af91370cf0377cad3eec5cad5a8540fa73015e2e4f7") false
    fnRecordOfBlank_holds (fun _ h => by cases h) (by kernel_rfl) (fun _ h => by cases h) fnRecordOfBlank_row_tie rfl ⟨rfl, rfl⟩ (by kernel_rfl) rfl
    (fun f fn hf hfn => by
      obtain rfl : f = 6 := Option.some.inj ((show Tryd.prog.funcNamed "loop.example/recordbatches/laws.FnRecordOfBlank" = some 6 by kernel_rfl).symm.trans hf) |>.symm
      obtain rfl : fn = Tryd.f6 := (Option.some.inj (Tryd.func6.symm.trans hfn)).symm
      exact ⟨by kernel_rfl, fun j t ht => by
        rw [Tryd.params6] at ht
        have h3 : t = 22 := by
          rcases j with _ | j
          · have h_ := ht.symm; simp at h_; simp [h_]
          · simp at ht
        rcases h3 with rfl
        · exact (show Tryd.prog.wantsStandIn 22 = false by kernel_rfl)⟩)
    (by kernel_rfl)
#print axioms fnRecordOfBlank_card
end Go.Proofs.YteoicjlhkaljbaaDoor

