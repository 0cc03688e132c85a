/- A text of seat Ythlnbbehcpdnfaa: what the law FnApartNone needs of this repo's texts (by pack.py). Not trusted: Lean checks it. -/
import Derived.Test.YthlnbbehcpdnfaaKFnApartNone7
import Derived.Laws.BitsLemmas
import Derived.Test.YthlnbbehcpdnfaaRows
import Derived.WalkKit
import Derived.ProofKit
import Derived.OpenShut
import Derived.ShutString
import Derived.ChangeOld
import Derived.Below
import Derived.SizedLaws
import Derived.Lib.SmallJoins
import Derived.Laws.StructEq
import Derived.ChangeSlices
namespace Go.Proofs.Ythlnbbehcpdnfaa.Pu
open Go.RowKit Go.Proofs.YthlnbbehcpdnfaaW.PrintWords Go.Proofs.YthlnbbehcpdnfaaW.PrintLast Go.Proofs.Ythlnbbehcpdnfaa.G
set_option linter.unusedVariables false
set_option linter.unusedSimpArgs false
/-- Decimals. -/
def dec (n : Nat) : List UInt8 := if h : n < 10 then [UInt8.ofNat (48 + n)] else dec (n / 10) ++ [UInt8.ofNat (48 + n % 10)]
theorem dec_len (n : Nat) (m : Nat) (h : n < 10 ^ (m + 1)) : (dec n).length ≤ m + 1 := by
  induction m generalizing n with
  | zero =>
    unfold dec
    rw [dif_pos (by simpa using h)]
    simp
  | succ m ih =>
    unfold dec
    split
    · simp
    · rw [List.length_append]
      have := ih (n / 10) (by rw [Nat.pow_succ] at h; omega)
      simp only [List.length_singleton]
      omega
theorem toList_mk (l : List UInt8) : (ByteArray.mk l.toArray).toList = l := by rw [toList_data]
theorem size_mk (l : List UInt8) : (ByteArray.mk l.toArray).size = l.length := by simp [ByteArray.size]
theorem app_mk (a b : List UInt8) : ByteArray.mk a.toArray ++ ByteArray.mk b.toArray = ByteArray.mk (a ++ b).toArray := by
  apply ba_ext
  have h : (ByteArray.mk a.toArray ++ ByteArray.mk b.toArray).data = a.toArray ++ b.toArray := ByteArray.data_append
  rw [toList_data, h, toList_mk]
  simp
theorem str_one (x : Int) (h0 : 0 ≤ x) (h1 : x ≤ 255) : strOfNums [x] = ByteArray.mk [UInt8.ofNat x.toNat].toArray := by
  unfold strOfNums
  simp
theorem dec_ev : ∀ (m n : Nat), n < 10 ^ (m + 1) → n ≤ 1000000000000 → Ev (fun k => spec_l6Dec.f k (n : Int)) (ByteArray.mk (dec n).toArray) := by
  intro m
  induction m with
  | zero =>
    intro n h hn
    refine Ev.step (fun k => by rw [spec_l6Dec.f]) ?_
    have h10 : n < 10 := by simpa using h
    simp only [if_neg (show ¬ (n : Int) < -9223372036854775807 by omega), if_neg (show ¬ (n : Int) < 0 by omega), if_pos (show (n : Int) < 10 by omega), w64 (a := 48 + (n : Int)) (by omega) (by omega)]
    rw [show (48 + (n : Int)) % 256 = 48 + n by omega, str_one _ (by omega) (by omega)]
    unfold dec
    rw [dif_pos h10, show (48 + (n : Int)).toNat = 48 + n by omega]
    exact Ev.now _
  | succ m ih =>
    intro n h hn
    refine Ev.step (fun k => by rw [spec_l6Dec.f]) ?_
    by_cases h10 : n < 10
    · simp only [if_neg (show ¬ (n : Int) < -9223372036854775807 by omega), if_neg (show ¬ (n : Int) < 0 by omega), if_pos (show (n : Int) < 10 by omega), w64 (a := 48 + (n : Int)) (by omega) (by omega)]
      rw [show (48 + (n : Int)) % 256 = 48 + n by omega, str_one _ (by omega) (by omega)]
      unfold dec
      rw [dif_pos h10, show (48 + (n : Int)).toNat = 48 + n by omega]
      exact Ev.now _
    · have ht : Int.tdiv (n : Int) 10 = ((n / 10 : Nat) : Int) := by
        rw [Int.tdiv_eq_ediv_of_nonneg (by omega)]; omega
      have hm : Int.tmod (n : Int) 10 = ((n % 10 : Nat) : Int) := by
        rw [Int.tmod_eq_emod_of_nonneg (by omega)]; omega
      simp only [if_neg (show ¬ (n : Int) < -9223372036854775807 by omega), if_neg (show ¬ (n : Int) < 0 by omega), if_neg (show ¬ (n : Int) < 10 by omega), ht, hm, w64 (a := ((n / 10 : Nat) : Int)) (by omega) (by omega), w64 (a := 48 + ((n % 10 : Nat) : Int)) (by omega) (by omega)]
      have h1 : n / 10 < 10 ^ (m + 1) := by rw [Nat.pow_succ] at h; omega
      refine Ev.bind (ih (n / 10) h1 (by omega)) ?_
      simp only [bindS]
      rw [show (48 + ((n % 10 : Nat) : Int)) % 256 = 48 + ((n % 10 : Nat) : Int) by omega, str_one _ (by omega) (by omega), show (48 + ((n % 10 : Nat) : Int)).toNat = 48 + n % 10 by omega]
      have hl := dec_len (n / 10) 12 (by omega)
      have hs : (ByteArray.mk (dec (n / 10)).toArray).size + (ByteArray.mk [UInt8.ofNat (48 + n % 10)].toArray).size ≤ 9223372036854775807 := by
        rw [size_mk, size_mk]; simp only [List.length_singleton]; omega
      simp only [if_pos hs, app_mk]
      rw [show dec n = dec (n / 10) ++ [UInt8.ofNat (48 + n % 10)] by rw [dec, dif_neg h10]]
      exact Ev.now _
/-- Digits of base 16. -/
def hx (n : Nat) : UInt8 := if n < 10 then UInt8.ofNat (48 + n) else UInt8.ofNat (87 + n)
def hexOf (l : List Int) : List UInt8 := l.flatMap fun x => [hx (x.toNat / 16), hx (x.toNat % 16)]
def digs : ByteArray := ⟨#[48, 49, 50, 51, 52, 53, 54, 55, 56, 57, 97, 98, 99, 100, 101, 102]⟩
theorem digs_at (n : Nat) (h : n < 16) : digs.extract n (n + 1) = ByteArray.mk [hx n].toArray := by
  have : ∀ i : Fin 16, digs.extract i.val (i.val + 1) = ByteArray.mk [hx i.val].toArray := by decide
  exact this ⟨n, h⟩
theorem hexOf_len (l : List Int) : (hexOf l).length = 2 * l.length := by
  unfold hexOf
  induction l with
  | nil => rfl
  | cons x l ih => simp only [List.flatMap_cons, List.length_append, List.length_cons, List.length_nil]; rw [ih]; omega
theorem hexOf_snoc (l : List Int) (x : Int) : hexOf (l ++ [x]) = hexOf l ++ [hx (x.toNat / 16), hx (x.toNat % 16)] := by
  unfold hexOf
  rw [List.flatMap_append]
  simp
theorem isB_iff (x : Int) : isB x = true ↔ 0 ≤ x ∧ x ≤ 255 := by
  unfold isB
  simp
theorem hex_loop (l : List Int) (hl : l.length ≤ 1000000) (ho : l.all isB = true) : ∀ d i, l.length - i = d → i ≤ l.length →
    Ev (fun k => spec_BytesText.l0 k l digs (ByteArray.mk (hexOf (l.take i)).toArray) (i : Int)) (ByteArray.mk (hexOf l).toArray) := by
  intro d
  induction d with
  | zero =>
    intro i hi hle
    refine Ev.step (fun k => by rw [spec_BytesText.l0]) ?_
    simp only [if_neg (show ¬ ((i : Int) < (l.length : Int)) by omega)]
    rw [List.take_of_length_le (by omega)]
    exact Ev.now _
  | succ d ih =>
    intro i hi hle
    have hlt : i < l.length := by omega
    have hb := (isB_iff _).1 (List.all_eq_true.1 ho _ (List.getElem_mem hlt))
    obtain ⟨n, hn⟩ := Int.eq_ofNat_of_zero_le hb.1
    have hn2 : n ≤ 255 := by omega
    refine Ev.step (fun k => by rw [spec_BytesText.l0]) ?_
    simp only [if_pos (show (i : Int) < (l.length : Int) by omega)]
    refine Ev.bind (l1Ok_ev l (by omega)) ?_
    have ht : Int.tdiv (n : Int) 16 = ((n / 16 : Nat) : Int) := by
      rw [Int.tdiv_eq_ediv_of_nonneg (by omega)]; omega
    have hm : Int.tmod (n : Int) 16 = ((n % 16 : Nat) : Int) := by
      rw [Int.tmod_eq_emod_of_nonneg (by omega)]; omega
    have d1 := digs_at (n / 16) (by omega)
    have d2 := digs_at (n % 16) (by omega)
    have hsz : digs.size = 16 := rfl
    simp only [ho, if_true, if_pos (show (0 : Int) ≤ (i : Int) by omega), rdi_nat l i hlt, hn, ht, hm, w64 (a := ((n / 16 : Nat) : Int)) (by omega) (by omega), w64 (a := ((n / 16 : Nat) : Int) + 1) (by omega) (by omega), w64 (a := ((n % 16 : Nat) : Int) + 1) (by omega) (by omega), w64 (a := (i : Int) + 1) (by omega) (by omega),
      if_pos (show (0 : Int) ≤ ((n / 16 : Nat) : Int) by omega), if_pos (show ((n / 16 : Nat) : Int) ≤ ((n / 16 : Nat) : Int) + 1 by omega), if_pos (show ((n / 16 : Nat) : Int) + 1 ≤ (digs.size : Int) by rw [hsz]; omega),
      if_pos (show (0 : Int) ≤ ((n % 16 : Nat) : Int) by omega), if_pos (show ((n % 16 : Nat) : Int) ≤ ((n % 16 : Nat) : Int) + 1 by omega), if_pos (show ((n % 16 : Nat) : Int) + 1 ≤ (digs.size : Int) by rw [hsz]; omega),
      Int.toNat_natCast, show (((n / 16 : Nat) : Int) + 1).toNat = n / 16 + 1 by omega, show (((n % 16 : Nat) : Int) + 1).toNat = n % 16 + 1 by omega, d1, d2]
    have hll : (hexOf (l.take i)).length ≤ 2000000 := by rw [hexOf_len, List.length_take]; omega
    have s1 : (ByteArray.mk (hexOf (l.take i)).toArray).size + (ByteArray.mk [hx (n / 16)].toArray).size ≤ 9223372036854775807 := by
      rw [size_mk, size_mk]; simp only [List.length_singleton]; omega
    have s2 : (ByteArray.mk (hexOf (l.take i)).toArray ++ ByteArray.mk [hx (n / 16)].toArray).size + (ByteArray.mk [hx (n % 16)].toArray).size ≤ 9223372036854775807 := by
      rw [app_mk, size_mk, size_mk]; simp only [List.length_singleton, List.length_append]; omega
    simp only [if_pos s1, if_pos s2]
    simp only [app_mk]
    have := ih (i + 1) (by omega) (by omega)
    rw [List.take_succ_eq_append_getElem hlt, hexOf_snoc, hn, Int.toNat_natCast] at this
    simp only [List.append_assoc, List.cons_append, List.nil_append] at this ⊢
    exact this
theorem hex_ev (l : List Int) (hl : l.length ≤ 1000000) (ho : l.all isB = true) : Ev (fun k => spec_BytesText.f k l) (ByteArray.mk (hexOf l).toArray) := by
  unfold spec_BytesText.f
  have := hex_loop l hl ho l.length 0 (by omega) (by omega)
  exact this
def partT (has : Bool) (l : List Int) : List UInt8 := if has = true then 120 :: hexOf l else [45]
theorem part_ev (has : Bool) (l : List Int) (hl : l.length ≤ 1000000) (ho : has = true → l.all isB = true) : Ev (fun k => spec_l41Part.f k has l) (ByteArray.mk (partT has l).toArray) := by
  unfold spec_l41Part.f partT
  cases has
  · exact Ev.now _
  · simp only [if_true]
    refine Ev.bind (hex_ev l hl (ho rfl)) ?_
    have : 1 + (ByteArray.mk (hexOf l).toArray).size ≤ 9223372036854775807 := by rw [size_mk, hexOf_len]; omega
    simp only [if_pos this]
    rw [show (⟨#[120]⟩ : ByteArray) = ByteArray.mk [120].toArray from rfl, app_mk]
    exact Ev.now _
def textOf (r : S41) : List UInt8 := dec r.f0.toNat ++ 32 :: (dec r.f1.toNat ++ 32 :: (partT r.f2 r.f3 ++ 32 :: partT r.f4 r.f5))
theorem recOk_parts {r : S41} (h : recOk r = true) : (0 ≤ r.f0 ∧ r.f0 ≤ 99999) ∧ (0 ≤ r.f1 ∧ r.f1 ≤ 99999) ∧ (r.f2 = true → r.f3.all isB = true) ∧ (r.f4 = true → r.f5.all isB = true) ∧ (r.f2 = false → r.f3 = []) ∧ (r.f4 = false → r.f5 = []) := by
  unfold recOk partOk rng at h
  simp only [Bool.and_eq_true, decide_eq_true_eq] at h
  obtain ⟨⟨h0, h1⟩, h2, h3⟩ := h
  refine ⟨h0, h1, fun e => ?_, fun e => ?_, fun e => ?_, fun e => ?_⟩
  · rw [e] at h2; simp at h2; exact List.all_eq_true.2 h2.2
  · rw [e] at h3; simp at h3; exact List.all_eq_true.2 h3.2
  · rw [e] at h2; simpa using h2
  · rw [e] at h3; simpa using h3
theorem text_ev (r : S41) (h : recOk r = true) : Ev (fun k => spec_l41Text.f k r.f0 r.f1 r.f2 r.f3 r.f4 r.f5) (ByteArray.mk (textOf r).toArray) := by
  obtain ⟨h0, h1, h2, h3, _, _⟩ := recOk_parts h
  have hl := recOk_len h
  obtain ⟨a, ha⟩ := Int.eq_ofNat_of_zero_le h0.1
  obtain ⟨b, hb⟩ := Int.eq_ofNat_of_zero_le h1.1
  have la := dec_len a 4 (by omega)
  have lb := dec_len b 4 (by omega)
  have lp : (partT r.f2 r.f3).length ≤ 25 := by unfold partT; split; simp only [List.length_cons, hexOf_len]; omega; simp
  have lq : (partT r.f4 r.f5).length ≤ 25 := by unfold partT; split; simp only [List.length_cons, hexOf_len]; omega; simp
  unfold spec_l41Text.f
  rw [ha, hb]
  refine Ev.bind (dec_ev 4 a (by omega) (by omega)) ?_
  rw [show (⟨#[32]⟩ : ByteArray) = ByteArray.mk [32].toArray from rfl]
  simp only [if_pos (show (ByteArray.mk (dec a).toArray).size + 1 ≤ 9223372036854775807 by rw [size_mk]; omega)]
  refine Ev.bind (dec_ev 4 b (by omega) (by omega)) ?_
  simp only [app_mk]
  have e1 : (ByteArray.mk (dec a ++ [32]).toArray).size + (ByteArray.mk (dec b).toArray).size ≤ 9223372036854775807 := by rw [size_mk, size_mk]; simp only [List.length_append, List.length_singleton]; omega
  have e2 : (ByteArray.mk (dec a ++ [32] ++ dec b).toArray).size + 1 ≤ 9223372036854775807 := by rw [size_mk]; simp only [List.length_append, List.length_singleton]; omega
  simp only [if_pos e1, if_pos e2]
  refine Ev.bind (part_ev r.f2 r.f3 (by omega) h2) ?_
  simp only [app_mk]
  have e3 : (ByteArray.mk (dec a ++ [32] ++ dec b ++ [32]).toArray).size + (ByteArray.mk (partT r.f2 r.f3).toArray).size ≤ 9223372036854775807 := by rw [size_mk, size_mk]; simp only [List.length_append, List.length_singleton]; omega
  have e4 : (ByteArray.mk (dec a ++ [32] ++ dec b ++ [32] ++ partT r.f2 r.f3).toArray).size + 1 ≤ 9223372036854775807 := by rw [size_mk]; simp only [List.length_append, List.length_singleton]; omega
  simp only [if_pos e3, if_pos e4]
  refine Ev.bind (part_ev r.f4 r.f5 (by omega) h3) ?_
  simp only [app_mk]
  have e5 : (ByteArray.mk (dec a ++ [32] ++ dec b ++ [32] ++ partT r.f2 r.f3 ++ [32]).toArray).size + (ByteArray.mk (partT r.f4 r.f5).toArray).size ≤ 9223372036854775807 := by rw [size_mk, size_mk]; simp only [List.length_append, List.length_singleton]; omega
  simp only [if_pos e5]
  unfold textOf
  rw [ha, hb, Int.toNat_natCast, Int.toNat_natCast]
  have : dec a ++ [32] ++ dec b ++ [32] ++ partT r.f2 r.f3 ++ [32] ++ partT r.f4 r.f5 = dec a ++ 32 :: (dec b ++ 32 :: (partT r.f2 r.f3 ++ 32 :: partT r.f4 r.f5)) := by simp
  rw [this]
  exact Ev.now _
/-! one line, one record -/
theorem split_first {a b x y : List UInt8} {c : UInt8} (ha : c ∉ a) (hb : c ∉ b) (h : a ++ c :: x = b ++ c :: y) : a = b ∧ x = y := by
  induction a generalizing b with
  | nil =>
    cases b with
    | nil => simpa using h
    | cons d b =>
      simp only [List.nil_append, List.cons_append, List.cons.injEq] at h
      exact absurd (by simp [h.1]) hb
  | cons d a ih =>
    cases b with
    | nil =>
      simp only [List.nil_append, List.cons_append, List.cons.injEq] at h
      exact absurd (by simp [h.1]) ha
    | cons e b =>
      simp only [List.cons_append, List.cons.injEq] at h
      have := ih (fun m => ha (by simp [m])) (fun m => hb (by simp [m])) h.2
      exact ⟨by rw [h.1, this.1], this.2⟩
theorem dec_digit (n : Nat) : ∀ c ∈ dec n, 48 ≤ c.toNat ∧ c.toNat ≤ 57 := by
  induction n using Nat.strongRecOn with
  | ind n ih =>
    intro c hc
    unfold dec at hc
    split at hc
    · rename_i h
      simp only [List.mem_singleton] at hc
      subst hc
      simp only [UInt8.toNat_ofNat']
      omega
    · rename_i h
      rcases List.mem_append.1 hc with hc | hc
      · exact ih (n / 10) (by omega) c hc
      · simp only [List.mem_singleton] at hc
        subst hc
        simp only [UInt8.toNat_ofNat']
        omega
def val (l : List UInt8) : Nat := l.foldl (fun n c => 10 * n + (c.toNat - 48)) 0
theorem val_dec (n : Nat) : val (dec n) = n := by
  induction n using Nat.strongRecOn with
  | ind n ih =>
    unfold dec
    split
    · rename_i h
      simp only [val, List.foldl_cons, List.foldl_nil, UInt8.toNat_ofNat']
      omega
    · rename_i h
      have := ih (n / 10) (by omega)
      unfold val at this ⊢
      rw [List.foldl_append, this]
      simp only [List.foldl_cons, List.foldl_nil, UInt8.toNat_ofNat']
      omega
theorem dec_inj {a b : Nat} (h : dec a = dec b) : a = b := by rw [← val_dec a, ← val_dec b, h]
theorem dec_no (n : Nat) : (32 : UInt8) ∉ dec n := fun h => by
  have := dec_digit n 32 h
  simp at this
theorem hx_range (n : Nat) (h : n < 16) : 48 ≤ (hx n).toNat ∧ (hx n).toNat ≤ 102 := by
  unfold hx
  split <;> simp only [UInt8.toNat_ofNat'] <;> omega
theorem hx_inj {a b : Nat} (ha : a < 16) (hb : b < 16) (h : hx a = hx b) : a = b := by
  have h2 : (hx a).toNat = (hx b).toNat := by rw [h]
  unfold hx at h2
  split at h2 <;> split at h2 <;> simp only [UInt8.toNat_ofNat'] at h2 <;> omega
theorem part_no (has : Bool) (l : List Int) (ho : has = true → l.all isB = true) : (32 : UInt8) ∉ partT has l := by
  unfold partT
  cases has
  · simp
  · simp only [if_true, List.mem_cons, not_or]
    refine ⟨by decide, fun h => ?_⟩
    unfold hexOf at h
    obtain ⟨x, hx1, hx2⟩ := List.mem_flatMap.1 h
    have hb := (isB_iff _).1 (List.all_eq_true.1 (ho rfl) x hx1)
    simp only [List.mem_cons, List.not_mem_nil, or_false] at hx2
    rcases hx2 with h2 | h2
    · have := (hx_range (x.toNat / 16) (by omega)).1
      rw [← h2] at this
      simp at this
    · have := (hx_range (x.toNat % 16) (by omega)).1
      rw [← h2] at this
      simp at this
theorem hexOf_inj : ∀ {a b : List Int}, a.all isB = true → b.all isB = true → hexOf a = hexOf b → a = b
  | [], [], _, _, _ => rfl
  | [], y :: ys, _, _, h => by
    have := congrArg List.length h
    rw [hexOf_len, hexOf_len] at this
    simp at this
  | x :: xs, [], _, _, h => by
    have := congrArg List.length h
    rw [hexOf_len, hexOf_len] at this
    simp at this
  | x :: xs, y :: ys, ha, hb, h => by
    rw [List.all_cons, Bool.and_eq_true, isB_iff] at ha hb
    have h' : hx (x.toNat / 16) :: hx (x.toNat % 16) :: hexOf xs = hx (y.toNat / 16) :: hx (y.toNat % 16) :: hexOf ys := h
    simp only [List.cons.injEq] at h'
    obtain ⟨h1, h2, h3⟩ := h'
    have e1 := hx_inj (by omega) (by omega) h1
    have e2 := hx_inj (by omega) (by omega) h2
    have e3 := hexOf_inj ha.2 hb.2 h3
    rw [e3, show x = y by omega]
theorem partT_inj {h1 h2 : Bool} {a b : List Int} (ha : h1 = true → a.all isB = true) (hb : h2 = true → b.all isB = true) (na : h1 = false → a = []) (nb : h2 = false → b = []) (h : partT h1 a = partT h2 b) : h1 = h2 ∧ a = b := by
  unfold partT at h
  cases h1 <;> cases h2
  · exact ⟨rfl, by rw [na rfl, nb rfl]⟩
  · simp at h
  · simp at h
  · simp only [if_true, List.cons.injEq, true_and] at h
    exact ⟨rfl, hexOf_inj (ha rfl) (hb rfl) h⟩
theorem text_inj {a b : S41} (ha : recOk a = true) (hb : recOk b = true) (h : textOf a = textOf b) : a = b := by
  obtain ⟨a0, a1, a2, a3, a4, a5⟩ := recOk_parts ha
  obtain ⟨b0, b1, b2, b3, b4, b5⟩ := recOk_parts hb
  unfold textOf at h
  obtain ⟨e0, h⟩ := split_first (dec_no _) (dec_no _) h
  obtain ⟨e1, h⟩ := split_first (dec_no _) (dec_no _) h
  obtain ⟨e2, h⟩ := split_first (part_no _ _ a2) (part_no _ _ b2) h
  have k0 := dec_inj e0
  have k1 := dec_inj e1
  obtain ⟨k2, k3⟩ := partT_inj a2 b2 a4 b4 e2
  obtain ⟨k4, k5⟩ := partT_inj a3 b3 a5 b5 h
  cases a; cases b
  simp only at a0 a1 b0 b1 k0 k1 k2 k3 k4 k5
  subst k2 k3 k4 k5
  congr 1 <;> omega
end Go.Proofs.Ythlnbbehcpdnfaa.Pu

namespace Go.Proofs.Ythlnbbehcpdnfaa.Pu
open Go.RowKit Go.Proofs.YthlnbbehcpdnfaaW.PrintWords Go.Proofs.YthlnbbehcpdnfaaW.PrintLast Go.Proofs.YthlnbbehcpdnfaaW.PrintMore Go.Proofs.Ythlnbbehcpdnfaa.G
set_option linter.unusedVariables false
set_option linter.unusedSimpArgs false
theorem l42Same_ev (a b : S41) (ha : recOk a = true) (hb : recOk b = true) : Ev (fun k => spec_l42Same.f k a.f0 a.f1 a.f2 a.f3 a.f4 a.f5 b.f0 b.f1 b.f2 b.f3 b.f4 b.f5) (sameB a b) := by
  unfold spec_l42Same.f
  refine Ev.bind (text_ev a ha) (Ev.bind (text_ev b hb) ?_)
  have : ((ByteArray.mk (textOf a).toArray).toList == (ByteArray.mk (textOf b).toArray).toList) = sameB a b := by
    rw [toList_mk, toList_mk, Bool.eq_iff_iff, beq_iff_eq, sameB_iff]
    exact ⟨text_inj ha hb, fun h => by rw [h]⟩
  rw [this]
  exact Ev.now _
theorem l42Common_loop (a b : List S41) (ha : a.length ≤ 9223372036854775807) (oa : ∀ r ∈ a, recOk r = true) (ob : ∀ r ∈ b, recOk r = true) : ∀ d i, a.length - i = d → i ≤ a.length → i ≤ b.length →
    Ev (fun k => spec_l42Common.l0 k a b (i : Int)) ((i + cmn (a.drop i) (b.drop i) : Nat) : Int) := by
  intro d
  induction d with
  | zero =>
    intro i hi h1 h2
    refine Ev.step (fun k => by rw [spec_l42Common.l0]) ?_
    simp only [if_neg (show ¬ ((i : Int) < (a.length : Int)) by omega)]
    rw [List.drop_of_length_le (by omega), cmn_nil_left, Nat.add_zero]
    exact Ev.now _
  | succ d ih =>
    intro i hi h1 h2
    have hlt : i < a.length := by omega
    refine Ev.step (fun k => by rw [spec_l42Common.l0]) ?_
    simp only [if_pos (show (i : Int) < (a.length : Int) by omega)]
    by_cases hb : (i : Int) < (b.length : Int)
    · have hlb : i < b.length := by omega
      simp only [if_pos hb, if_pos (show (0 : Int) ≤ (i : Int) by omega), rdR_nat a i hlt, rdR_nat b i hlb, w64 (a := (i : Int) + 1) (by omega) (by omega)]
      refine Ev.bind (l42Same_ev _ _ (oa _ (List.getElem_mem _)) (ob _ (List.getElem_mem _))) ?_
      rw [List.drop_eq_getElem_cons hlt, List.drop_eq_getElem_cons hlb]
      unfold cmn
      cases hs : sameB a[i] b[i]
      · simp only [Bool.false_eq_true, if_false, Nat.add_zero]
        exact Ev.now _
      · simp only [if_true]
        have := ih (i + 1) (by omega) (by omega) (by omega)
        rw [show i + (cmn (a.drop (i + 1)) (b.drop (i + 1)) + 1) = i + 1 + cmn (a.drop (i + 1)) (b.drop (i + 1)) by omega]
        exact this
    · simp only [if_neg hb]
      rw [List.drop_of_length_le (l := b) (by omega), cmn_nil_right, Nat.add_zero]
      exact Ev.now _
theorem l42Common_ev (a b : List S41) (ha : a.length ≤ 9223372036854775807) (oa : ∀ r ∈ a, recOk r = true) (ob : ∀ r ∈ b, recOk r = true) : Ev (fun k => spec_l42Common.f k a b) ((cmn a b : Nat) : Int) := by
  unfold spec_l42Common.f
  have := l42Common_loop a b ha oa ob a.length 0 (by omega) (by omega) (by omega)
  simpa using this
/-- Rows that can be told. -/
def RowL (l : List S41) : Prop := l.length ≤ 9223372036854775807 ∧ ∀ r ∈ l, Lens r
theorem rowOk_all {l : List S41} (h : rowOk l = true) : (∀ r ∈ l, recOk r = true) ∧ l.length ≤ 30 := by
  unfold rowOk at h
  simp only [Bool.and_eq_true, decide_eq_true_eq, List.all_eq_true] at h
  exact h
def comV (a b : List S41) : Int := if (rowOk a && rowOk b) = true then ((cmn a b : Nat) : Int) else -1
theorem sRecordsCommon_ev (a b : List S41) (ha : RowL a) (hb : RowL b) : Ev (fun k => spec_RecordsCommon.f k a b) (comV a b) := by
  unfold spec_RecordsCommon.f comV
  refine Ev.bind (l42Rows_ev a ha.1 ha.2) ?_
  cases hra : rowOk a
  · exact Ev.now _
  · simp only [if_true, Bool.true_and]
    refine Ev.bind (l42Rows_ev b hb.1 hb.2) ?_
    cases hrb : rowOk b
    · exact Ev.now _
    · simp only [if_true]
      exact Ev.bind (l42Common_ev a b ha.1 (rowOk_all hra).1 (rowOk_all hrb).1) (Ev.now _)
/-- Where two rows part. -/
def aptV (a b : List S41) : Int :=
  if (rowOk a && rowOk b) = true then
    (match a[cmn a b]?, b[cmn a b]? with
     | some x, some y => mn x.f0 y.f0
     | some x, none => x.f0
     | none, some y => y.f0
     | none, none => -1)
  else -1
theorem RecordsApart_ev (a b : List S41) (ha : RowL a) (hb : RowL b) : Ev (fun k => impl_RecordsApart.f k a b) (aptV a b) := by
  have bad : Ev (fun k => impl_RecordsApart.j0 k a b true) (-1) := by
    refine Ev.step (fun k => by rw [impl_RecordsApart.j0]) ?_
    simp only [if_true]
    exact Ev.now _
  unfold impl_RecordsApart.f aptV
  refine Ev.bind (rowValid_ev a ha.1 ha.2) ?_
  cases rowOk a
  · simp only [Bool.false_eq_true, if_false, Bool.false_and]
    exact bad
  · simp only [if_true, Bool.true_and]
    refine Ev.bind (rowValid_ev b hb.1 hb.2) ?_
    cases rowOk b
    · exact bad
    · simp only [if_true, Bool.not_true]
      refine Ev.step (fun k => by rw [impl_RecordsApart.j0]) ?_
      simp only [Bool.false_eq_true, if_false]
      refine Ev.bind (common_ev a b ha.1 ha.2) ?_
      have hle := cmn_le a b
      by_cases h1 : ((cmn a b : Nat) : Int) < (a.length : Int)
      · have h1' : cmn a b < a.length := by omega
        simp only [if_pos h1]
        refine Ev.step (fun k => by rw [impl_RecordsApart.j1]) ?_
        by_cases h2 : ((cmn a b : Nat) : Int) < (b.length : Int)
        · have h2' : cmn a b < b.length := by omega
          simp only [decide_eq_true h2, if_true, if_pos (show (0 : Int) ≤ ((cmn a b : Nat) : Int) by omega), if_pos h1, if_pos h2, rdR_nat a _ h1', rdR_nat b _ h2', List.getElem?_eq_getElem h1', List.getElem?_eq_getElem h2']
          exact Ev.now _
        · have h2' : b.length ≤ cmn a b := by omega
          simp only [decide_eq_false h2, Bool.false_eq_true, if_false, if_pos h1, if_pos (show (0 : Int) ≤ ((cmn a b : Nat) : Int) by omega), rdR_nat a _ h1', List.getElem?_eq_getElem h1', List.getElem?_eq_none h2']
          exact Ev.now _
      · have h1' : a.length ≤ cmn a b := by omega
        simp only [if_neg h1]
        refine Ev.step (fun k => by rw [impl_RecordsApart.j1]) ?_
        simp only [Bool.false_eq_true, if_false, if_neg h1, List.getElem?_eq_none h1']
        by_cases h2 : ((cmn a b : Nat) : Int) < (b.length : Int)
        · have h2' : cmn a b < b.length := by omega
          simp only [if_pos h2, if_pos (show (0 : Int) ≤ ((cmn a b : Nat) : Int) by omega), rdR_nat b _ h2', List.getElem?_eq_getElem h2']
          exact Ev.now _
        · have h2' : b.length ≤ cmn a b := by omega
          simp only [if_neg h2, List.getElem?_eq_none h2']
          exact Ev.now _
theorem sRecordsApart_ev (a b : List S41) (ha : RowL a) (hb : RowL b) : Ev (fun k => spec_RecordsApart.f k a b) (aptV a b) := by
  have bad : ∀ n, Ev (fun k => spec_RecordsApart.j0 k a b n true) (-1) := by
    intro n
    refine Ev.step (fun k => by rw [spec_RecordsApart.j0]) ?_
    simp only [if_true]
    exact Ev.now _
  unfold spec_RecordsApart.f
  refine Ev.bind (sRecordsCommon_ev a b ha hb) ?_
  unfold comV aptV
  by_cases hok : (rowOk a && rowOk b) = true
  · simp only [if_pos hok]
    have hle := cmn_le a b
    simp only [if_neg (show ¬ ((cmn a b : Nat) : Int) < 0 by omega)]
    by_cases h1 : ((cmn a b : Nat) : Int) = (a.length : Int)
    · have h1' : a.length ≤ cmn a b := by omega
      simp only [if_pos h1, List.getElem?_eq_none h1']
      by_cases h2 : ((cmn a b : Nat) : Int) = (b.length : Int)
      · have h2' : b.length ≤ cmn a b := by omega
        simp only [List.getElem?_eq_none h2']
        have e : (((cmn a b : Nat) : Int) == (b.length : Int)) = true := by simpa using h2
        simp only [e]
        exact bad _
      · have h2' : cmn a b < b.length := by omega
        have e : (((cmn a b : Nat) : Int) == (b.length : Int)) = false := by simpa using h2
        simp only [e]
        refine Ev.step (fun k => by rw [spec_RecordsApart.j0]) ?_
        simp only [Bool.false_eq_true, if_false, if_pos h1, if_pos (show (0 : Int) ≤ ((cmn a b : Nat) : Int) by omega), if_pos (show ((cmn a b : Nat) : Int) < (b.length : Int) by omega), rdR_nat b _ h2', List.getElem?_eq_getElem h2']
        exact Ev.now _
    · have h1' : cmn a b < a.length := by omega
      simp only [if_neg h1, List.getElem?_eq_getElem h1']
      refine Ev.step (fun k => by rw [spec_RecordsApart.j0]) ?_
      simp only [Bool.false_eq_true, if_false, if_neg h1]
      by_cases h2 : ((cmn a b : Nat) : Int) = (b.length : Int)
      · have h2' : b.length ≤ cmn a b := by omega
        simp only [if_pos h2, if_pos (show (0 : Int) ≤ ((cmn a b : Nat) : Int) by omega), if_pos (show ((cmn a b : Nat) : Int) < (a.length : Int) by omega), rdR_nat a _ h1', List.getElem?_eq_none h2']
        exact Ev.now _
      · have h2' : cmn a b < b.length := by omega
        simp only [if_neg h2, if_pos (show (0 : Int) ≤ ((cmn a b : Nat) : Int) by omega), if_pos (show ((cmn a b : Nat) : Int) < (a.length : Int) by omega), if_pos (show ((cmn a b : Nat) : Int) < (b.length : Int) by omega), rdR_nat a _ h1', rdR_nat b _ h2', List.getElem?_eq_getElem h2']
        exact Ev.now _
  · simp only [if_neg hok]
    simp only [if_pos (show (-1 : Int) < 0 by omega)]
    exact bad _
end Go.Proofs.Ythlnbbehcpdnfaa.Pu

namespace Go.Proofs.Ythlnbbehcpdnfaa.Pu
open Go.RowKit Go.Proofs.YthlnbbehcpdnfaaW.PrintWords Go.Proofs.YthlnbbehcpdnfaaW.PrintLast Go.Proofs.Ythlnbbehcpdnfaa.G
set_option linter.unusedVariables false
set_option linter.unusedSimpArgs false
theorem xor_i64 (a b : Int) (h0 : 0 ≤ a) (h1 : a < 4611686018427387904) (k0 : 0 ≤ b) (k1 : b < 4611686018427387904) : 0 ≤ bits .xor .i64 a b := by
  obtain ⟨a, rfl⟩ := Int.eq_ofNat_of_zero_le h0
  obtain ⟨b, rfl⟩ := Int.eq_ofNat_of_zero_le k0
  have ha : a < 2 ^ 62 := by omega
  have hb : b < 2 ^ 62 := by omega
  have hx := Nat.xor_lt_two_pow ha hb
  have ha' : a % 2 ^ 64 = a := Nat.mod_eq_of_lt (by omega)
  have hb' : b % 2 ^ 64 = b := Nat.mod_eq_of_lt (by omega)
  show 0 ≤ IntKind.i64.wrap ((BitVec.ofInt 64 (a : Int) ^^^ BitVec.ofInt 64 (b : Int)).toNat : Int)
  rw [BitVec.ofInt_natCast, BitVec.ofInt_natCast, BitVec.toNat_xor, BitVec.toNat_ofNat, BitVec.toNat_ofNat, ha', hb', IntKind.wrap_i64]
  omega
theorem rd_range {b : List Int} (hb : ∀ x ∈ b, 0 ≤ x ∧ x ≤ 255) (i : Int) : 0 ≤ rd b i ∧ rd b i ≤ 255 := by
  unfold rd
  rw [List.getD_eq_getElem?_getD]
  rcases h : b[i.toNat]? with _ | x
  · simp
  · exact hb x (List.mem_of_getElem? h)
theorem mod_range {x n : Int} (h0 : 0 ≤ x) (h1 : 1 ≤ n) : 0 ≤ Int.tmod x n ∧ Int.tmod x n < n := by
  rw [Int.tmod_eq_emod_of_nonneg h0]
  exact ⟨Int.emod_nonneg _ (by omega), Int.emod_lt_of_pos _ (by omega)⟩
/-- A code that is read: bytes, and a place that is no great number. -/
def CodeOk (b : List Int) : Prop := b.length ≤ 2000 ∧ ∀ x ∈ b, 0 ≤ x ∧ x ≤ 255
theorem pick_ends {b : List Int} (hb : CodeOk b) (p n : Int) (h0 : 0 ≤ p) (h1 : p ≤ 1000000000) (hn : n ≤ 4611686018427387904) :
    EndsIn (fun k => spec_l6Rd_pick.f k b p n) (fun r => r.2 = p + 1 ∧ 0 ≤ r.1 ∧ (1 ≤ n → r.1 < n) ∧ (n < 1 → r.1 = 0)) := by
  obtain ⟨hl, hr⟩ := hb
  unfold spec_l6Rd_pick.f
  rw [w64 (a := p + 1) (by omega) (by omega)]
  by_cases hn1 : n < 1
  · simp only [if_pos hn1]
    refine EndsIn.step (fun k => by rw [spec_l6Rd_pick.j0]) ?_
    simp only [if_true]
    exact EndsIn.now _ ⟨rfl, by omega, by omega, fun _ => rfl⟩
  · simp only [if_neg hn1]
    refine EndsIn.step (fun k => by rw [spec_l6Rd_pick.j0]) ?_
    rw [show p + 1 - 1 = p by omega, w64 (a := p) (by omega) (by omega)]
    by_cases hz : (b.length : Int) = 0
    · have : ((b.length : Int) == 0) = true := by simpa using hz
      simp only [this, if_true]
      exact EndsIn.now _ ⟨rfl, by omega, by omega, fun h => by omega⟩
    · have hz' : ((b.length : Int) == 0) = false := by simpa using hz
      simp only [hz', Bool.false_eq_true, if_false]
      by_cases hp : p < (b.length : Int)
      · have hx := rd_range hr p
        simp only [if_pos hp, if_pos h0, if_neg (show ¬ n = 0 by omega)]
        rw [w64 (a := rd b p) (by omega) (by omega)]
        have hm := mod_range (x := rd b p) (n := n) hx.1 (by omega)
        exact EndsIn.now _ ⟨rfl, hm.1, fun _ => hm.2, fun h => by omega⟩
      · have hm1 := mod_range (x := p) (n := (b.length : Int)) h0 (by omega)
        have h7 : wrap64 (wrap64 (p * 7) + 3) = p * 7 + 3 := by
          rw [w64 (a := p * 7) (by omega) (by omega), w64 (by omega) (by omega)]
        have hm2 := mod_range (x := p * 7 + 3) (n := (b.length : Int)) (by omega) (by omega)
        simp only [if_neg hp, if_neg hz, h7, if_pos hm1.1, if_pos hm1.2, if_pos hm2.1, if_pos hm2.2, if_neg (show ¬ n = 0 by omega)]
        have hx1 := rd_range hr (Int.tmod p b.length)
        have hx2 := rd_range hr (Int.tmod (p * 7 + 3) b.length)
        generalize rd b (Int.tmod p b.length) = x1 at hx1 ⊢
        generalize rd b (Int.tmod (p * 7 + 3) b.length) = x2 at hx2 ⊢
        have hd : 0 ≤ Int.tdiv p (b.length : Int) ∧ Int.tdiv p (b.length : Int) ≤ p := by
          rw [Int.tdiv_eq_ediv_of_nonneg h0]
          exact ⟨Int.ediv_nonneg h0 (by omega), Int.ediv_le_self _ h0⟩
        generalize Int.tdiv p (b.length : Int) = q at hd ⊢
        have e1 : wrap64 x1 = x1 := w64 (by omega) (by omega)
        have e2 : wrap64 x2 = x2 := w64 (by omega) (by omega)
        have e3 : wrap64 (x1 * 131) = x1 * 131 := w64 (by omega) (by omega)
        have e4 : wrap64 (x2 * 1117) = x2 * 1117 := w64 (by omega) (by omega)
        have e5 : wrap64 (x1 * 131 + x2 * 1117) = x1 * 131 + x2 * 1117 := w64 (by omega) (by omega)
        have e6 : wrap64 (p * 29) = p * 29 := w64 (by omega) (by omega)
        have e7 : wrap64 (x1 * 131 + x2 * 1117 + p * 29) = x1 * 131 + x2 * 1117 + p * 29 := w64 (by omega) (by omega)
        have e8 : wrap64 q = q := w64 (by omega) (by omega)
        have e9 : wrap64 (q * 53) = q * 53 := w64 (by omega) (by omega)
        have e10 : wrap64 (x1 * 131 + x2 * 1117 + p * 29 + q * 53) = x1 * 131 + x2 * 1117 + p * 29 + q * 53 := w64 (by omega) (by omega)
        simp only [e1, e2, e3, e4, e5, e6, e7, e8, e9, e10]
        have hX : 0 ≤ x1 * 131 + x2 * 1117 + p * 29 + q * 53 ∧ x1 * 131 + x2 * 1117 + p * 29 + q * 53 < 4611686018427387904 := ⟨by omega, by omega⟩
        generalize x1 * 131 + x2 * 1117 + p * 29 + q * 53 = X at hX ⊢
        have e11 : wrap64 (Int.tdiv X 64) = X / 64 := by
          rw [Int.tdiv_eq_ediv_of_nonneg hX.1]
          exact w64 (by omega) (by omega)
        rw [e11]
        have hxx := xor_i64 X (X / 64) hX.1 hX.2 (by omega) (by omega)
        have hm := mod_range (n := n) hxx (by omega)
        exact EndsIn.now _ ⟨rfl, hm.1, fun _ => hm.2, fun h => by omega⟩
end Go.Proofs.Ythlnbbehcpdnfaa.Pu

namespace Go.Proofs.Ythlnbbehcpdnfaa.Pu
open Go.RowKit Go.Proofs.YthlnbbehcpdnfaaW.PrintWords Go.Proofs.YthlnbbehcpdnfaaW.PrintLast Go.Proofs.YthlnbbehcpdnfaaW.PrintMore Go.Proofs.Ythlnbbehcpdnfaa.G
set_option linter.unusedVariables false
set_option linter.unusedSimpArgs false
def RecD (r : S41) : Prop := r.f3.length ≤ 1 ∧ r.f5.length = 0 ∧ 0 ≤ r.f0 ∧ r.f0 ≤ 16 ∧ -1 ≤ r.f1 ∧ r.f1 ≤ 1000
def DrR (l : List S41) : Prop := l.length ≤ 16 ∧ ∀ r ∈ l, RecD r
theorem DrR.rowL {l : List S41} (h : DrR l) : RowL l := ⟨by have := h.1; omega, fun r hr => by have := h.2 r hr; unfold RecD at this; exact ⟨by omega, by omega⟩⟩
theorem rdR_mem (l : List S41) (i : Int) (h0 : 0 ≤ i) (h1 : i < (l.length : Int)) : rd_T41 l i ∈ l := by
  unfold rd_T41
  rw [List.getD_eq_getElem?_getD, List.getElem?_eq_getElem (by omega)]
  exact List.getElem_mem _
theorem drawRow_loop {b : List Int} (hb : CodeOk b) (n : Int) (hn : n ≤ 16) : ∀ d (i : Nat) (l : List S41) (t p : Int), 16 - i = d → l.length = i → i ≤ 16 → (∀ r ∈ l, RecD r) → 0 ≤ t → t ≤ 40 + 12 * (i : Int) → 0 ≤ p → p ≤ 100000000 + 2 * (i : Int) →
    EndsIn (fun k => spec_l92Row.l0 k l n t (i : Int) b p) (fun r => DrR r.1 ∧ p ≤ r.2 ∧ r.2 ≤ p + 2 * (16 - (i : Int)) + 2) := by
  have fin : ∀ (i : Nat) (l : List S41) (t p : Int), l.length = i → i ≤ 16 → (∀ r ∈ l, RecD r) → 0 ≤ p → p ≤ 100000000 + 2 * (i : Int) → ¬ (i : Int) < n →
    EndsIn (fun k => spec_l92Row.l0 k l n t (i : Int) b p) (fun r => DrR r.1 ∧ p ≤ r.2 ∧ r.2 ≤ p + 2 * (16 - (i : Int)) + 2) := by
    intro i l t p hl hi hr p0 p1 h
    refine EndsIn.step (fun k => by rw [spec_l92Row.l0]) ?_
    simp only [if_neg h]
    by_cases hz : n > 0
    · simp only [if_pos hz]
      refine EndsIn.bind (pick_ends hb p 24 p0 (by omega) (by omega)) fun q hq => ?_
      obtain ⟨q2, q3, q4, _⟩ := hq
      rw [q2]
      by_cases hq0 : q.1 = 0
      · simp only [if_pos hq0]
        refine EndsIn.bind (pick_ends hb (p + 1) n (by omega) (by omega) (by omega)) fun s hs => ?_
        obtain ⟨s2, s3, s4, _⟩ := hs
        have s5 := s4 (by omega)
        simp only [if_pos s3, if_pos (show s.1 < (l.length : Int) by omega)]
        refine EndsIn.now _ ⟨⟨by rw [List.length_set]; omega, fun r hx => ?_⟩, by omega, by omega⟩
        rcases List.mem_or_eq_of_mem_set hx with hx | rfl
        · exact hr r hx
        · have := hr _ (rdR_mem l s.1 s3 (by omega))
          exact ⟨this.1, this.2.1, this.2.2.1, this.2.2.2.1, by show (-1 : Int) ≤ -1; omega, by show (-1 : Int) ≤ 1000; omega⟩
      · simp only [if_neg hq0]
        exact EndsIn.now _ ⟨⟨by show l.length ≤ 16; omega, hr⟩, by omega, by omega⟩
    · simp only [if_neg hz]
      exact EndsIn.now _ ⟨⟨by show l.length ≤ 16; omega, hr⟩, by omega, by omega⟩
  intro d
  induction d with
  | zero =>
    intro i l t p hd hl hi hr t0 t1 p0 p1
    exact fin i l t p hl hi hr p0 p1 (by omega)
  | succ d ih =>
    intro i l t p hd hl hi hr t0 t1 p0 p1
    by_cases h : (i : Int) < n
    · refine EndsIn.step (fun k => by rw [spec_l92Row.l0]) ?_
      simp only [if_pos h]
      refine EndsIn.bind (pick_ends hb p 3 p0 (by omega) (by omega)) fun q hq => ?_
      obtain ⟨q2, q3, q4, _⟩ := hq
      simp only [if_pos (show l.length < 1759218604441 by omega)]
      rw [q2]
      refine EndsIn.bind (pick_ends hb (p + 1) 12 (by omega) (by omega) (by omega)) fun s hs => ?_
      obtain ⟨s2, s3, s4, _⟩ := hs
      have s5 := s4 (by omega)
      rw [s2, w64 (a := t + s.1) (by omega) (by omega), w64 (a := (i : Int) + 1) (by omega) (by omega)]
      refine (ih (i + 1) _ (t + s.1) (p + 1 + 1) (by omega) (by rw [List.length_append]; simp [hl]) (by omega) (fun r hx => ?_) (by omega) (by omega) (by omega) (by omega)).mono fun r hr => ⟨hr.1, by omega, by omega⟩
      rcases List.mem_append.1 hx with hx | hx
      · exact hr r hx
      · rw [List.mem_singleton] at hx
        subst hx
        exact ⟨by simp, by simp, by show (0 : Int) ≤ i; omega, by show (i : Int) ≤ 16; omega, by show (-1 : Int) ≤ t; omega, by show t ≤ 1000; omega⟩
    · exact fin i l t p hl hi hr p0 p1 h
theorem drawRow_ends {b : List Int} (hb : CodeOk b) (p : Int) (h0 : 0 ≤ p) (h1 : p ≤ 99999000) : EndsIn (fun k => spec_l92Row.f k b p) (fun r => DrR r.1 ∧ p ≤ r.2 ∧ r.2 ≤ p + 100) := by
  have st : ∀ (n q : Int), n ≤ 16 → p ≤ q → q ≤ p + 10 → EndsIn (fun k => spec_l92Row.j0 k [] n b q) (fun r => DrR r.1 ∧ p ≤ r.2 ∧ r.2 ≤ p + 100) := by
    intro n q hn hq0 hq1
    refine EndsIn.step (fun k => by rw [spec_l92Row.j0]) ?_
    refine EndsIn.bind (pick_ends hb q 40 (by omega) (by omega) (by omega)) fun t ht => ?_
    obtain ⟨t2, t3, t4, _⟩ := ht
    have t5 := t4 (by omega)
    rw [t2]
    have := drawRow_loop hb n hn 16 0 [] t.1 (q + 1) (by omega) (by simp) (by omega) (by simp) t3 (by omega) (by omega) (by omega)
    exact this.mono fun r hr => ⟨hr.1, by omega, by omega⟩
  unfold spec_l92Row.f
  simp only [bindS]
  refine EndsIn.bind (pick_ends hb p 5 h0 (by omega) (by omega)) fun q hq => ?_
  obtain ⟨q2, q3, q4, _⟩ := hq
  have q5 := q4 (by omega)
  rw [q2]
  refine EndsIn.bind (pick_ends hb (p + 1) 24 (by omega) (by omega) (by omega)) fun s hs => ?_
  obtain ⟨s2, s3, s4, _⟩ := hs
  rw [s2]
  by_cases hz : s.1 = 0
  · simp only [if_pos hz]
    refine EndsIn.bind (pick_ends hb (p + 1 + 1) 2 (by omega) (by omega) (by omega)) fun u hu => ?_
    obtain ⟨u2, u3, u4, _⟩ := hu
    have u5 := u4 (by omega)
    rw [u2, w64 (a := 15 + u.1) (by omega) (by omega)]
    exact st _ _ (by omega) (by omega) (by omega)
  · simp only [if_neg hz]
    exact st _ _ (by omega) (by omega) (by omega)
theorem alike_j {b : List Int} (hb : CodeOk b) (x y : List S41) (hx : DrR x) (hy : DrR y) (c : Bool) (p : Int) (h0 : 0 ≤ p) (h1 : p ≤ 99999000) :
    EndsIn (fun k => spec_l92Alike.j0 k x y c b p) (fun r => DrR r.1 ∧ DrR r.2.1) := by
  refine EndsIn.step (fun k => by rw [spec_l92Alike.j0]) ?_
  cases c
  · simp only [Bool.false_eq_true, if_false]
    exact EndsIn.now _ ⟨hx, hy⟩
  · simp only [if_true]
    have hy1 := hy.1
    by_cases hz : (y.length : Int) > 0
    · simp only [if_pos hz]
      refine EndsIn.bind (pick_ends hb p (y.length : Int) h0 (by omega) (by omega)) fun q hq => ?_
      obtain ⟨q2, q3, q4, _⟩ := hq
      have q5 := q4 (by omega)
      rw [q2]
      refine EndsIn.bind (pick_ends hb (p + 1) 2 (by omega) (by omega) (by omega)) fun s hs => ?_
      by_cases hs0 : s.1 = 0
      · simp only [if_pos hs0, if_pos q3, if_pos (show q.1 ≤ (y.length : Int) by omega)]
        exact EndsIn.now _ ⟨hx, by rw [List.length_take]; omega, fun r hr => hy.2 r (List.mem_of_mem_take hr)⟩
      · simp only [if_neg hs0, if_pos q3, if_pos q5]
        refine EndsIn.now _ ⟨hx, by rw [List.length_set]; omega, fun r hr => ?_⟩
        rcases List.mem_or_eq_of_mem_set hr with hr | rfl
        · exact hy.2 r hr
        · have := hy.2 _ (rdR_mem y q.1 q3 q5)
          exact ⟨this.1, this.2.1, this.2.2.1, this.2.2.2.1, this.2.2.2.2.1, this.2.2.2.2.2⟩
    · simp only [if_neg hz]
      exact EndsIn.now _ ⟨hx, hy⟩
theorem alike_ends {b : List Int} (hb : CodeOk b) : EndsIn (fun k => spec_l92Alike.f k b 0) (fun r => DrR r.1 ∧ DrR r.2.1) := by
  unfold spec_l92Alike.f
  refine EndsIn.bind (drawRow_ends hb 0 (by omega) (by omega)) fun x hx => ?_
  obtain ⟨x1, x2, x3⟩ := hx
  have := x1.1
  simp only [bindS, List.nil_append, if_pos (show ([] : List S41).length + x.1.length < 1759218604441 by rw [List.length_nil]; omega)]
  refine EndsIn.bind (pick_ends hb x.2 4 (by omega) (by omega) (by omega)) fun q hq => ?_
  obtain ⟨q2, q3, q4, _⟩ := hq
  rw [q2]
  by_cases h0 : q.1 = 0
  · simp only [if_pos h0]
    exact EndsIn.bind (drawRow_ends hb (x.2 + 1) (by omega) (by omega)) fun y hy => EndsIn.now _ ⟨x1, hy.1⟩
  · simp only [if_neg h0]
    by_cases h1 : q.1 = 1
    · simp only [if_pos h1]
      exact alike_j hb _ _ x1 x1 _ _ (by omega) (by omega)
    · simp only [if_neg h1]
      exact alike_j hb _ _ x1 x1 _ _ (by omega) (by omega)
end Go.Proofs.Ythlnbbehcpdnfaa.Pu

namespace Go.Proofs.Ythlnbbehcpdnfaa.Pu
open Go.RowKit Go.Proofs.YthlnbbehcpdnfaaW.PrintWords Go.Proofs.YthlnbbehcpdnfaaW.PrintLast Go.Proofs.YthlnbbehcpdnfaaW.PrintMore Go.Proofs.Ythlnbbehcpdnfaa.G
set_option linter.unusedVariables false
set_option linter.unusedSimpArgs false
theorem sameInts_ev (a b : List Int) (ha : a.length ≤ 9223372036854775807) : Ev (fun k => laws_sameInts.f k a b) (decide (a = b)) := by
  unfold laws_sameInts.f
  by_cases h : (a.length : Int) = (b.length : Int)
  · have hl : a.length = b.length := by omega
    simp only [if_pos h]
    have key : ∀ d i, a.length - i = d → Ev (fun k => laws_sameInts.l0 k a b (i : Int)) (decide (a.drop i = b.drop i)) := by
      intro d
      induction d with
      | zero =>
        intro i hi
        refine Ev.step (fun k => by rw [laws_sameInts.l0]) ?_
        simp only [if_neg (show ¬ ((i : Int) < (a.length : Int)) by omega)]
        rw [List.drop_of_length_le (by omega), List.drop_of_length_le (by omega)]
        exact Ev.now _
      | succ d ih =>
        intro i hi
        have h1 : i < a.length := by omega
        have h2 : i < b.length := by omega
        refine Ev.step (fun k => by rw [laws_sameInts.l0]) ?_
        simp only [if_pos (show (i : Int) < (a.length : Int) by omega), if_pos (show (0 : Int) ≤ (i : Int) by omega), if_pos (show (i : Int) < (b.length : Int) by omega), rdi_nat a i h1, rdi_nat b i h2, w64 (a := (i : Int) + 1) (by omega) (by omega)]
        rw [List.drop_eq_getElem_cons h1, List.drop_eq_getElem_cons h2]
        by_cases he : a[i] = b[i]
        · simp only [if_pos he]
          rw [show decide (a[i] :: a.drop (i + 1) = b[i] :: b.drop (i + 1)) = decide (a.drop (i + 1) = b.drop (i + 1)) from decide_eq_decide.2 (by simp only [List.cons.injEq, he, true_and])]
          exact ih (i + 1) (by omega)
        · simp only [if_neg he]
          rw [show decide (a[i] :: a.drop (i + 1) = b[i] :: b.drop (i + 1)) = false from decide_eq_false (by simp only [List.cons.injEq, he, false_and, not_false_eq_true])]
          exact Ev.now _
    have := key a.length 0 (by omega)
    simpa using this
  · simp only [if_neg h]
    rw [show decide (a = b) = false from decide_eq_false (fun e => h (by rw [e]))]
    exact Ev.now _
theorem sameRecord_ev (a b : S41) (ha : Lens a) : Ev (fun k => laws_sameRecord.f k a.f0 a.f1 a.f2 a.f3 a.f4 a.f5 b.f0 b.f1 b.f2 b.f3 b.f4 b.f5) (sameB a b) := by
  unfold laws_sameRecord.f sameB
  by_cases h0 : a.f0 = b.f0
  · simp only [if_pos h0, decide_eq_true h0, Bool.true_and]
    by_cases h1 : a.f1 = b.f1
    · simp only [if_pos h1, decide_eq_true h1, Bool.true_and]
      cases h2 : (a.f2 == b.f2)
      · simp only [Bool.false_eq_true, if_false, Bool.false_and]
        exact Ev.now _
      · simp only [if_true, Bool.true_and]
        cases h4 : (a.f4 == b.f4)
        · simp only [Bool.false_eq_true, if_false, Bool.false_and]
          exact Ev.now _
        · simp only [if_true, Bool.true_and]
          refine Ev.bind (sameInts_ev _ _ ha.1) ?_
          cases decide (a.f3 = b.f3)
          · exact Ev.now _
          · simp only [if_true, Bool.true_and]
            exact Ev.bind (sameInts_ev _ _ ha.2) (Ev.now _)
    · simp only [if_neg h1, decide_eq_false h1, Bool.false_and]
      exact Ev.now _
  · simp only [if_neg h0, decide_eq_false h0, Bool.false_and]
    exact Ev.now _
instance decR : DecidableEq S41 := fun a b => if h : sameB a b = true then .isTrue ((sameB_iff a b).1 h) else .isFalse (fun e => h ((sameB_iff a b).2 e))
theorem sameRecords_ev (a b : List S41) (ha : RowL a) : Ev (fun k => laws_sameRecords.f k a b) (decide (a = b)) := by
  have ha0 := ha.1
  unfold laws_sameRecords.f
  by_cases h : (a.length : Int) = (b.length : Int)
  · have hl : a.length = b.length := by omega
    simp only [if_pos h]
    have key : ∀ d i, a.length - i = d → Ev (fun k => laws_sameRecords.l0 k a b (i : Int)) (decide (a.drop i = b.drop i)) := by
      intro d
      induction d with
      | zero =>
        intro i hi
        refine Ev.step (fun k => by rw [laws_sameRecords.l0]) ?_
        simp only [if_neg (show ¬ ((i : Int) < (a.length : Int)) by omega)]
        rw [List.drop_of_length_le (by omega), List.drop_of_length_le (by omega)]
        exact Ev.now _
      | succ d ih =>
        intro i hi
        have h1 : i < a.length := by omega
        have h2 : i < b.length := by omega
        refine Ev.step (fun k => by rw [laws_sameRecords.l0]) ?_
        simp only [if_pos (show (i : Int) < (a.length : Int) by omega), if_pos (show (0 : Int) ≤ (i : Int) by omega), if_pos (show (i : Int) < (b.length : Int) by omega), rdR_nat a i h1, rdR_nat b i h2, w64 (a := (i : Int) + 1) (by omega) (by omega)]
        refine Ev.bind (sameRecord_ev _ _ (ha.2 _ (List.getElem_mem _))) ?_
        rw [List.drop_eq_getElem_cons h1, List.drop_eq_getElem_cons h2]
        cases hs : sameB a[i] b[i]
        · have he : a[i] ≠ b[i] := fun e => by rw [(sameB_iff _ _).2 e] at hs; exact Bool.noConfusion hs
          simp only [Bool.false_eq_true, if_false]
          rw [show decide (a[i] :: a.drop (i + 1) = b[i] :: b.drop (i + 1)) = false from decide_eq_false (by simp only [List.cons.injEq, he, false_and, not_false_eq_true])]
          exact Ev.now _
        · have he := (sameB_iff _ _).1 hs
          simp only [if_true]
          rw [show decide (a[i] :: a.drop (i + 1) = b[i] :: b.drop (i + 1)) = decide (a.drop (i + 1) = b.drop (i + 1)) from decide_eq_decide.2 (by simp only [List.cons.injEq, he, true_and])]
          exact ih (i + 1) (by omega)
    have := key a.length 0 (by omega)
    simpa using this
  · simp only [if_neg h]
    rw [show decide (a = b) = false from decide_eq_false (fun e => h (by rw [e]))]
    exact Ev.now _
theorem cmn_self : ∀ (a : List S41), cmn a a = a.length
  | [] => rfl
  | a :: xs => by
    unfold cmn
    rw [if_pos ((sameB_iff a a).2 rfl), cmn_self xs]
    rfl
theorem cmn_take : ∀ (a b : List S41), a.take (cmn a b) = b.take (cmn a b)
  | [], b => by rw [cmn_nil_left]; simp
  | _ :: _, [] => by rw [cmn_nil_right]; simp
  | a :: xs, b :: ys => by
    unfold cmn
    split
    · rename_i h
      rw [List.take_succ_cons, List.take_succ_cons, cmn_take xs ys, (sameB_iff a b).1 h]
    · simp
end Go.Proofs.Ythlnbbehcpdnfaa.Pu

namespace Go.Proofs.Ythlnbbehcpdnfaa.Pu
open Go.RowKit Go.Proofs.YthlnbbehcpdnfaaW.PrintWords Go.Proofs.YthlnbbehcpdnfaaW.PrintLast Go.Proofs.Ythlnbbehcpdnfaa.G
set_option linter.unusedVariables false
set_option linter.unusedSimpArgs false
theorem open_some (l0 : List Int) (hr : ∀ x ∈ l0, 0 ≤ x ∧ x ≤ 255) : ∃ b, spec_l6Open.f l0 = some (b, 0) ∧ CodeOk b := by
  unfold spec_l6Open.f
  by_cases h : (l0.length : Int) > 2000
  · rw [if_pos h, if_pos (by omega)]
    exact ⟨_, rfl, by rw [List.length_take]; omega, fun x hx => hr x (List.mem_of_mem_take hx)⟩
  · rw [if_neg h]
    exact ⟨_, rfl, by omega, hr⟩
/-- What is drawn: at most so many groups, each with a short name and a small number. -/
def DrG (l : List S53) : Prop := l.length ≤ 8 ∧ ∀ g ∈ l, g.f0.size ≤ 7 ∧ 0 ≤ g.f1 ∧ g.f1 ≤ 100
theorem DrG.size {l : List S53} (h : DrG l) : ∀ g ∈ l, g.f0.size ≤ 9223372036854775807 := fun g hg => by have := (h.2 g hg).1; omega
end Go.Proofs.Ythlnbbehcpdnfaa.Pu

namespace Go.Proofs.Ythlnbbehcpdnfaa.Pure
open Go.RowKit Go.Proofs.Ythlnbbehcpdnfaa.G Go.Proofs.YthlnbbehcpdnfaaW.PrintWords Go.Proofs.YthlnbbehcpdnfaaW.PrintLast Go.Proofs.YthlnbbehcpdnfaaW.PrintMore Go.Proofs.Ythlnbbehcpdnfaa.Pu
set_option linter.unusedSimpArgs false
theorem none_iff (a b : List S41) (da : DrR a) (db : DrR b) (hok : (rowOk a && rowOk b) = true) : (aptV a b == (-1)) = decide (a = b) := by
  rw [Bool.eq_iff_iff, beq_iff_eq, decide_eq_true_iff]
  unfold aptV
  rw [if_pos hok]
  have hle := cmn_le a b
  constructor
  · intro h
    by_cases h1 : cmn a b < a.length
    · have f1 := (da.2 _ (List.getElem_mem h1)).2.2.1
      by_cases h2 : cmn a b < b.length
      · have f2 := (db.2 _ (List.getElem_mem h2)).2.2.1
        simp only [List.getElem?_eq_getElem h1, List.getElem?_eq_getElem h2] at h
        unfold mn at h
        split at h <;> omega
      · simp only [List.getElem?_eq_getElem h1, List.getElem?_eq_none (Nat.le_of_not_lt h2)] at h
        omega
    · by_cases h2 : cmn a b < b.length
      · have f2 := (db.2 _ (List.getElem_mem h2)).2.2.1
        simp only [List.getElem?_eq_none (Nat.le_of_not_lt h1), List.getElem?_eq_getElem h2] at h
        omega
      · have := cmn_take a b
        rw [List.take_of_length_le (Nat.le_of_not_lt h1), List.take_of_length_le (Nat.le_of_not_lt h2)] at this
        exact this
  · rintro rfl
    rw [cmn_self]
    simp only [List.getElem?_eq_none (Nat.le_refl _)]
theorem FnApartNone : OFnApartNone.Pure := by
  intro l0 hl0 ho0
  refine EndsIn.rounds ?_
  unfold laws_FnApartNone.f
  have hr := fun x hx => u8_range (ho0 x hx)
  by_cases h : (l0.length : Int) > 1048576
  · simp only [if_pos h]
    exact EndsIn.now _ rfl
  · simp only [if_neg h]
    obtain ⟨c, hc, hok⟩ := open_some l0 hr
    unfold spec_DrawRecordsApart.f
    simp only [hc, bindS]
    refine EndsIn.bind (P := fun r => DrR r.1 ∧ DrR r.2) (EndsIn.bind (alike_ends hok) fun r hr => EndsIn.now _ ⟨hr.1, hr.2⟩) fun q hq => ?_
    obtain ⟨a, b⟩ := q
    obtain ⟨da, db⟩ := hq
    have ra := DrR.rowL da
    have rb := DrR.rowL db
    refine ⟨true, ?_, rfl⟩
    refine Ev.bind (RecordsApart_ev _ _ ra rb) (Ev.bind (sRecordsApart_ev _ _ ra rb) ?_)
    simp only [if_true]
    refine Ev.bind (sRecordsCommon_ev a b ra rb) ?_
    by_cases hv : comV a b < 0
    · simp only [if_pos hv, beq_self_eq_true]
      exact Ev.now _
    · simp only [if_neg hv]
      have hok : (rowOk a && rowOk b) = true := by
        by_cases ho : (rowOk a && rowOk b) = true
        · exact ho
        · exact absurd (show comV a b < 0 by unfold comV; rw [if_neg ho]; omega) hv
      refine Ev.bind (sameRecords_ev a b ra) ?_
      rw [none_iff a b da db hok, beq_self_eq_true]
      exact Ev.now _
end Go.Proofs.Ythlnbbehcpdnfaa.Pure

namespace Go.Proofs.Ythlnbbehcpdnfaa.fnApartNone
open Go.ChangeShapes Go.WideShapes Go.ChangeAt Go.RowKit Go.Proofs.Ythlnbbehcpdnfaa.OFnApartNone Go.Proofs.Ythlnbbehcpdnfaa.G Go.Joins
open Go.ChangeMaps (open_string shut_string)
set_option linter.unusedVariables false
theorem own : ownKnob Try.prog.godebug = none := by kernel_rfl
theorem laidOut : laidOutB Try.prog = true := by kernel_rfl
set_option maxRecDepth 100000 in
theorem lifted (os : Os) (started : os.Started) (H : Type) (enc : TypeId × Value → H) :
    ReturnsInHanded {} Try.checked os 9 .any (Rows.fnApartNoneSpec.pre6 enc Try.prog Try.f9 Rows.fnApartNoneRow.domain false) (Rows.fnApartNoneSpec.post enc Try.prog Try.f9 false true false false) := by
  refine returnsInHanded_of_change_sized (C := Try.checked) own started (by kernel_rfl) Try.func9
    (ChangeSpec.witness6 (enc := enc) (C := Try.checked) false ⟨#[], #[.slice none 0 0], []⟩ 8 (by kernel_rfl) (by kernel_rfl) (by kernel_rfl) (by kernel_rfl)) ?_
  intro W base args ds gs before hval0 hW hcnd hsz0 _
  have hsz : (DataW.weightsEach Try.prog (Try.f9.params.toList ++ Rows.fnApartNoneSpec.plain.varTypes Try.prog) (ds ++ gs)).all (· ≤ reachBytes) = true := hsz0
  have hval : ∀ (j : Nat) t v, Try.f9.params[j]? = some t → args[j]? = some v → Value.okWide Try.prog W .any base t v := hval0
  have hW' := hW
  obtain ⟨p, q, hA0, hV, rfl, hfz, hnd⟩ := hW
  have hA : DataW.TrodAll enc Try.prog W 0 (fun _ => true) true Try.f9.params.toList args.toList ds p := hA0
  rw [Try.params9] at hA hval hsz
  obtain ⟨v0, vs0, d0, ds0, p0, q0, hargs, rfl, rfl, h0, r0⟩ := trodAll_cons hA
  obtain ⟨rfl, rfl, rfl⟩ := trodAll_nil r0
  obtain rfl : args = #[v0] := by cases args; simp_all
  obtain ⟨rfl, rfl⟩ := trodVars_none hV
  obtain ⟨a0, len0, cap0, rfl⟩ := okWide_slice Try.underlying29 (hval 0 29 v0 rfl rfl)
  have k0 := h0
  have lt0 : ∀ x ∈ p0, x.block < W.heap.size := by obtain ⟨m, hm⟩ := k0; exact DataW.trod_lt m _ _ _ hm
  obtain ⟨fuel0, hf0⟩ := h0
  obtain ⟨A0, c0, l0, hcs0, hlc0, hm0, hC0, ho0⟩ := Rd.opens_row Try.underlying29 (Rd.opens_int Try.underlying5 (by kernel_rfl)) hf0
  simp [Value.cells] at hcs0
  obtain ⟨rfl, rfl, rfl⟩ := hcs0
  clear hA0 hval0 hsz0 hsz
  obtain ⟨k, h⟩ := Pure.FnApartNone l0 (Nat.le_trans hlc0 hm0) ho0
  refine (laws_FnApartNone.calls k _ _ l0 true W hC0 hlc0 h).mono fun e W' ⟨he, bel0⟩ => ?_
  subst he
  have bel : Below W.heap.size W W' := bel0
  exact ⟨_, rfl, _, _, _, [], _, [], hW', trodAll_mk1 (shut_bool Try.underlying4 _), (trodAll_cons_mk (Below.trod laidOut (by kernel_rfl) (of_decide_eq_true (by kernel_rfl)) k0 bel lt0) trodAll_mk0), rfl, bel.frame _, fun h => by cases h⟩
theorem over : Rows.fnApartNoneRow.holds Try.pinned (OpenSpec.ofChange Rows.fnApartNoneSpec) :=
  OpenClaim.holds_of_wide 9 Try.f9 rfl rfl rfl rfl rfl rfl rfl ⟨rfl, rfl, rfl, rfl, rfl⟩ rfl rfl rfl rfl rfl (by kernel_rfl) Try.func9 (by kernel_rfl)
    (of_decide_eq_true (by kernel_rfl)) (by unfold Func.isWrapper; first | (rw [if_pos (by decide +kernel)]; kernel_rfl) | (rw [if_neg (by decide +kernel)]; exact ⟨rfl, rfl⟩))
    (fun os started H enc _ => lifted os started H enc)
theorem proved : Rows.FnApartNoneSaid := over
#print axioms proved
end Go.Proofs.Ythlnbbehcpdnfaa.fnApartNone
namespace Go.Proofs.Ythlnbbehcpdnfaa
/-- The row, under a short name, for the claim. -/
theorem fnApartNone_holds : Rows.FnApartNoneSaid := fnApartNone.proved
end Go.Proofs.Ythlnbbehcpdnfaa

