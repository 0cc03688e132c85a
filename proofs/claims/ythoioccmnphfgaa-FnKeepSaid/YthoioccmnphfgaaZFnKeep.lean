/- A text of seat Ythoioccmnphfgaa: what the law FnKeep needs of this repo's texts (by pack.py). Not trusted: Lean checks it. -/
import Derived.Test.YthoioccmnphfgaaKFnKeep10
import Derived.Laws.BitsLemmas
import Derived.Test.YthoioccmnphfgaaRows
import Derived.WalkKit
import Derived.ProofKit
import Derived.OpenShut
import Derived.ShutString
import Derived.ChangeOld
import Derived.Below
import Derived.SizedLaws
import Derived.Lib.SmallJoins
import Derived.Laws.StructEq
import Derived.ChangeSlices
namespace Go.Proofs.Ythoioccmnphfgaa.Pu
open Go.RowKit Go.Proofs.YthoioccmnphfgaaW.PrintWords Go.Proofs.YthoioccmnphfgaaW.PrintLast Go.Proofs.YthoioccmnphfgaaW.PrintMore Go.Proofs.Ythoioccmnphfgaa.G
set_option linter.unusedVariables false
set_option linter.unusedSimpArgs false
theorem or128 (r : Int) (h0 : 0 ≤ r) (h1 : r < 128) : bits .or .i64 r 128 = 128 + r := by
  have h : ∀ x : Fin 128, bits .or .i64 ((x.val : Nat) : Int) 128 = 128 + ((x.val : Nat) : Int) := by decide
  have := h ⟨r.toNat, by omega⟩
  simp only at this
  rwa [show ((r.toNat : Nat) : Int) = r by omega] at this
def varF : Nat → Int → List Int
  | 0, x => [x]
  | n + 1, x => if x < 128 then [x] else (128 + x % 128) :: varF n (x / 128)
def foldI (x : Int) : Int := if x < 0 then -2 * x - 1 else 2 * x
def varV (x : Int) : List Int := varF 10 (foldI x)
theorem varF_len : ∀ (n : Nat) (x : Int), (varF n x).length ≤ n + 1
  | 0, x => by simp [varF]
  | n + 1, x => by
    unfold varF
    have := varF_len n (x / 128)
    split <;> simp <;> omega
theorem varV_len (x : Int) : (varV x).length ≤ 11 := varF_len 10 _
theorem varF_in : ∀ (n : Nat) (x : Int), 0 ≤ x → x ≤ 1000000000000000 → (varF n x).all inI = true
  | 0, x, h0, h1 => by
    simp [varF, inI]
    omega
  | n + 1, x, h0, h1 => by
    unfold varF
    split
    · simp [inI]
      omega
    · have := varF_in n (x / 128) (by omega) (by omega)
      rw [List.all_cons, this, Bool.and_true]
      simp [inI]
      omega
theorem var_loop : ∀ (n : Nat) (x : Int) (acc : List Int), 0 ≤ x → x < 128 * 128 ^ n → acc.length + n ≤ 1000 → Ev (fun k => impl_varOf.l0 k acc x) (acc ++ varF n x)
  | 0, x, acc, h0, h1, h2 => by
    refine Ev.step (fun k => by rw [impl_varOf.l0]) ?_
    simp only [if_pos (show x < 128 by simpa using h1), if_pos (show acc.length < 17592186044416 by omega), varF]
    exact Ev.now _
  | n + 1, x, acc, h0, h1, h2 => by
    refine Ev.step (fun k => by rw [impl_varOf.l0]) ?_
    unfold varF
    by_cases h : x < 128
    · simp only [if_pos h, if_pos (show acc.length < 17592186044416 by omega)]
      exact Ev.now _
    · simp only [if_neg h, if_pos (show acc.length < 17592186044416 by omega), i64_and127, or128 (x % 128) (by omega) (by omega)]
      have h3 : x / 128 < 128 * 128 ^ n := by
        rw [Int.pow_succ, ← Int.mul_assoc] at h1
        exact Int.ediv_lt_of_lt_mul (by omega) h1
      have := var_loop n (x / 128) (acc ++ [128 + x % 128]) (by omega) h3 (by simp; omega)
      rw [List.append_assoc, List.singleton_append] at this
      exact this
theorem svar_loop : ∀ (n : Nat) (x : Int) (acc : List Int), 0 ≤ x → x < 128 * 128 ^ n → x ≤ 1000000000000000 → acc.length + n ≤ 1000 → Ev (fun k => spec_l1Bytes.l0 k x acc) (acc ++ varF n x)
  | 0, x, acc, h0, h1, h4, h2 => by
    refine Ev.step (fun k => by rw [spec_l1Bytes.l0]) ?_
    simp only [if_neg (show ¬ x > 127 by have : x < 128 := by simpa using h1
                                         omega), if_pos (show acc.length < 17592186044416 by omega), varF]
    exact Ev.now _
  | n + 1, x, acc, h0, h1, h4, h2 => by
    refine Ev.step (fun k => by rw [spec_l1Bytes.l0]) ?_
    unfold varF
    by_cases h : x < 128
    · simp only [if_pos h, if_neg (show ¬ x > 127 by omega), if_pos (show acc.length < 17592186044416 by omega)]
      exact Ev.now _
    · have e1 : Int.tdiv x 128 = x / 128 := Int.tdiv_eq_ediv_of_nonneg h0
      have e2 : Int.tmod x 128 = x % 128 := Int.tmod_eq_emod_of_nonneg h0
      simp only [if_neg h, if_pos (show x > 127 by omega), if_pos (show acc.length < 17592186044416 by omega), e1, e2, w64 (a := x / 128) (by omega) (by omega), w64 (a := 128 + x % 128) (by omega) (by omega)]
      have h3 : x / 128 < 128 * 128 ^ n := by
        rw [Int.pow_succ, ← Int.mul_assoc] at h1
        exact Int.ediv_lt_of_lt_mul (by omega) h1
      have := svar_loop n (x / 128) (acc ++ [128 + x % 128]) (by omega) h3 (by omega) (by simp; omega)
      rw [List.append_assoc, List.singleton_append] at this
      exact this
theorem foldI_in {x : Int} (h0 : -1000000 ≤ x) (h1 : x ≤ 1000000) : 0 ≤ foldI x ∧ foldI x ≤ 2000000 := by
  unfold foldI
  split <;> omega
theorem varV_in {x : Int} (h0 : -1000000 ≤ x) (h1 : x ≤ 1000000) : (varV x).all inI = true := varF_in _ _ (foldI_in h0 h1).1 (by have := foldI_in h0 h1; omega)
theorem varOf_ev {x : Int} (h0 : -1000000 ≤ x) (h1 : x ≤ 1000000) : Ev (fun k => impl_varOf.f k x) (varV x) := by
  have hf := foldI_in h0 h1
  have hF : Ev (fun k => impl_FoldNumber.f k x) (foldI x) := by
    unfold impl_FoldNumber.f
    simp only [if_neg (show ¬ x < -1000000 by omega), decide_eq_false (show ¬ x > 1000000 by omega)]
    refine Ev.step (fun k => by rw [impl_FoldNumber.j0]) ?_
    simp only [Bool.false_eq_true, if_false]
    unfold foldI
    by_cases h : x < 0
    · simp only [if_pos h, w64 (a := -2 * x) (by omega) (by omega), w64 (a := -2 * x - 1) (by omega) (by omega)]
      exact Ev.now _
    · simp only [if_neg h, w64 (a := 2 * x) (by omega) (by omega)]
      exact Ev.now _
  unfold impl_varOf.f
  refine Ev.bind hF ?_
  · have := var_loop 10 (foldI x) [] hf.1 (by omega) (by simp)
    exact this
theorem l1Bytes_ev {x : Int} (h0 : -1000000 ≤ x) (h1 : x ≤ 1000000) : Ev (fun k => spec_l1Bytes.f k x) (varV x) := by
  have hf := foldI_in h0 h1
  have e : spec_l1Fold.f x = some (foldI x) := by
    unfold spec_l1Fold.f foldI
    by_cases h : x < 0
    · rw [if_pos h, if_pos h, w64 (a := -2 * x) (by omega) (by omega), w64 (a := -2 * x - 1) (by omega) (by omega)]
    · rw [if_neg h, if_neg h, w64 (a := 2 * x) (by omega) (by omega)]
  unfold spec_l1Bytes.f
  simp only [e, bindS]
  have := svar_loop 10 (foldI x) [] hf.1 (by omega) (by omega) (by simp)
  exact this
def partV (has : Bool) (l : List Int) : List Int := if has = true then varV l.length ++ l else varV (-1)
theorem partV_len (has : Bool) (l : List Int) : (partV has l).length ≤ 11 + l.length := by
  unfold partV
  have := varV_len l.length
  have := varV_len (-1)
  split <;> simp <;> omega
theorem part_ev (has : Bool) (l : List Int) (hl : l.length ≤ 1000) : Ev (fun k => impl_partBytes.f k has l) (partV has l) := by
  unfold impl_partBytes.f partV
  have := varV_len l.length
  cases has
  · simp only [Bool.false_eq_true, if_false]
    exact Ev.bind (varOf_ev (by omega) (by omega)) (Ev.now _)
  · simp only [if_true]
    refine Ev.bind (varOf_ev (by omega) (by omega)) ?_
    simp only [if_pos (show (varV (l.length : Int)).length + l.length < 17592186044416 by omega)]
    exact Ev.now _
theorem spart_ev (has : Bool) (l : List Int) (hl : l.length ≤ 1000) : Ev (fun k => spec_l3Put.f k has l) (partV has l) := by
  unfold spec_l3Put.f partV
  have := varV_len l.length
  cases has
  · simp only [Bool.false_eq_true, if_false]
    exact Ev.bind (l1Bytes_ev (by omega) (by omega)) (Ev.now _)
  · simp only [if_true]
    refine Ev.bind (l1Bytes_ev (by omega) (by omega)) ?_
    simp only [if_pos (show (varV (l.length : Int)).length + l.length < 17592186044416 by omega)]
    exact Ev.now _
def recB (r : S63) (o t : Int) : List Int := varV (r.f1 - t) ++ varV (r.f0 - o) ++ partV r.f2 r.f3 ++ partV r.f4 r.f5
def recV (r : S63) (o t : Int) : List Int := varV (recB r o t).length ++ recB r o t
/-- A record of a valid batch. -/
structure RecS (r : S63) : Prop where
  a0 : 0 ≤ r.f0
  a1 : r.f0 ≤ 99999
  b0 : 0 ≤ r.f1
  b1 : r.f1 ≤ 99999
  k : r.f3.length ≤ 12
  v : r.f5.length ≤ 12
  ki : r.f3.all inI = true
  vi : r.f5.all inI = true
theorem recB_len {r : S63} (h : RecS r) (o t : Int) : (recB r o t).length ≤ 68 := by
  unfold recB
  have := h.k
  have := h.v
  have := varV_len (r.f1 - t)
  have := varV_len (r.f0 - o)
  have := partV_len r.f2 r.f3
  have := partV_len r.f4 r.f5
  simp only [List.length_append]
  omega
theorem recV_len {r : S63} (h : RecS r) (o t : Int) : (recV r o t).length ≤ 79 := by
  unfold recV
  have := recB_len h o t
  have := varV_len (recB r o t).length
  rw [List.length_append]
  omega
theorem partV_in {has : Bool} {l : List Int} (hl : l.length ≤ 12) (h : l.all inI = true) : (partV has l).all inI = true := by
  unfold partV
  split
  · rw [List.all_append, h, varV_in (by omega) (by omega)]
    rfl
  · exact varV_in (by omega) (by omega)
theorem recV_in {r : S63} (h : RecS r) {o t : Int} (ho : 0 ≤ o ∧ o ≤ 99999) (ht : 0 ≤ t ∧ t ≤ 99999) : (recV r o t).all inI = true := by
  have h1 := recB_len h o t
  obtain ⟨a0, a1, b0, b1, k, v, ki, vi⟩ := h
  unfold recV
  rw [List.all_append, varV_in (by omega) (by omega)]
  unfold recB
  simp only [List.all_append, varV_in (x := r.f1 - t) (by omega) (by omega), varV_in (x := r.f0 - o) (by omega) (by omega), partV_in k ki, partV_in v vi, Bool.and_self]
theorem rec_ev {r : S63} (h : RecS r) {o t : Int} (ho : 0 ≤ o ∧ o ≤ 99999) (ht : 0 ≤ t ∧ t ≤ 99999) : Ev (fun k => impl_Record_bytesFor.f k r.f0 r.f1 r.f2 r.f3 r.f4 r.f5 o t) (recV r o t) := by
  have h1 := recB_len h o t
  have h2 := varV_len (recB r o t).length
  obtain ⟨a0, a1, b0, b1, k, v, ki, vi⟩ := h
  unfold impl_Record_bytesFor.f
  have e1 := varV_len (r.f1 - t)
  have e2 := varV_len (r.f0 - o)
  have e3 := partV_len r.f2 r.f3
  have e4 := partV_len r.f4 r.f5
  simp only [w64 (a := r.f1 - t) (by omega) (by omega), w64 (a := r.f0 - o) (by omega) (by omega)]
  refine Ev.bind (varOf_ev (by omega) (by omega)) (Ev.bind (varOf_ev (by omega) (by omega)) ?_)
  simp only [if_pos (show (varV (r.f1 - t)).length + (varV (r.f0 - o)).length < 17592186044416 by omega), bindS]
  refine Ev.bind (part_ev _ _ (by omega)) ?_
  simp only [if_pos (show (varV (r.f1 - t) ++ varV (r.f0 - o)).length + (partV r.f2 r.f3).length < 17592186044416 by simp only [List.length_append]; omega), bindS]
  refine Ev.bind (part_ev _ _ (by omega)) ?_
  simp only [if_pos (show (varV (r.f1 - t) ++ varV (r.f0 - o) ++ partV r.f2 r.f3).length + (partV r.f4 r.f5).length < 17592186044416 by simp only [List.length_append]; omega), bindS]
  refine Ev.bind (varOf_ev (x := ((recB r o t).length : Int)) (by omega) (by omega)) ?_
  change Ev (fun k => if (varV ((recB r o t).length : Int)).length + (recB r o t).length < 17592186044416 then some (varV ((recB r o t).length : Int) ++ recB r o t) else none) _
  simp only [if_pos (show (varV ((recB r o t).length : Int)).length + (recB r o t).length < 17592186044416 by omega)]
  exact Ev.now _
theorem srec_ev {r : S63} (h : RecS r) {o t : Int} (ho : 0 ≤ o ∧ o ≤ 99999) (ht : 0 ≤ t ∧ t ≤ 99999) : Ev (fun k => spec_l3Bytes.f k r.f0 r.f1 r.f2 r.f3 r.f4 r.f5 o t) (recV r o t) := by
  have h1 := recB_len h o t
  have h2 := varV_len (recB r o t).length
  obtain ⟨a0, a1, b0, b1, k, v, ki, vi⟩ := h
  unfold spec_l3Bytes.f
  have e1 := varV_len (r.f1 - t)
  have e2 := varV_len (r.f0 - o)
  have e3 := partV_len r.f2 r.f3
  have e4 := partV_len r.f4 r.f5
  simp only [w64 (a := r.f1 - t) (by omega) (by omega), w64 (a := r.f0 - o) (by omega) (by omega)]
  refine Ev.bind (l1Bytes_ev (by omega) (by omega)) (Ev.bind (l1Bytes_ev (by omega) (by omega)) ?_)
  simp only [if_pos (show (varV (r.f1 - t)).length + (varV (r.f0 - o)).length < 17592186044416 by omega), bindS]
  refine Ev.bind (spart_ev _ _ (by omega)) ?_
  simp only [if_pos (show (varV (r.f1 - t) ++ varV (r.f0 - o)).length + (partV r.f2 r.f3).length < 17592186044416 by simp only [List.length_append]; omega), bindS]
  refine Ev.bind (spart_ev _ _ (by omega)) ?_
  simp only [if_pos (show (varV (r.f1 - t) ++ varV (r.f0 - o) ++ partV r.f2 r.f3).length + (partV r.f4 r.f5).length < 17592186044416 by simp only [List.length_append]; omega), bindS]
  refine Ev.bind (l1Bytes_ev (x := ((recB r o t).length : Int)) (by omega) (by omega)) ?_
  change Ev (fun k => if (varV ((recB r o t).length : Int)).length + (recB r o t).length < 17592186044416 then some (varV ((recB r o t).length : Int) ++ recB r o t) else none) _
  simp only [if_pos (show (varV ((recB r o t).length : Int)).length + (recB r o t).length < 17592186044416 by omega)]
  exact Ev.now _
end Go.Proofs.Ythoioccmnphfgaa.Pu

namespace Go.Proofs.Ythoioccmnphfgaa.Pu
open Go.RowKit Go.Proofs.YthoioccmnphfgaaW.PrintWords Go.Proofs.YthoioccmnphfgaaW.PrintLast Go.Proofs.YthoioccmnphfgaaW.PrintMore Go.Proofs.Ythoioccmnphfgaa.G
set_option linter.unusedVariables false
set_option linter.unusedSimpArgs false
theorem getD_nat (l : List Int) (i : Nat) (h : i < l.length) : l.getD i 0 = rd l (i : Int) := by rw [rdi_nat l i h, getD_lt l i h]
theorem long_loop (l : List Int) (hl : l.length ≤ 1000) (z b : Nat) (hb : b ≤ z) (hz : z < l.length) : ∀ (d n : Nat), 66 - n = d → n ≤ 66 → Ev (fun k => spec_l4Long.l0 k l (z : Int) (b : Int) (n : Int)) ((n + alike (66 - n) (l.drop (z - b + n)) (l.drop (z + n)) : Nat) : Int) := by
  intro d
  induction d with
  | zero =>
    intro n hd hn
    obtain rfl : n = 66 := by omega
    refine Ev.step (fun k => by rw [spec_l4Long.l0]) ?_
    simp only [w64 (a := (z : Int) + (66 : Nat)) (by omega) (by omega)]
    have e : alike (66 - 66) (l.drop (z - b + 66)) (l.drop (z + 66)) = 0 := (alike_at l (z - b) z 66 (by omega)).2 (by omega) (by omega)
    rw [e]
    by_cases h : ((z : Int) + (66 : Nat)) < (l.length : Int)
    · simp only [if_pos h, if_neg (show ¬ (((66 : Nat) : Int) < 66) by omega)]
      exact Ev.now _
    · simp only [if_neg h]
      exact Ev.now _
  | succ d ih =>
    intro n hd hn
    obtain ⟨h1, h2⟩ := alike_at l (z - b) z n hn
    refine Ev.step (fun k => by rw [spec_l4Long.l0]) ?_
    simp only [w64 (a := (z : Int) + (n : Int)) (by omega) (by omega), w64 (a := (z : Int) + (n : Int) - (b : Int)) (by omega) (by omega), w64 (a := (n : Int) + 1) (by omega) (by omega), if_pos (show (n : Int) < 66 by omega)]
    by_cases h : z + n < l.length
    · have e1 : (z : Int) + (n : Int) = ((z + n : Nat) : Int) := by omega
      have e2 : ((z + n : Nat) : Int) - (b : Int) = ((z - b + n : Nat) : Int) := by omega
      simp only [e1, e2, if_pos (show ((z + n : Nat) : Int) < (l.length : Int) by omega), if_pos (show (0 : Int) ≤ ((z + n : Nat) : Int) by omega), if_pos (show (0 : Int) ≤ ((z - b + n : Nat) : Int) by omega), if_pos (show ((z - b + n : Nat) : Int) < (l.length : Int) by omega)]
      rw [← getD_nat l (z + n) h, ← getD_nat l (z - b + n) (by omega)]
      by_cases he : l.getD (z - b + n) 0 = l.getD (z + n) 0
      · simp only [if_pos he.symm]
        rw [h1 ⟨by omega, h, he, by omega⟩]
        have := ih (n + 1) (by omega) (by omega)
        rw [show n + (alike (66 - (n + 1)) (l.drop (z - b + (n + 1))) (l.drop (z + (n + 1))) + 1) = n + 1 + alike (66 - (n + 1)) (l.drop (z - b + (n + 1))) (l.drop (z + (n + 1))) by omega]
        exact_mod_cast this
      · simp only [if_neg (fun e => he (Eq.symm e))]
        rw [h2 (fun h => he h.2.2) (by omega)]
        exact Ev.now _
    · simp only [if_neg (show ¬ ((z : Int) + (n : Int) < (l.length : Int)) by omega)]
      rw [h2 (fun h' => h h'.2.1) (by omega)]
      exact Ev.now _
theorem long_ev (l : List Int) (hl : l.length ≤ 1000) (z b : Nat) (hb : b ≤ z) (hz : z < l.length) : Ev (fun k => spec_l4Long.f k l (z : Int) (b : Int)) ((nAt l z b : Nat) : Int) := by
  unfold spec_l4Long.f nAt
  have := long_loop l hl z b hb hz 66 0 (by omega) (by omega)
  simpa using this
theorem best_loop (l : List Int) (hl : l.length ≤ 1000) (z : Nat) (hz : z < l.length) : ∀ (d c : Nat) (s : Nat × Nat), min z 200 + 1 - c = d → 1 ≤ c → c ≤ min z 200 + 1 → Ev (fun k => spec_l4Best.l0 k l (z : Int) (s.2 : Int) (s.1 : Int) (c : Int)) (((best (nAt l z) (List.range' c (min z 200 + 1 - c)) s).1 : Int), ((best (nAt l z) (List.range' c (min z 200 + 1 - c)) s).2 : Int)) := by
  have hm : mn (z : Int) 200 = ((min z 200 : Nat) : Int) := by unfold mn; split <;> omega
  intro d
  induction d with
  | zero =>
    intro c s hd h1 hc
    refine Ev.step (fun k => by rw [spec_l4Best.l0]) ?_
    simp only [hm, if_neg (show ¬ ((c : Int) ≤ ((min z 200 : Nat) : Int)) by omega), hd, List.range'_zero, best]
    exact Ev.now _
  | succ d ih =>
    intro c s hd h1 hc
    refine Ev.step (fun k => by rw [spec_l4Best.l0]) ?_
    simp only [hm, if_pos (show (c : Int) ≤ ((min z 200 : Nat) : Int) by omega), w64 (a := (c : Int) + 1) (by omega) (by omega)]
    refine Ev.bind (long_ev l hl z c (by omega) hz) ?_
    rw [hd, List.range'_succ, best]
    have hd2 : min z 200 + 1 - (c + 1) = d := by omega
    by_cases h : s.1 < nAt l z c
    · simp only [if_pos (show ((nAt l z c : Nat) : Int) > (s.1 : Int) by omega), if_pos h]
      have := ih (c + 1) (nAt l z c, c) hd2 (by omega) (by omega)
      rw [hd2] at this
      exact_mod_cast this
    · simp only [if_neg (show ¬ ((nAt l z c : Nat) : Int) > (s.1 : Int) by omega), if_neg h]
      have := ih (c + 1) s hd2 (by omega) (by omega)
      rw [hd2] at this
      exact_mod_cast this
theorem best_ev (l : List Int) (hl : l.length ≤ 1000) (z : Nat) (hz : z < l.length) : Ev (fun k => spec_l4Best.f k l (z : Int)) (((specM l z).1 : Int), ((specM l z).2 : Int)) := by
  unfold spec_l4Best.f specM
  have := best_loop l hl z hz (min z 200) 1 (0, 0) (by omega) (by omega) (by omega)
  simpa using this
theorem plain_loop (l : List Int) (hl : l.length ≤ 1000) : ∀ (f from_ : Nat) (acc : List Int), l.length - from_ ≤ f → from_ ≤ 2000 → acc.length ≤ 2000 + 70 * from_ → Ev (fun k => spec_l4Plain.l0 k l acc (from_ : Int)) (acc ++ plainF f (l.drop from_)) := by
  intro f
  induction f with
  | zero =>
    intro i acc hf hi ha
    refine Ev.step (fun k => by rw [spec_l4Plain.l0]) ?_
    simp only [if_neg (show ¬ ((i : Int) < (l.length : Int)) by omega), plainF, List.append_nil]
    exact Ev.now _
  | succ f ih =>
    intro i acc hf hi ha
    refine Ev.step (fun k => by rw [spec_l4Plain.l0]) ?_
    by_cases h : i < l.length
    · have hne : l.drop i ≠ [] := fun e => by
        have := congrArg List.length e
        simp at this
        omega
      obtain ⟨t, ht⟩ : ∃ t, t = min (i + 64) l.length := ⟨_, rfl⟩
      have hm : mn ((i : Int) + 64) (l.length : Int) = (t : Int) := by unfold mn; split <;> omega
      have hlt : ((l.take t).drop i) = (l.drop i).take 64 := by
        rw [List.drop_take]
        rcases Nat.lt_or_ge (i + 64) l.length with h1 | h1
        · rw [show t - i = 64 by omega]
        · rw [List.take_of_length_le (by rw [List.length_drop]; omega), List.take_of_length_le (by rw [List.length_drop]; omega)]
      have hlen : ((l.drop i).take 64).length = t - i := by rw [List.length_take, List.length_drop]; omega
      simp only [if_pos (show (i : Int) < (l.length : Int) by omega), if_pos (show acc.length < 17592186044416 by omega), bindS, w64 (a := (i : Int) + 64) (by omega) (by omega), hm, w64 (a := (t : Int) - (i : Int)) (by omega) (by omega), w64 (a := (t : Int) - (i : Int) - 1) (by omega) (by omega), if_pos (show (0 : Int) ≤ (i : Int) by omega), if_pos (show (i : Int) ≤ (t : Int) by omega), if_pos (show (t : Int) ≤ (l.length : Int) by omega), Int.toNat_natCast, hlt, hlen]
      simp only [if_pos (show (acc ++ [(t : Int) - (i : Int) - 1]).length + (t - i) < 17592186044416 by rw [List.length_append]; simp; omega)]
      have := ih (i + 64) (acc ++ [(t : Int) - (i : Int) - 1] ++ (l.drop i).take 64) (by omega) (by omega) (by rw [List.length_append, List.length_append, hlen]; simp; omega)
      rw [plainF, if_neg hne, hlen, List.drop_drop]
      rw [show ((t - i : Nat) : Int) = (t : Int) - (i : Int) by omega]
      rw [Int.natCast_add] at this
      have e5 : acc ++ [(t : Int) - (i : Int) - 1] ++ (l.drop i).take 64 ++ plainF f (l.drop (i + 64)) = acc ++ (((t : Int) - (i : Int) - 1) :: ((l.drop i).take 64 ++ plainF f (l.drop (i + 64)))) := by simp
      rw [e5] at this
      exact this
    · simp only [if_neg (show ¬ ((i : Int) < (l.length : Int)) by omega)]
      rw [List.drop_of_length_le (by omega), plainF, if_pos rfl, List.append_nil]
      exact Ev.now _
theorem plain_ev (l : List Int) (hl : l.length ≤ 1000) : Ev (fun k => spec_l4Plain.f k l) (plainV l) := by
  unfold spec_l4Plain.f plainV
  have := plain_loop l hl l.length 0 [] (by omega) (by omega) (by simp)
  simpa using this
theorem specM_le (l : List Int) (z : Nat) : (specM l z).1 ≤ 66 := by
  unfold specM
  have : ∀ (ps : List Nat) (s : Nat × Nat), s.1 ≤ 66 → (best (nAt l z) ps s).1 ≤ 66 := by
    intro ps
    induction ps with
    | nil => intro s h; exact h
    | cons p ps ih =>
      intro s h
      unfold best
      refine ih _ ?_
      split
      · exact alike_le_m 66 _ _
      · exact h
  exact this _ _ (Nat.zero_le _)
theorem pack_loop (l : List Int) (hl : l.length ≤ 1000) : ∀ (f z : Nat) (out plain : List Int), l.length + 1 ≤ f + z → z ≤ l.length + 66 → out.length + 2 * plain.length ≤ 2 * z → plain.length ≤ 1000 → (z < l.length → plain.length ≤ z) → Ev (fun k => spec_l4Pack.l0 k l out plain (z : Int)) (packW (specM l) l f z out plain) := by
  intro f
  induction f with
  | zero =>
    intro z out plain hf hz hb hp hpz
    have hpl := plainV_len plain
    refine Ev.step (fun k => by rw [spec_l4Pack.l0]) ?_
    simp only [if_neg (show ¬ ((z : Int) < (l.length : Int)) by omega)]
    refine Ev.bind (plain_ev plain hp) ?_
    simp only [if_pos (show out.length + (plainV plain).length < 17592186044416 by omega), packW]
    exact Ev.now _
  | succ f ih =>
    intro z out plain hf hz hb hp hpz
    have hpl := plainV_len plain
    refine Ev.step (fun k => by rw [spec_l4Pack.l0]) ?_
    by_cases h : z < l.length
    · have hM := specM_le l z
      simp only [if_pos (show (z : Int) < (l.length : Int) by omega)]
      refine Ev.bind (best_ev l hl z h) ?_
      have hpz2 := hpz h
      by_cases h3 : (specM l z).1 < 3
      · rw [packW_lt _ _ _ _ _ _ h h3]
        simp only [if_pos (show ((specM l z).1 : Int) < 3 by omega), if_pos (show (0 : Int) ≤ (z : Int) by omega), if_pos (show plain.length < 17592186044416 by omega), w64 (a := (z : Int) + 1) (by omega) (by omega), ← getD_nat l z h]
        have := ih (z + 1) out (plain ++ [l.getD z 0]) (by omega) (by omega) (by rw [List.length_append]; simp; omega) (by rw [List.length_append]; simp; omega) (fun _ => by rw [List.length_append]; simp; omega)
        exact_mod_cast this
      · rw [packW_ge _ _ _ _ _ _ h h3]
        simp only [if_neg (show ¬ ((specM l z).1 : Int) < 3 by omega)]
        refine Ev.bind (plain_ev plain hp) ?_
        simp only [if_pos (show out.length + (plainV plain).length < 17592186044416 by omega), bindS, w64 (a := 64 + ((specM l z).1 : Int)) (by omega) (by omega), w64 (a := 64 + ((specM l z).1 : Int) - 3) (by omega) (by omega), w64 (a := (z : Int) + ((specM l z).1 : Int)) (by omega) (by omega)]
        rw [show 64 + ((specM l z).1 : Int) - 3 = ((specM l z).1 : Int) + 61 by omega]
        have hlen : (out ++ plainV plain).length + [((specM l z).1 : Int) + 61, ((specM l z).2 : Int)].length < 17592186044416 := by rw [List.length_append]; simp; omega
        simp only [if_pos hlen]
        have := ih (z + (specM l z).1) (out ++ plainV plain ++ [((specM l z).1 : Int) + 61, ((specM l z).2 : Int)]) [] (by omega) (by omega) (by rw [List.length_append, List.length_append]; simp; omega) (by simp) (fun _ => by simp)
        exact_mod_cast this
    · have e : packW (specM l) l (f + 1) z out plain = out ++ plainV plain := by rw [packW, if_neg h]
      simp only [if_neg (show ¬ ((z : Int) < (l.length : Int)) by omega), e]
      refine Ev.bind (plain_ev plain hp) ?_
      simp only [if_pos (show out.length + (plainV plain).length < 17592186044416 by omega)]
      exact Ev.now _
def PK (l : List Int) : List Int := packW (implM l) l (l.length + 1) 0 [] []
theorem spack_ev (l : List Int) (hl : l.length ≤ 1000) : Ev (fun k => spec_l4Pack.f k l) (PK l) := by
  unfold spec_l4Pack.f PK
  have := pack_loop l hl (l.length + 1) 0 [] [] (by omega) (by omega) (by simp) (by simp) (fun _ => by simp)
  rw [pack_same] at this
  exact this
theorem pack_ev (l : List Int) (hl : l.length ≤ 1000) (hi : l.all inI = true) : Ev (fun k => impl_pack.f k l) (PK l) := by
  unfold impl_pack.f PK
  simp only [if_pos (And.intro hl hi)]
  exact Ev.now _
theorem packW_len (M : Nat → Nat × Nat) (l : List Int) : ∀ k z (out plain : List Int), (packW M l k z out plain).length ≤ out.length + 2 * plain.length + 2 * k
  | 0, z, out, plain => by
    have := plainV_len plain
    rw [packW, List.length_append]
    omega
  | k + 1, z, out, plain => by
    have hp := plainV_len plain
    rw [packW]
    split
    · split
      · have := packW_len M l k (z + 1) out (plain ++ [l.getD z 0])
        rw [List.length_append] at this
        simp at this ⊢
        omega
      · have := packW_len M l k (z + (M z).1) (out ++ plainV plain ++ [((M z).1 : Int) + 61, ((M z).2 : Int)]) []
        rw [List.length_append, List.length_append] at this
        simp at this ⊢
        omega
    · rw [List.length_append]
      omega
theorem PK_len (l : List Int) (hl : l.length ≤ 1000) : (PK l).length ≤ 2002 := by
  have := packW_len (implM l) l (l.length + 1) 0 [] []
  unfold PK
  simp at this
  omega
end Go.Proofs.Ythoioccmnphfgaa.Pu

namespace Go.Proofs.Ythoioccmnphfgaa.Pu
open Go.RowKit Go.Proofs.YthoioccmnphfgaaW.PrintWords Go.Proofs.YthoioccmnphfgaaW.PrintLast Go.Proofs.YthoioccmnphfgaaW.PrintMore Go.Proofs.Ythoioccmnphfgaa.G
set_option linter.unusedVariables false
set_option linter.unusedSimpArgs false
set_option maxRecDepth 100000
theorem EndsIn.ev_bind {α β : Type} {g : Nat → Option α} {f : Nat → α → Option β} {a : α} {Q : β → Prop} (h : Ev g a) (k : EndsIn (fun n => f n a) Q) : EndsIn (fun n => (g n).bind (f n)) Q := ⟨k.choose, Ev.bind h k.choose_spec.1, k.choose_spec.2⟩
theorem isB_inI {x : Int} (h : isB x = true) : inI x = true := by
  have := (isB_iff x).1 h
  simp [inI]
  omega
theorem part_S {has : Bool} {l : List Int} (h : partOk has l = true) : l.length ≤ 12 ∧ l.all inI = true := by
  unfold partOk at h
  cases has
  · simp only [Bool.false_eq_true, if_false, decide_eq_true_eq] at h
    obtain rfl : l = [] := List.eq_nil_of_length_eq_zero h
    simp
  · simp only [if_true, Bool.and_eq_true, decide_eq_true_eq] at h
    exact ⟨h.1, List.all_eq_true.2 fun x hx => isB_inI (List.all_eq_true.1 h.2 x hx)⟩
theorem recS_of {r : S63} (h : recOk r = true) : RecS r := by
  unfold recOk rng at h
  simp only [Bool.and_eq_true, decide_eq_true_eq] at h
  obtain ⟨⟨h1, h2⟩, h3, h4⟩ := h
  have p1 := part_S h3
  have p2 := part_S h4
  exact ⟨h1.1, h1.2, h2.1, h2.2, p1.1, p2.1, p1.2, p2.2⟩
theorem int_loop (a : Int) (n : Nat) (hn : n ≤ 10) : ∀ (d i : Nat) (x : List Int), n - i = d → i ≤ n → x.length = n → EndsIn (fun k => impl_intOf.l0 k a (n : Int) x (n : Int) (i : Int)) (fun r => r.length = n) := by
  intro d
  induction d with
  | zero =>
    intro i x hd hi hx
    refine EndsIn.step (fun k => by rw [impl_intOf.l0]) ?_
    simp only [if_neg (show ¬ ((i : Int) < (n : Int)) by omega)]
    exact EndsIn.now _ hx
  | succ d ih =>
    intro i x hd hi hx
    refine EndsIn.step (fun k => by rw [impl_intOf.l0]) ?_
    simp only [if_pos (show (i : Int) < (n : Int) by omega), w64 (a := 8 * (i : Int)) (by omega) (by omega), w64 (a := (n : Int) - 1) (by omega) (by omega), w64 (a := (n : Int) - 1 - (i : Int)) (by omega) (by omega), if_pos (show (0 : Int) ≤ 8 * (i : Int) by omega), if_pos (show (0 : Int) ≤ (n : Int) - 1 - (i : Int) by omega), if_pos (show (n : Int) - 1 - (i : Int) < (x.length : Int) by omega), w64 (a := (i : Int) + 1) (by omega) (by omega)]
    have := ih (i + 1) (x.set ((n : Int) - 1 - (i : Int)).toNat (Go.bits .and .i64 (shr .i64 a (8 * (i : Int))) 255)) (by omega) (by omega) (by rw [List.length_set]; exact hx)
    exact_mod_cast this
theorem intOf_ends (a : Int) (n : Nat) (hn : n ≤ 10) : EndsIn (fun k => impl_intOf.f k a (n : Int)) (fun r => r.length = n) := by
  unfold impl_intOf.f
  simp only [if_pos (show (0 : Int) ≤ (n : Int) by omega), Int.toNat_natCast, if_pos (show n ≤ 35184372088832 by omega), bindS, List.length_replicate]
  have := int_loop a n hn n 0 (List.replicate n 0) (by omega) (by omega) (by simp)
  exact this
theorem sint_loop (n : Nat) (hn : n ≤ 10) : ∀ (m : Nat) (a : Int) (x : List Int), m ≤ n → x.length = n → EndsIn (fun k => spec_l2Int.l0 k a x ((m : Int) - 1)) (fun r => r.length = n) := by
  intro m
  induction m with
  | zero =>
    intro a x hm hx
    refine EndsIn.step (fun k => by rw [spec_l2Int.l0]) ?_
    simp only [if_neg (show ¬ (((0 : Nat) : Int) - 1 ≥ 0) by omega)]
    exact EndsIn.now _ hx
  | succ m ih =>
    intro a x hm hx
    refine EndsIn.step (fun k => by rw [spec_l2Int.l0]) ?_
    simp only [if_pos (show ((m + 1 : Nat) : Int) - 1 ≥ 0 by omega), if_pos (show (0 : Int) ≤ ((m + 1 : Nat) : Int) - 1 by omega), if_pos (show ((m + 1 : Nat) : Int) - 1 < (x.length : Int) by omega), w64 (a := ((m + 1 : Nat) : Int) - 1 - 1) (by omega) (by omega)]
    have := ih (wrap64 (Int.tdiv a 256)) (x.set (((m + 1 : Nat) : Int) - 1).toNat (Int.tmod a 256)) (by omega) (by rw [List.length_set]; exact hx)
    rw [show ((m + 1 : Nat) : Int) - 1 - 1 = (m : Int) - 1 by omega]
    exact this
theorem l2Int_ends (a : Int) (n : Nat) (hn : n ≤ 10) : EndsIn (fun k => spec_l2Int.f k a (n : Int)) (fun r => r.length = n) := by
  unfold spec_l2Int.f
  simp only [if_pos (show (0 : Int) ≤ (n : Int) by omega), Int.toNat_natCast, if_pos (show n ≤ 35184372088832 by omega), w64 (a := (n : Int) - 1) (by omega) (by omega)]
  exact sint_loop n hn n a (List.replicate n 0) (Nat.le_refl _) (by simp)
theorem sum_loop (l : List Int) (hl : l.length ≤ 100000) : ∀ (d i : Nat) (s : Int), l.length - i = d → i ≤ l.length → EndsIn (fun k => impl_sum_over.l0 k s l (l.length : Int) (i : Int)) (fun _ => True) := by
  intro d
  induction d with
  | zero =>
    intro i s hd hi
    refine EndsIn.step (fun k => by rw [impl_sum_over.l0]) ?_
    simp only [if_neg (show ¬ ((i : Int) < (l.length : Int)) by omega)]
    exact EndsIn.now _ trivial
  | succ d ih =>
    intro i s hd hi
    have c1 : (i : Int) < (l.length : Int) := by omega
    have c2 : (0 : Int) ≤ (i : Int) := by omega
    have := ih (i + 1) (Int.tmod (wrap64 (wrap64 (257 * s) + rd l (i : Int))) 65521) (by omega) (by omega)
    rw [Int.natCast_add] at this
    refine EndsIn.step (fun k => ?_) this
    rw [impl_sum_over.l0, if_pos c1, if_pos c2, if_pos c1, impl_sum_with.f, bindS, w64 (a := (i : Int) + 1) (by omega) (by omega)]
    rfl
theorem ssum_loop (l : List Int) (hl : l.length ≤ 100000) : ∀ (d i : Nat) (s : Int), l.length - i = d → i ≤ l.length → EndsIn (fun k => spec_l2Sum.l0 k l s (i : Int)) (fun _ => True) := by
  intro d
  induction d with
  | zero =>
    intro i s hd hi
    refine EndsIn.step (fun k => by rw [spec_l2Sum.l0]) ?_
    simp only [if_neg (show ¬ ((i : Int) < (l.length : Int)) by omega)]
    exact EndsIn.now _ trivial
  | succ d ih =>
    intro i s hd hi
    have c1 : (i : Int) < (l.length : Int) := by omega
    have c2 : (0 : Int) ≤ (i : Int) := by omega
    have := ih (i + 1) (Int.tmod (wrap64 (wrap64 (257 * s) + rd l (i : Int))) 65521) (by omega) (by omega)
    rw [Int.natCast_add] at this
    refine EndsIn.step (fun k => ?_) this
    rw [spec_l2Sum.l0, if_pos c1, if_pos c2, w64 (a := (i : Int) + 1) (by omega) (by omega)]
    rfl
/-- The records of a valid batch, as1 bytes. -/
def rowsV (l : List S63) (o t : Int) : List Int := l.flatMap fun r => recV r o t
theorem rowsV_len (o t : Int) : ∀ l : List S63, (∀ r ∈ l, RecS r) → (rowsV l o t).length ≤ 79 * l.length
  | [], _ => by simp [rowsV]
  | r :: l, h => by
    have h1 := rowsV_len o t l fun x hx => h x (List.mem_cons_of_mem _ hx)
    have h2 := recV_len (h r (List.mem_cons_self ..)) o t
    unfold rowsV at h1 ⊢
    rw [List.flatMap_cons, List.length_append, List.length_cons]
    omega
theorem rowsV_in {o t : Int} (ho : 0 ≤ o ∧ o ≤ 99999) (ht : 0 ≤ t ∧ t ≤ 99999) : ∀ l : List S63, (∀ r ∈ l, RecS r) → (rowsV l o t).all inI = true
  | [], _ => by simp [rowsV]
  | r :: l, h => by
    have h1 := rowsV_in ho ht l fun x hx => h x (List.mem_cons_of_mem _ hx)
    have h2 := recV_in (h r (List.mem_cons_self ..)) ho ht
    unfold rowsV at h1 ⊢
    rw [List.flatMap_cons, List.all_append, h1, h2]
    rfl
structure BatR (l : List S63) : Prop where
  h0 : 0 < l.length
  h6 : l.length ≤ 6
  recs : ∀ r ∈ l, RecS r
theorem batR_of {b : S46} (h : batOk b = true) : BatR b.f5 := by
  have h1 := batOk_len h
  refine ⟨by omega, h1.2, fun r hr => ?_⟩
  obtain ⟨i, hi, rfl⟩ := List.getElem_of_mem hr
  exact recS_of (batOk_rec h i hi)
def bodyV (b : S46) : List Int := if b.f0 = true then PK (rowsV b.f5 (rd_T63 b.f5 0).f0 (rd_T63 b.f5 0).f1) else rowsV b.f5 (rd_T63 b.f5 0).f0 (rd_T63 b.f5 0).f1
def batLen (b : S46) : Nat := 18 + (bodyV b).length
theorem BatR.first {l : List S63} (h : BatR l) : RecS (rd_T63 l 0) := by
  have := rdR_nat l 0 h.h0
  rw [show ((0 : Nat) : Int) = 0 from rfl] at this
  rw [this]
  exact h.recs _ (List.getElem_mem _)
theorem body_len {b : S46} (h : BatR b.f5) : (bodyV b).length ≤ 2002 := by
  have h1 := rowsV_len (rd_T63 b.f5 0).f0 (rd_T63 b.f5 0).f1 b.f5 h.recs
  have h6 := h.h6
  unfold bodyV
  split
  · exact PK_len _ (by omega)
  · omega
theorem j2_ends (body : List Int) (hb : body.length ≤ 2002) (fl : Int) (a0 a1 : Bool) (x2 x3 x4 : Int) (l : List S63) (g0 g1 : Int) (g2 : Bool) (g3 : List Int) (g4 : Bool) (g5 : List Int) :
    EndsIn (fun k => impl_Batch_bytesOf.j2 k body fl a0 a1 x2 x3 x4 l g0 g1 g2 g3 g4 g5) (fun r => r.length = 18 + body.length) := by
  refine EndsIn.step (fun k => by rw [impl_Batch_bytesOf.j2]) ?_
  simp only [bindS]
  refine EndsIn.bind (intOf_ends x4 2 (by omega)) fun t1 h1 => ?_
  simp only [if_pos (show ([fl, x2, x3] : List Int).length + t1.length < 17592186044416 by simp; omega), bindS]
  refine EndsIn.bind (intOf_ends g1 3 (by omega)) fun t2 h2 => ?_
  have e1 : ([fl, x2, x3] ++ t1 : List Int).length = 5 := by rw [List.length_append, h1]; rfl
  simp only [if_pos (show ([fl, x2, x3] ++ t1 : List Int).length + t2.length < 17592186044416 by omega), bindS]
  have e2 : ([fl, x2, x3] ++ t1 ++ t2 : List Int).length = 8 := by rw [List.length_append, e1, h2]
  simp only [if_pos (show ([fl, x2, x3] ++ t1 ++ t2 : List Int).length + ([(l.length : Int), 0, 0] : List Int).length < 17592186044416 by rw [e2]; simp), bindS]
  have e3 : ([fl, x2, x3] ++ t1 ++ t2 ++ [(l.length : Int), 0, 0] : List Int).length = 11 := by rw [List.length_append, e2]; rfl
  simp only [if_pos (show ([fl, x2, x3] ++ t1 ++ t2 ++ [(l.length : Int), 0, 0] : List Int).length + body.length < 17592186044416 by omega), bindS]
  have e4 : ([fl, x2, x3] ++ t1 ++ t2 ++ [(l.length : Int), 0, 0] ++ body : List Int).length = 11 + body.length := by rw [List.length_append, e3]
  generalize ([fl, x2, x3] ++ t1 ++ t2 ++ [(l.length : Int), 0, 0] ++ body : List Int) = y at e4
  refine EndsIn.bind (intOf_ends g0 3 (by omega)) fun t3 h3 => ?_
  refine EndsIn.bind (intOf_ends (y.length : Int) 2 (by omega)) fun t4 h4 => ?_
  have hs : EndsIn (fun k => impl_sum_over.f k 1 y) (fun _ => True) := by
    unfold impl_sum_over.f
    exact sum_loop y (by omega) y.length 0 1 (by omega) (by omega)
  refine EndsIn.bind hs fun t5 _ => ?_
  refine EndsIn.bind (intOf_ends t5 2 (by omega)) fun t6 h6 => ?_
  have e5 : ([t3, t4, t6, y] : List (List Int)).flatten.length = 18 + body.length := by simp; omega
  unfold slices_Concat_int_int.f
  simp only [if_pos (show ([t3, t4, t6, y] : List (List Int)).length < 1000000 ∧ ([t3, t4, t6, y] : List (List Int)).flatten.length < 17592186044416 from ⟨by simp, by omega⟩), bindS]
  exact EndsIn.now _ e5
theorem bytes_loop (b : S46) (h : BatR b.f5) (g2 : Bool) (g3 : List Int) (g4 : Bool) (g5 : List Int) : ∀ (d i : Nat), b.f5.length - i = d → i ≤ b.f5.length →
    EndsIn (fun k => impl_Batch_bytesOf.l0 k (rowsV (b.f5.take i) (rd_T63 b.f5 0).f0 (rd_T63 b.f5 0).f1) b.f5 (b.f5.length : Int) (i : Int) b.f0 b.f1 b.f2 b.f3 b.f4 b.f5 (rd_T63 b.f5 0).f0 (rd_T63 b.f5 0).f1 g2 g3 g4 g5) (fun r => r.length = batLen b) := by
  have hf := h.first
  have h6 := h.h6
  have hrl := rowsV_len (rd_T63 b.f5 0).f0 (rd_T63 b.f5 0).f1 b.f5 h.recs
  have hri := rowsV_in ⟨hf.a0, hf.a1⟩ ⟨hf.b0, hf.b1⟩ b.f5 h.recs
  have hbl := body_len h
  intro d
  induction d with
  | zero =>
    intro i hd hi
    obtain rfl : i = b.f5.length := by omega
    refine EndsIn.step (fun k => by rw [impl_Batch_bytesOf.l0]) ?_
    simp only [if_neg (show ¬ ((b.f5.length : Int) < (b.f5.length : Int)) by omega), List.take_length]
    have hj : ∀ (body : List Int) (fl : Int), body.length ≤ 2002 → EndsIn (fun k => impl_Batch_bytesOf.j1 k body fl b.f0 b.f1 b.f2 b.f3 b.f4 b.f5 (rd_T63 b.f5 0).f0 (rd_T63 b.f5 0).f1 g2 g3 g4 g5) (fun r => r.length = 18 + body.length) := fun body fl hb => by
      refine EndsIn.step (fun k => by rw [impl_Batch_bytesOf.j1]) ?_
      cases hf1 : b.f1
      · simp only [Bool.false_eq_true, if_false]
        exact j2_ends body hb _ _ _ _ _ _ _ _ _ _ _ _ _
      · simp only [if_true]
        exact j2_ends body hb _ _ _ _ _ _ _ _ _ _ _ _ _
    unfold batLen
    unfold bodyV at hbl ⊢
    cases hf0 : b.f0
    · rw [hf0] at hbl hj
      simp only [Bool.false_eq_true, if_false] at hbl ⊢
      exact hj _ _ hbl
    · rw [hf0] at hbl hj
      simp only [if_true] at hbl ⊢
      exact EndsIn.ev_bind (pack_ev _ (by omega) hri) (hj _ _ hbl)
  | succ d ih =>
    intro i hd hi
    have hlt : i < b.f5.length := by omega
    refine EndsIn.step (fun k => by rw [impl_Batch_bytesOf.l0]) ?_
    simp only [if_pos (show (i : Int) < (b.f5.length : Int) by omega), if_pos (show (0 : Int) ≤ (i : Int) by omega), rdR_nat b.f5 i hlt, w64 (a := (i : Int) + 1) (by omega) (by omega)]
    refine EndsIn.ev_bind (rec_ev (h.recs _ (List.getElem_mem hlt)) ⟨hf.a0, hf.a1⟩ ⟨hf.b0, hf.b1⟩) ?_
    have e : rowsV (b.f5.take (i + 1)) (rd_T63 b.f5 0).f0 (rd_T63 b.f5 0).f1 = rowsV (b.f5.take i) (rd_T63 b.f5 0).f0 (rd_T63 b.f5 0).f1 ++ recV b.f5[i] (rd_T63 b.f5 0).f0 (rd_T63 b.f5 0).f1 := by
      unfold rowsV
      rw [List.take_succ_eq_append_getElem hlt, List.flatMap_append]
      simp
    have hle := rowsV_len (rd_T63 b.f5 0).f0 (rd_T63 b.f5 0).f1 (b.f5.take (i + 1)) (fun r hr => h.recs r (List.mem_of_mem_take hr))
    rw [e, List.length_append, List.length_take] at hle
    simp only [if_pos (show (rowsV (b.f5.take i) (rd_T63 b.f5 0).f0 (rd_T63 b.f5 0).f1).length + (recV b.f5[i] (rd_T63 b.f5 0).f0 (rd_T63 b.f5 0).f1).length < 17592186044416 by omega)]
    have := ih (i + 1) (by omega) (by omega)
    rw [e] at this
    exact_mod_cast this
theorem bytes_ends (b : S46) (h : BatR b.f5) : EndsIn (fun k => impl_Batch_bytesOf.f k b.f0 b.f1 b.f2 b.f3 b.f4 b.f5) (fun r => r.length = batLen b) := by
  have h0 := h.h0
  unfold impl_Batch_bytesOf.f
  simp only [if_pos (show (0 : Int) < (b.f5.length : Int) by omega)]
  have := bytes_loop b h (rd_T63 b.f5 0).f2 (rd_T63 b.f5 0).f3 (rd_T63 b.f5 0).f4 (rd_T63 b.f5 0).f5 b.f5.length 0 (by omega) (by omega)
  exact this
/-! the reference -/
theorem sbody_loop (b : S46) (h : BatR b.f5) : ∀ (d i : Nat), b.f5.length - i = d → i ≤ b.f5.length →
    Ev (fun k => spec_l5Body.l0 k (rowsV (b.f5.take i) (rd_T63 b.f5 0).f0 (rd_T63 b.f5 0).f1) (i : Int) b.f0 b.f1 b.f2 b.f3 b.f4 b.f5) (rowsV b.f5 (rd_T63 b.f5 0).f0 (rd_T63 b.f5 0).f1) := by
  have hf := h.first
  have h6 := h.h6
  have h0 := h.h0
  intro d
  induction d with
  | zero =>
    intro i hd hi
    obtain rfl : i = b.f5.length := by omega
    refine Ev.step (fun k => by rw [spec_l5Body.l0]) ?_
    simp only [if_neg (show ¬ ((b.f5.length : Int) < (b.f5.length : Int)) by omega), List.take_length]
    exact Ev.now _
  | succ d ih =>
    intro i hd hi
    have hlt : i < b.f5.length := by omega
    refine Ev.step (fun k => by rw [spec_l5Body.l0]) ?_
    simp only [if_pos (show (i : Int) < (b.f5.length : Int) by omega), if_pos (show (0 : Int) ≤ (i : Int) by omega), if_pos (show (0 : Int) < (b.f5.length : Int) by omega), rdR_nat b.f5 i hlt, w64 (a := (i : Int) + 1) (by omega) (by omega)]
    refine Ev.bind (srec_ev (h.recs _ (List.getElem_mem hlt)) ⟨hf.a0, hf.a1⟩ ⟨hf.b0, hf.b1⟩) ?_
    have e : rowsV (b.f5.take (i + 1)) (rd_T63 b.f5 0).f0 (rd_T63 b.f5 0).f1 = rowsV (b.f5.take i) (rd_T63 b.f5 0).f0 (rd_T63 b.f5 0).f1 ++ recV b.f5[i] (rd_T63 b.f5 0).f0 (rd_T63 b.f5 0).f1 := by
      unfold rowsV
      rw [List.take_succ_eq_append_getElem hlt, List.flatMap_append]
      simp
    have hle := rowsV_len (rd_T63 b.f5 0).f0 (rd_T63 b.f5 0).f1 (b.f5.take (i + 1)) (fun r hr => h.recs r (List.mem_of_mem_take hr))
    rw [e, List.length_append, List.length_take] at hle
    simp only [if_pos (show (rowsV (b.f5.take i) (rd_T63 b.f5 0).f0 (rd_T63 b.f5 0).f1).length + (recV b.f5[i] (rd_T63 b.f5 0).f0 (rd_T63 b.f5 0).f1).length < 17592186044416 by omega)]
    have := ih (i + 1) (by omega) (by omega)
    rw [e] at this
    exact_mod_cast this
theorem j1_ends (body : List Int) (hb : body.length ≤ 2002) (fl : Int) (a0 a1 : Bool) (x2 x3 x4 : Int) (l : List S63) (hl : 0 < l.length) :
    EndsIn (fun k => spec_l5Bytes.j1 k body fl a0 a1 x2 x3 x4 l) (fun r => r.length = 18 + body.length) := by
  refine EndsIn.step (fun k => by rw [spec_l5Bytes.j1]) ?_
  simp only [bindS]
  refine EndsIn.bind (l2Int_ends x4 2 (by omega)) fun t1 h1 => ?_
  simp only [if_pos (show ([fl, x2, x3] : List Int).length + t1.length < 17592186044416 by simp; omega), bindS, if_pos (show (0 : Int) < (l.length : Int) by omega)]
  refine EndsIn.bind (l2Int_ends (rd_T63 l 0).f1 3 (by omega)) fun t2 h2 => ?_
  have e1 : ([fl, x2, x3] ++ t1 : List Int).length = 5 := by rw [List.length_append, h1]; rfl
  simp only [if_pos (show ([fl, x2, x3] ++ t1 : List Int).length + t2.length < 17592186044416 by omega), bindS]
  have e2 : ([fl, x2, x3] ++ t1 ++ t2 : List Int).length = 8 := by rw [List.length_append, e1, h2]
  simp only [if_pos (show ([fl, x2, x3] ++ t1 ++ t2 : List Int).length + ([(l.length : Int), 0, 0] : List Int).length < 17592186044416 by rw [e2]; simp), bindS]
  have e3 : ([fl, x2, x3] ++ t1 ++ t2 ++ [(l.length : Int), 0, 0] : List Int).length = 11 := by rw [List.length_append, e2]; rfl
  simp only [if_pos (show ([fl, x2, x3] ++ t1 ++ t2 ++ [(l.length : Int), 0, 0] : List Int).length + body.length < 17592186044416 by omega), bindS]
  have e4 : ([fl, x2, x3] ++ t1 ++ t2 ++ [(l.length : Int), 0, 0] ++ body : List Int).length = 11 + body.length := by rw [List.length_append, e3]
  generalize ([fl, x2, x3] ++ t1 ++ t2 ++ [(l.length : Int), 0, 0] ++ body : List Int) = y at e4
  refine EndsIn.bind (l2Int_ends (rd_T63 l 0).f0 3 (by omega)) fun t3 h3 => ?_
  refine EndsIn.bind (l2Int_ends (y.length : Int) 2 (by omega)) fun t4 h4 => ?_
  have e5 : (t3 ++ t4).length = 5 := by rw [List.length_append, h3, h4]
  simp only [if_pos (show t3.length + t4.length < 17592186044416 by omega), bindS]
  have hs : EndsIn (fun k => spec_l2Sum.f k y) (fun _ => True) := by
    unfold spec_l2Sum.f
    exact ssum_loop y (by omega) y.length 0 1 (by omega) (by omega)
  refine EndsIn.bind hs fun t5 _ => ?_
  refine EndsIn.bind (l2Int_ends t5 2 (by omega)) fun t6 h6 => ?_
  have e6 : (t3 ++ t4 ++ t6).length = 7 := by rw [List.length_append, e5, h6]
  simp only [if_pos (show (t3 ++ t4).length + t6.length < 17592186044416 by omega), bindS, if_pos (show (t3 ++ t4 ++ t6).length + y.length < 17592186044416 by omega)]
  exact EndsIn.now _ (by rw [List.length_append]; omega)
theorem sbytes_ends (b : S46) (h : BatR b.f5) : EndsIn (fun k => spec_l5Bytes.f k b.f0 b.f1 b.f2 b.f3 b.f4 b.f5) (fun r => r.length = batLen b) := by
  have hf := h.first
  have h6 := h.h6
  have h0 := h.h0
  have hrl := rowsV_len (rd_T63 b.f5 0).f0 (rd_T63 b.f5 0).f1 b.f5 h.recs
  have hbl := body_len h
  unfold spec_l5Bytes.f
  have hb : Ev (fun k => spec_l5Body.f k b.f0 b.f1 b.f2 b.f3 b.f4 b.f5) (rowsV b.f5 (rd_T63 b.f5 0).f0 (rd_T63 b.f5 0).f1) := by
    unfold spec_l5Body.f
    exact sbody_loop b h b.f5.length 0 (by omega) (by omega)
  have hj : ∀ (body : List Int) (fl : Int), body.length ≤ 2002 → EndsIn (fun k => spec_l5Bytes.j0 k body fl b.f0 b.f1 b.f2 b.f3 b.f4 b.f5) (fun r => r.length = 18 + body.length) := fun body fl hb => by
    refine EndsIn.step (fun k => by rw [spec_l5Bytes.j0]) ?_
    cases hf1 : b.f1
    · simp only [Bool.false_eq_true, if_false]
      exact j1_ends body hb _ _ _ _ _ _ _ h0
    · simp only [if_true]
      exact j1_ends body hb _ _ _ _ _ _ _ h0
  refine EndsIn.ev_bind hb ?_
  unfold batLen
  unfold bodyV at hbl ⊢
  cases hf0 : b.f0
  · rw [hf0] at hbl hj
    simp only [Bool.false_eq_true, if_false] at hbl ⊢
    exact hj _ _ hbl
  · rw [hf0] at hbl hj
    simp only [if_true] at hbl ⊢
    exact EndsIn.ev_bind (spack_ev _ (by omega)) (hj _ _ hbl)
/-! rows of batches -/
def sizeV : List S46 → Nat
  | [] => 0
  | b :: l => batLen b + sizeV l
theorem batLen_le {b : S46} (h : BatR b.f5) : batLen b ≤ 2020 := by
  have := body_len h
  unfold batLen
  omega
theorem size_loop (l : List S46) (hl : l.length ≤ 1000) (h : ∀ b ∈ l, BatR b.f5) : ∀ (d i s : Nat), l.length - i = d → i ≤ l.length → s ≤ 2020 * i → Ev (fun k => impl_sizeOf.l0 k (s : Int) l (l.length : Int) (i : Int)) ((s + sizeV (l.drop i) : Nat) : Int) := by
  intro d
  induction d with
  | zero =>
    intro i s hd hi hs
    refine Ev.step (fun k => by rw [impl_sizeOf.l0]) ?_
    simp only [if_neg (show ¬ ((i : Int) < (l.length : Int)) by omega)]
    rw [List.drop_of_length_le (by omega)]
    exact Ev.now _
  | succ d ih =>
    intro i s hd hi hs
    have hlt : i < l.length := by omega
    have hb := h _ (List.getElem_mem hlt)
    have hbl := batLen_le hb
    refine Ev.step (fun k => by rw [impl_sizeOf.l0]) ?_
    simp only [if_pos (show (i : Int) < (l.length : Int) by omega), if_pos (show (0 : Int) ≤ (i : Int) by omega), rdB_nat l i hlt, w64 (a := (i : Int) + 1) (by omega) (by omega)]
    obtain ⟨t, ht, hlen⟩ := bytes_ends l[i] hb
    refine Ev.bind ht ?_
    simp only [hlen, w64 (a := (s : Int) + ((batLen l[i] : Nat) : Int)) (by omega) (by omega)]
    rw [List.drop_eq_getElem_cons hlt, sizeV, ← Nat.add_assoc]
    have := ih (i + 1) (s + batLen l[i]) (by omega) (by omega) (by omega)
    exact_mod_cast this
theorem ssize_loop (l : List S46) (hl : l.length ≤ 1000) (h : ∀ b ∈ l, BatR b.f5) : ∀ (d i s : Nat), l.length - i = d → i ≤ l.length → s ≤ 2020 * i → Ev (fun k => spec_l33Size.l0 k l (s : Int) (i : Int)) ((s + sizeV (l.drop i) : Nat) : Int) := by
  intro d
  induction d with
  | zero =>
    intro i s hd hi hs
    refine Ev.step (fun k => by rw [spec_l33Size.l0]) ?_
    simp only [if_neg (show ¬ ((i : Int) < (l.length : Int)) by omega)]
    rw [List.drop_of_length_le (by omega)]
    exact Ev.now _
  | succ d ih =>
    intro i s hd hi hs
    have hlt : i < l.length := by omega
    have hb := h _ (List.getElem_mem hlt)
    have hbl := batLen_le hb
    refine Ev.step (fun k => by rw [spec_l33Size.l0]) ?_
    simp only [if_pos (show (i : Int) < (l.length : Int) by omega), if_pos (show (0 : Int) ≤ (i : Int) by omega), rdB_nat l i hlt, w64 (a := (i : Int) + 1) (by omega) (by omega)]
    obtain ⟨t, ht, hlen⟩ := sbytes_ends l[i] hb
    refine Ev.bind ht ?_
    simp only [hlen, w64 (a := (s : Int) + ((batLen l[i] : Nat) : Int)) (by omega) (by omega)]
    rw [List.drop_eq_getElem_cons hlt, sizeV, ← Nat.add_assoc]
    have := ih (i + 1) (s + batLen l[i]) (by omega) (by omega) (by omega)
    exact_mod_cast this
theorem sizeOf_ev (l : List S46) (hl : l.length ≤ 1000) (h : ∀ b ∈ l, BatR b.f5) : Ev (fun k => impl_sizeOf.f k l) ((sizeV l : Nat) : Int) := by
  unfold impl_sizeOf.f
  have := size_loop l hl h l.length 0 0 (by omega) (by omega) (by omega)
  simpa using this
theorem ssizeOf_ev (l : List S46) (hl : l.length ≤ 1000) (h : ∀ b ∈ l, BatR b.f5) : Ev (fun k => spec_l33Size.f k l) ((sizeV l : Nat) : Int) := by
  unfold spec_l33Size.f
  have := ssize_loop l hl h l.length 0 0 (by omega) (by omega) (by omega)
  simpa using this
theorem logOk_R {l : List S46} (h : logOk l = true) : l.length ≤ 8 ∧ ∀ b ∈ l, BatR b.f5 := by
  refine ⟨?_, fun b hb => ?_⟩
  · unfold logOk at h
    simp only [Bool.and_eq_true, decide_eq_true_eq] at h
    omega
  · obtain ⟨i, hi, rfl⟩ := List.getElem_of_mem hb
    exact batR_of (logOk_bat h i hi)
def lsizeV (l : List S46) : Int := if logOk l = true then ((sizeV l : Nat) : Int) else -1
theorem LogSize_ev (l : List S46) (hb : RowB l) : Ev (fun k => impl_LogSize.f k l) (lsizeV l) := by
  unfold impl_LogSize.f lsizeV
  refine Ev.bind (LogValid_ev l hb) ?_
  cases h : logOk l
  · exact Ev.now _
  · have := logOk_R h
    simp only [if_true]
    exact Ev.bind (sizeOf_ev l (by omega) this.2) (Ev.now _)
end Go.Proofs.Ythoioccmnphfgaa.Pu

namespace Go.Proofs.Ythoioccmnphfgaa.Pu
open Go.RowKit Go.Proofs.YthoioccmnphfgaaW.PrintWords Go.Proofs.YthoioccmnphfgaaW.PrintLast Go.Proofs.YthoioccmnphfgaaW.PrintMore Go.Proofs.Ythoioccmnphfgaa.G
set_option linter.unusedVariables false
set_option linter.unusedSimpArgs false
theorem rec_inc {b : S46} (h : batOk b = true) (j : Nat) (hj : j + 1 < b.f5.length) : b.f5[j].f0 < b.f5[j + 1].f0 := by
  unfold batOk at h
  simp only [Bool.and_eq_true] at h
  have := List.all_eq_true.1 h.2.2.2 (j + 1) (by simp [List.mem_range']; omega)
  unfold recStep at this
  rw [rdR_nat b.f5 (j + 1) hj, show ((j + 1 : Nat) : Int) - 1 = ((j : Nat) : Int) by omega, rdR_nat b.f5 j (by omega), decide_eq_false (by omega : ¬ (j + 1 = 0)), Bool.false_or, Bool.and_eq_true, decide_eq_true_eq] at this
  exact this.2
theorem firstOf_eq {b : S46} (h : 0 < b.f5.length) : firstOf b = b.f5[0].f0 := by
  unfold firstOf
  rw [show (0 : Int) = ((0 : Nat) : Int) from rfl, rdR_nat b.f5 0 h]
theorem lastOf_eq {b : S46} (h : 0 < b.f5.length) : lastOf b = (b.f5[b.f5.length - 1]'(by omega)).f0 := by
  unfold lastOf
  rw [show (b.f5.length : Int) - 1 = ((b.f5.length - 1 : Nat) : Int) by omega, rdR_nat b.f5 _ (by omega)]
theorem rec_mono {b : S46} (h : batOk b = true) (i : Nat) : ∀ d (hj : i + d < b.f5.length), (b.f5[i]'(by omega)).f0 ≤ b.f5[i + d].f0
  | 0, hj => Int.le_refl _
  | d + 1, hj => by
    have := rec_mono h i d (by omega)
    have := rec_inc h (i + d) hj
    show _ ≤ b.f5[i + d + 1].f0
    omega
theorem rec_le {b : S46} (h : batOk b = true) (j : Nat) (hj : j < b.f5.length) : b.f5[j].f0 ≤ lastOf b := by
  rw [lastOf_eq (by omega)]
  have := rec_mono h j (b.f5.length - 1 - j) (by omega)
  simpa only [show j + (b.f5.length - 1 - j) = b.f5.length - 1 by omega] using this
theorem bat_inc {l : List S46} (h : logOk l = true) (i : Nat) (hi : i + 1 < l.length) : lastOf l[i] < firstOf l[i + 1] := by
  unfold logOk at h
  have := List.all_eq_true.1 (Bool.and_eq_true_iff.1 h).1 (i + 1) (by simp [List.mem_range']; omega)
  unfold batStep at this
  rw [rdB_nat l (i + 1) hi, show ((i + 1 : Nat) : Int) - 1 = ((i : Nat) : Int) by omega, rdB_nat l i (by omega), decide_eq_false (by omega : ¬ (i + 1 = 0)), Bool.false_or, Bool.and_eq_true, decide_eq_true_eq] at this
  exact this.2
theorem first_le_last {b : S46} (h : batOk b = true) : firstOf b ≤ lastOf b := by
  have hn := batOk_len h
  have := rec_le h 0 (by omega)
  rw [firstOf_eq (by omega)]
  exact this
theorem logOk_len {l : List S46} (h : logOk l = true) : l.length ≤ 8 := by
  unfold logOk at h
  simp only [Bool.and_eq_true, decide_eq_true_eq] at h
  omega
end Go.Proofs.Ythoioccmnphfgaa.Pu

namespace Go.Proofs.Ythoioccmnphfgaa.Pu
open Go.RowKit Go.Proofs.YthoioccmnphfgaaW.PrintWords Go.Proofs.YthoioccmnphfgaaW.PrintLast Go.Proofs.YthoioccmnphfgaaW.PrintMore Go.Proofs.Ythoioccmnphfgaa.G
set_option linter.unusedVariables false
set_option linter.unusedSimpArgs false
def IncB : List S46 → Prop
  | [] => True
  | b :: l => (∀ c ∈ l, lastOf b < firstOf c) ∧ IncB l
theorem incB_of : ∀ (l : List S46), (∀ b ∈ l, batOk b = true) → (∀ i (h : i + 1 < l.length), lastOf l[i] < firstOf l[i + 1]) → IncB l
  | [], _, _ => trivial
  | [b], _, _ => ⟨fun c hc => by simp at hc, trivial⟩
  | b :: c :: l, hv, h => by
    have h1 := incB_of (c :: l) (fun x hx => hv x (List.mem_cons_of_mem _ hx)) fun i hi => h (i + 1) (by simp only [List.length_cons] at hi ⊢; omega)
    have h0 : lastOf b < firstOf c := h 0 (by simp)
    refine ⟨fun y hy => ?_, h1⟩
    rcases List.mem_cons.1 hy with rfl | hy
    · exact h0
    · have := h1.1 y hy
      have := first_le_last (hv c (by simp))
      omega
theorem incB_log {l : List S46} (h : logOk l = true) : IncB l :=
  incB_of l (fun b hb => by obtain ⟨i, hi, rfl⟩ := List.getElem_of_mem hb; exact logOk_bat h i hi) fun i hi => bat_inc h i hi
theorem incB_step : ∀ (l : List S46), IncB l → ∀ (j : Nat) (hj : j + 1 < l.length), lastOf l[j] < firstOf l[j + 1]
  | [], _, j, hj => by simp at hj
  | x :: l, h, 0, hj => h.1 _ (List.getElem_mem (l := l) (n := 0) (by simpa using hj))
  | x :: l, h, j + 1, hj => incB_step l h.2 j (by simpa using hj)
theorem logOk_of {l : List S46} (hv : ∀ b ∈ l, batOk b = true) (hi : IncB l) (hl : l.length ≤ 8) : logOk l = true := by
  unfold logOk
  rw [logs_of fun j hj => ?_, Bool.true_and, decide_eq_true (by omega)]
  unfold batStep
  rw [rdB_nat l j hj, hv _ (List.getElem_mem hj), Bool.true_and]
  rcases j with _ | j
  · simp
  · rw [show ((j + 1 : Nat) : Int) - 1 = (j : Int) by omega, rdB_nat l j (by omega), decide_eq_true (incB_step l hi j hj), Bool.or_true]
theorem logOk_mem {l : List S46} (h : logOk l = true) : ∀ b ∈ l, batOk b = true := fun b hb => by
  obtain ⟨i, hi, rfl⟩ := List.getElem_of_mem hb
  exact logOk_bat h i hi
end Go.Proofs.Ythoioccmnphfgaa.Pu

namespace Go.Proofs.Ythoioccmnphfgaa.Pu
open Go.RowKit Go.Proofs.YthoioccmnphfgaaW.PrintWords Go.Proofs.YthoioccmnphfgaaW.PrintLast Go.Proofs.YthoioccmnphfgaaW.PrintMore Go.Proofs.Ythoioccmnphfgaa.G
set_option linter.unusedVariables false
set_option linter.unusedSimpArgs false
def kR (m : Int) : List S46 → Nat
  | [] => 0
  | [_] => 0
  | b :: c :: l => if ((sizeV (b :: c :: l) : Nat) : Int) ≤ m then 0 else kR m (c :: l) + 1
theorem kR_le (m : Int) : ∀ l : List S46, kR m l ≤ l.length - 1
  | [] => by simp [kR]
  | [_] => by simp [kR]
  | b :: c :: l => by
    have := kR_le m (c :: l)
    unfold kR
    simp at this ⊢
    split <;> omega
theorem kR_fits (m : Int) : ∀ l : List S46, ((sizeV (l.drop (kR m l)) : Nat) : Int) ≤ m ∨ kR m l = l.length - 1
  | [] => by simp [kR]
  | [_] => by simp [kR]
  | b :: c :: l => by
    have := kR_fits m (c :: l)
    unfold kR
    by_cases h : ((sizeV (b :: c :: l) : Nat) : Int) ≤ m
    · rw [if_pos h]
      exact .inl h
    · rw [if_neg h, List.drop_succ_cons]
      rcases this with h1 | h1
      · exact .inl h1
      · refine .inr ?_
        simp at h1 ⊢
        exact h1
theorem kR_before (m : Int) : ∀ l : List S46, 0 < kR m l → ((sizeV (l.drop (kR m l - 1)) : Nat) : Int) > m
  | [], h => by simp [kR] at h
  | [_], h => by simp [kR] at h
  | b :: c :: l, h => by
    unfold kR at h ⊢
    by_cases hm : ((sizeV (b :: c :: l) : Nat) : Int) ≤ m
    · rw [if_pos hm] at h
      exact absurd h (by omega)
    · rw [if_neg hm]
      rcases Nat.eq_zero_or_pos (kR m (c :: l)) with h0 | h0
      · rw [h0]
        show ((sizeV (b :: c :: l) : Nat) : Int) > m
        omega
      · have := kR_before m (c :: l) h0
        obtain ⟨j, hj⟩ : ∃ j, kR m (c :: l) = j + 1 := ⟨kR m (c :: l) - 1, by omega⟩
        rw [hj] at this ⊢
        show ((sizeV ((b :: c :: l).drop (j + 1)) : Nat) : Int) > m
        rw [List.drop_succ_cons]
        exact this
theorem kept_sloop (m : Int) (l : List S46) (hl : l.length ≤ 1000) (h : ∀ b ∈ l, BatR b.f5) : ∀ (d i : Nat), l.length - i = d → i < l.length →
    Ev (fun k => impl_keptFrom.l0 k l m (l.length : Int) (i : Int)) ((i + kR m (l.drop i) : Nat) : Int) := by
  intro d
  induction d with
  | zero =>
    intro i hd hi
    omega
  | succ d ih =>
    intro i hd hi
    have hfit : Ev (fun k => impl_room_fits.f k m l (i : Int)) (decide (((sizeV (l.drop i) : Nat) : Int) ≤ m)) := by
      unfold impl_room_fits.f
      simp only [if_pos (show (0 : Int) ≤ (i : Int) by omega), if_pos (show (i : Int) ≤ (l.length : Int) by omega), Int.toNat_natCast]
      exact Ev.bind (sizeOf_ev _ (by rw [List.length_drop]; omega) (fun b hb => h b (List.mem_of_mem_drop hb))) (Ev.now _)
    refine Ev.step (fun k => by rw [impl_keptFrom.l0]) ?_
    simp only [if_pos (show (i : Int) < (l.length : Int) by omega), w64 (a := (i : Int) + 1) (by omega) (by omega)]
    refine Ev.bind hfit ?_
    by_cases hf : ((sizeV (l.drop i) : Nat) : Int) ≤ m
    · simp only [decide_eq_true hf, if_true]
      have : kR m (l.drop i) = 0 := by
        rcases hx : l.drop i with _ | ⟨b, _ | ⟨c, x⟩⟩
        · rfl
        · rfl
        · rw [hx] at hf
          rw [kR, if_pos hf]
      rw [this]
      exact Ev.now _
    · simp only [decide_eq_false hf, Bool.false_eq_true, if_false]
      by_cases hn : i + 1 < l.length
      · have e : kR m (l.drop i) = kR m (l.drop (i + 1)) + 1 := by
          rw [List.drop_eq_getElem_cons hi, List.drop_eq_getElem_cons hn] at hf ⊢
          rw [kR, if_neg hf]
        rw [e]
        have := ih (i + 1) (by omega) hn
        rw [show i + (kR m (l.drop (i + 1)) + 1) = i + 1 + kR m (l.drop (i + 1)) by omega]
        exact_mod_cast this
      · have e : kR m (l.drop i) = 0 := by
          rw [List.drop_eq_getElem_cons hi, List.drop_of_length_le (by omega)]
          rfl
        rw [e]
        refine Ev.step (fun k => by rw [impl_keptFrom.l0]) ?_
        simp only [if_neg (show ¬ ((i : Int) + 1 < (l.length : Int)) by omega), w64 (a := (l.length : Int) - 1) (by omega) (by omega)]
        have : mx ((l.length : Int) - 1) 0 = ((i + 0 : Nat) : Int) := by unfold mx; split <;> omega
        rw [this]
        exact Ev.now _
theorem keptFromS_ev (m : Int) (l : List S46) (hl : l.length ≤ 1000) (h : ∀ b ∈ l, BatR b.f5) : Ev (fun k => impl_keptFrom.f k l m) ((kR m l : Nat) : Int) := by
  unfold impl_keptFrom.f
  rcases Nat.eq_zero_or_pos l.length with h0 | h0
  · obtain rfl : l = [] := List.eq_nil_of_length_eq_zero h0
    refine Ev.step (fun k => by rw [impl_keptFrom.l0]) ?_
    simp only [List.length_nil, if_neg (show ¬ ((0 : Int) < ((0 : Nat) : Int)) by omega), w64 (a := ((0 : Nat) : Int) - 1) (by omega) (by omega)]
    have : mx (((0 : Nat) : Int) - 1) 0 = ((kR m ([] : List S46) : Nat) : Int) := by unfold mx kR; rfl
    rw [this]
    exact Ev.now _
  · have := kept_sloop m l hl h l.length 0 (by omega) h0
    simpa using this
theorem skept_loop (m : Int) (l : List S46) (hl : l.length ≤ 1000) (h : ∀ b ∈ l, BatR b.f5) : ∀ (d i : Nat), l.length - i = d → i ≤ l.length →
    Ev (fun k => spec_KeepSize.l0 k l m (i : Int)) ((i + kR m (l.drop i) : Nat) : Int) := by
  intro d
  induction d with
  | zero =>
    intro i hd hi
    refine Ev.step (fun k => by rw [spec_KeepSize.l0]) ?_
    simp only [w64 (a := (i : Int) + 1) (by omega) (by omega), if_neg (show ¬ ((i : Int) + 1 < (l.length : Int)) by omega)]
    rw [List.drop_of_length_le (by omega)]
    exact Ev.now _
  | succ d ih =>
    intro i hd hi
    refine Ev.step (fun k => by rw [spec_KeepSize.l0]) ?_
    by_cases hn : i + 1 < l.length
    · simp only [w64 (a := (i : Int) + 1) (by omega) (by omega), if_pos (show (i : Int) + 1 < (l.length : Int) by omega), if_pos (show (0 : Int) ≤ (i : Int) by omega), if_pos (show (i : Int) ≤ (l.length : Int) by omega), Int.toNat_natCast]
      refine Ev.bind (ssizeOf_ev _ (by rw [List.length_drop]; omega) (fun b hb => h b (List.mem_of_mem_drop hb))) ?_
      have hd1 : l.drop i = l[i] :: l[i + 1] :: l.drop (i + 1 + 1) := by rw [List.drop_eq_getElem_cons (by omega : i < l.length), List.drop_eq_getElem_cons hn]
      have hd2 : l.drop (i + 1) = l[i + 1] :: l.drop (i + 1 + 1) := List.drop_eq_getElem_cons hn
      by_cases hf : ((sizeV (l.drop i) : Nat) : Int) ≤ m
      · simp only [if_neg (show ¬ ((sizeV (l.drop i) : Nat) : Int) > m by omega)]
        have e : kR m (l.drop i) = 0 := by rw [hd1] at hf ⊢; rw [kR, if_pos hf]
        rw [e]
        exact Ev.now _
      · simp only [if_pos (show ((sizeV (l.drop i) : Nat) : Int) > m by omega)]
        have e : kR m (l.drop i) = kR m (l.drop (i + 1)) + 1 := by rw [hd1] at hf ⊢; rw [hd2, kR, if_neg hf]
        rw [e]
        have := ih (i + 1) (by omega) (by omega)
        rw [show i + (kR m (l.drop (i + 1)) + 1) = i + 1 + kR m (l.drop (i + 1)) by omega]
        exact_mod_cast this
    · simp only [w64 (a := (i : Int) + 1) (by omega) (by omega), if_neg (show ¬ ((i : Int) + 1 < (l.length : Int)) by omega)]
      have e : kR m (l.drop i) = 0 := by
        rw [List.drop_eq_getElem_cons (by omega : i < l.length), List.drop_of_length_le (by omega)]
        rfl
      rw [e]
      exact Ev.now _
def keepSV (m : Int) (l : List S46) : Int := if logOk l = true ∧ 0 ≤ m ∧ m ≤ 99999 then ((kR m l : Nat) : Int) else -1
theorem KeepSize_ev (m : Int) (l : List S46) (hb : RowB l) : Ev (fun k => impl_KeepSize.f k l m) (keepSV m l) := by
  unfold impl_KeepSize.f keepSV
  refine Ev.bind (LogValid_ev l hb) ?_
  cases h : logOk l
  · simp only [Bool.false_eq_true, if_false, false_and]
    exact Ev.now _
  · have hR := logOk_R h
    simp only [if_true, within_ev, bindS, true_and]
    by_cases hm : 0 ≤ m ∧ m ≤ 99999
    · simp only [decide_eq_true hm.1, decide_eq_true hm.2, Bool.and_self, if_true, if_pos hm]
      exact Ev.bind (keptFromS_ev m l (by omega) hR.2) (Ev.now _)
    · have : (decide (0 ≤ m) && decide (m ≤ 99999)) = false := by
        rw [Bool.eq_false_iff]
        intro hc
        simp only [Bool.and_eq_true, decide_eq_true_eq] at hc
        exact hm hc
      simp only [this, Bool.false_eq_true, if_false, if_neg hm]
      exact Ev.now _
theorem sKeepSize_ev (m : Int) (l : List S46) (hb : RowB l) : Ev (fun k => spec_KeepSize.f k l m) (keepSV m l) := by
  unfold spec_KeepSize.f keepSV
  refine Ev.bind (sLogValid_ev l hb) ?_
  cases h : logOk l
  · simp only [Bool.false_eq_true, if_false, false_and]
    refine Ev.step (fun k => by rw [spec_KeepSize.j0]) ?_
    simp only [if_true]
    exact Ev.now _
  · have hR := logOk_R h
    simp only [if_true, in_ev, bindS, true_and]
    refine Ev.step (fun k => by rw [spec_KeepSize.j0]) ?_
    by_cases hm : 0 ≤ m ∧ m ≤ 99999
    · simp only [decide_eq_true hm.1, decide_eq_true hm.2, Bool.and_self, Bool.not_true, Bool.false_eq_true, if_false, if_pos hm]
      have := skept_loop m l (by omega) hR.2 l.length 0 (by omega) (by omega)
      simpa using this
    · have : (decide (0 ≤ m) && decide (m ≤ 99999)) = false := by
        rw [Bool.eq_false_iff]
        intro hc
        simp only [Bool.and_eq_true, decide_eq_true_eq] at hc
        exact hm hc
      simp only [this, Bool.not_false, if_true, if_neg hm]
      exact Ev.now _
theorem incS_drop : ∀ (l : List S46) (n : Nat), IncB l → IncB (l.drop n)
  | [], n, _ => by simp [IncB]
  | b :: l, 0, h => h
  | b :: l, n + 1, h => incS_drop l n h.2
theorem logS_drop {l : List S46} (h : logOk l = true) (n : Nat) : logOk (l.drop n) = true :=
  logOk_of (fun b hb => logOk_mem h b (List.mem_of_mem_drop hb)) (incS_drop l n (incB_log h)) (by have := logOk_len h; rw [List.length_drop]; omega)
theorem RowB.drop {l : List S46} (h : RowB l) (n : Nat) : RowB (l.drop n) := ⟨by have := h.1; rw [List.length_drop]; omega, fun b hb => h.2 b (List.mem_of_mem_drop hb)⟩
theorem RowB.take {l : List S46} (h : RowB l) (n : Nat) : RowB (l.take n) := ⟨by have := h.1; rw [List.length_take]; omega, fun b hb => h.2 b (List.mem_of_mem_take hb)⟩
theorem lsize_drop {l : List S46} (h : logOk l = true) (n : Nat) : lsizeV (l.drop n) = ((sizeV (l.drop n) : Nat) : Int) := by unfold lsizeV; rw [if_pos (logS_drop h n)]
end Go.Proofs.Ythoioccmnphfgaa.Pu

namespace Go.Proofs.Ythoioccmnphfgaa.Pu
open Go.RowKit Go.Proofs.YthoioccmnphfgaaW.PrintWords Go.Proofs.YthoioccmnphfgaaW.PrintLast Go.Proofs.Ythoioccmnphfgaa.G
set_option linter.unusedVariables false
set_option linter.unusedSimpArgs false
theorem xor_i64 (a b : Int) (h0 : 0 ≤ a) (h1 : a < 4611686018427387904) (k0 : 0 ≤ b) (k1 : b < 4611686018427387904) : 0 ≤ bits .xor .i64 a b := by
  obtain ⟨a, rfl⟩ := Int.eq_ofNat_of_zero_le h0
  obtain ⟨b, rfl⟩ := Int.eq_ofNat_of_zero_le k0
  have ha : a < 2 ^ 62 := by omega
  have hb : b < 2 ^ 62 := by omega
  have hx := Nat.xor_lt_two_pow ha hb
  have ha' : a % 2 ^ 64 = a := Nat.mod_eq_of_lt (by omega)
  have hb' : b % 2 ^ 64 = b := Nat.mod_eq_of_lt (by omega)
  show 0 ≤ IntKind.i64.wrap ((BitVec.ofInt 64 (a : Int) ^^^ BitVec.ofInt 64 (b : Int)).toNat : Int)
  rw [BitVec.ofInt_natCast, BitVec.ofInt_natCast, BitVec.toNat_xor, BitVec.toNat_ofNat, BitVec.toNat_ofNat, ha', hb', IntKind.wrap_i64]
  omega
theorem rd_range {b : List Int} (hb : ∀ x ∈ b, 0 ≤ x ∧ x ≤ 255) (i : Int) : 0 ≤ rd b i ∧ rd b i ≤ 255 := by
  unfold rd
  rw [List.getD_eq_getElem?_getD]
  rcases h : b[i.toNat]? with _ | x
  · simp
  · exact hb x (List.mem_of_getElem? h)
theorem mod_range {x n : Int} (h0 : 0 ≤ x) (h1 : 1 ≤ n) : 0 ≤ Int.tmod x n ∧ Int.tmod x n < n := by
  rw [Int.tmod_eq_emod_of_nonneg h0]
  exact ⟨Int.emod_nonneg _ (by omega), Int.emod_lt_of_pos _ (by omega)⟩
/-- A code that is read: bytes, and a place that is no great number. -/
def CodeOk (b : List Int) : Prop := b.length ≤ 2000 ∧ ∀ x ∈ b, 0 ≤ x ∧ x ≤ 255
theorem pick_ends {b : List Int} (hb : CodeOk b) (p n : Int) (h0 : 0 ≤ p) (h1 : p ≤ 1000000000) (hn : n ≤ 4611686018427387904) :
    EndsIn (fun k => spec_l6Rd_pick.f k b p n) (fun r => r.2 = p + 1 ∧ 0 ≤ r.1 ∧ (1 ≤ n → r.1 < n) ∧ (n < 1 → r.1 = 0)) := by
  obtain ⟨hl, hr⟩ := hb
  unfold spec_l6Rd_pick.f
  rw [w64 (a := p + 1) (by omega) (by omega)]
  by_cases hn1 : n < 1
  · simp only [if_pos hn1]
    refine EndsIn.step (fun k => by rw [spec_l6Rd_pick.j0]) ?_
    simp only [if_true]
    exact EndsIn.now _ ⟨rfl, by omega, by omega, fun _ => rfl⟩
  · simp only [if_neg hn1]
    refine EndsIn.step (fun k => by rw [spec_l6Rd_pick.j0]) ?_
    rw [show p + 1 - 1 = p by omega, w64 (a := p) (by omega) (by omega)]
    by_cases hz : (b.length : Int) = 0
    · have : ((b.length : Int) == 0) = true := by simpa using hz
      simp only [this, if_true]
      exact EndsIn.now _ ⟨rfl, by omega, by omega, fun h => by omega⟩
    · have hz' : ((b.length : Int) == 0) = false := by simpa using hz
      simp only [hz', Bool.false_eq_true, if_false]
      by_cases hp : p < (b.length : Int)
      · have hx := rd_range hr p
        simp only [if_pos hp, if_pos h0, if_neg (show ¬ n = 0 by omega)]
        rw [w64 (a := rd b p) (by omega) (by omega)]
        have hm := mod_range (x := rd b p) (n := n) hx.1 (by omega)
        exact EndsIn.now _ ⟨rfl, hm.1, fun _ => hm.2, fun h => by omega⟩
      · have hm1 := mod_range (x := p) (n := (b.length : Int)) h0 (by omega)
        have h7 : wrap64 (wrap64 (p * 7) + 3) = p * 7 + 3 := by
          rw [w64 (a := p * 7) (by omega) (by omega), w64 (by omega) (by omega)]
        have hm2 := mod_range (x := p * 7 + 3) (n := (b.length : Int)) (by omega) (by omega)
        simp only [if_neg hp, if_neg hz, h7, if_pos hm1.1, if_pos hm1.2, if_pos hm2.1, if_pos hm2.2, if_neg (show ¬ n = 0 by omega)]
        have hx1 := rd_range hr (Int.tmod p b.length)
        have hx2 := rd_range hr (Int.tmod (p * 7 + 3) b.length)
        generalize rd b (Int.tmod p b.length) = x1 at hx1 ⊢
        generalize rd b (Int.tmod (p * 7 + 3) b.length) = x2 at hx2 ⊢
        have hd : 0 ≤ Int.tdiv p (b.length : Int) ∧ Int.tdiv p (b.length : Int) ≤ p := by
          rw [Int.tdiv_eq_ediv_of_nonneg h0]
          exact ⟨Int.ediv_nonneg h0 (by omega), Int.ediv_le_self _ h0⟩
        generalize Int.tdiv p (b.length : Int) = q at hd ⊢
        have e1 : wrap64 x1 = x1 := w64 (by omega) (by omega)
        have e2 : wrap64 x2 = x2 := w64 (by omega) (by omega)
        have e3 : wrap64 (x1 * 131) = x1 * 131 := w64 (by omega) (by omega)
        have e4 : wrap64 (x2 * 1117) = x2 * 1117 := w64 (by omega) (by omega)
        have e5 : wrap64 (x1 * 131 + x2 * 1117) = x1 * 131 + x2 * 1117 := w64 (by omega) (by omega)
        have e6 : wrap64 (p * 29) = p * 29 := w64 (by omega) (by omega)
        have e7 : wrap64 (x1 * 131 + x2 * 1117 + p * 29) = x1 * 131 + x2 * 1117 + p * 29 := w64 (by omega) (by omega)
        have e8 : wrap64 q = q := w64 (by omega) (by omega)
        have e9 : wrap64 (q * 53) = q * 53 := w64 (by omega) (by omega)
        have e10 : wrap64 (x1 * 131 + x2 * 1117 + p * 29 + q * 53) = x1 * 131 + x2 * 1117 + p * 29 + q * 53 := w64 (by omega) (by omega)
        simp only [e1, e2, e3, e4, e5, e6, e7, e8, e9, e10]
        have hX : 0 ≤ x1 * 131 + x2 * 1117 + p * 29 + q * 53 ∧ x1 * 131 + x2 * 1117 + p * 29 + q * 53 < 4611686018427387904 := ⟨by omega, by omega⟩
        generalize x1 * 131 + x2 * 1117 + p * 29 + q * 53 = X at hX ⊢
        have e11 : wrap64 (Int.tdiv X 64) = X / 64 := by
          rw [Int.tdiv_eq_ediv_of_nonneg hX.1]
          exact w64 (by omega) (by omega)
        rw [e11]
        have hxx := xor_i64 X (X / 64) hX.1 hX.2 (by omega) (by omega)
        have hm := mod_range (n := n) hxx (by omega)
        exact EndsIn.now _ ⟨rfl, hm.1, fun _ => hm.2, fun h => by omega⟩
end Go.Proofs.Ythoioccmnphfgaa.Pu

namespace Go.Proofs.Ythoioccmnphfgaa.Pu
open Go.RowKit Go.Proofs.YthoioccmnphfgaaW.PrintWords Go.Proofs.YthoioccmnphfgaaW.PrintLast Go.Proofs.YthoioccmnphfgaaW.PrintMore Go.Proofs.Ythoioccmnphfgaa.G
set_option linter.unusedVariables false
set_option linter.unusedSimpArgs false
theorem part_loop {b : List Int} (hb : CodeOk b) (n : Int) (hn : n ≤ 12) : ∀ d (i : Nat) (l : List Int) (p : Int), 12 - i = d → l.length = i → i ≤ 12 → 0 ≤ p → p ≤ 900000000 + 2 * (i : Int) →
    EndsIn (fun k => spec_l91Part.l0 k l n (i : Int) b p) (fun r => r.2.1.length ≤ 12 ∧ p ≤ r.2.2 ∧ r.2.2 ≤ p + 2 * (12 - (i : Int))) := by
  intro d
  induction d with
  | zero =>
    intro i l p hd hl hi p0 p1
    refine EndsIn.step (fun k => by rw [spec_l91Part.l0]) ?_
    simp only [if_neg (show ¬ (i : Int) < n by omega)]
    exact EndsIn.now _ ⟨by show l.length ≤ 12; omega, by show p ≤ p; omega, by show p ≤ _; omega⟩
  | succ d ih =>
    intro i l p hd hl hi p0 p1
    refine EndsIn.step (fun k => by rw [spec_l91Part.l0]) ?_
    by_cases h : (i : Int) < n
    · simp only [if_pos h]
      refine EndsIn.bind (pick_ends hb p 256 p0 (by omega) (by omega)) fun q hq => ?_
      obtain ⟨q2, q3, q4, _⟩ := hq
      simp only [bindS]
      rw [q2]
      refine EndsIn.bind (pick_ends hb (p + 1) 4 (by omega) (by omega) (by omega)) fun s hs => ?_
      obtain ⟨s2, s3, s4, _⟩ := hs
      have s5 := s4 (by omega)
      rw [s2]
      simp only [if_pos s3, if_pos (show s.1 < (([1, 2, 3, q.1] : List Int).length : Int) by simpa using s5), if_pos (show l.length < 17592186044416 by omega), w64 (a := (i : Int) + 1) (by omega) (by omega)]
      have := ih (i + 1) (l ++ [rd [1, 2, 3, q.1] s.1]) (p + 1 + 1) (by omega) (by rw [List.length_append, hl]; rfl) (by omega) (by omega) (by omega)
      exact this.mono fun r hr => ⟨hr.1, by omega, by omega⟩
    · simp only [if_neg h]
      exact EndsIn.now _ ⟨by show l.length ≤ 12; omega, by show p ≤ p; omega, by show p ≤ _; omega⟩
theorem part_ends {b : List Int} (hb : CodeOk b) (p : Int) (h0 : 0 ≤ p) (h1 : p ≤ 800000000) : EndsIn (fun k => spec_l91Part.f k b p) (fun r => r.2.1.length ≤ 12 ∧ p ≤ r.2.2 ∧ r.2.2 ≤ p + 30) := by
  have st : ∀ (n q : Int), n ≤ 12 → p ≤ q → q ≤ p + 5 → EndsIn (fun k => spec_l91Part.j0 k [] n b q) (fun r => r.2.1.length ≤ 12 ∧ p ≤ r.2.2 ∧ r.2.2 ≤ p + 30) := by
    intro n q hn q0 q1
    refine EndsIn.step (fun k => by rw [spec_l91Part.j0]) ?_
    have := part_loop hb n hn 12 0 [] q (by omega) rfl (by omega) (by omega) (by omega)
    exact this.mono fun r hr => ⟨hr.1, by omega, by omega⟩
  unfold spec_l91Part.f
  refine EndsIn.bind (pick_ends hb p 4 h0 (by omega) (by omega)) fun q hq => ?_
  obtain ⟨q2, q3, q4, _⟩ := hq
  rw [q2]
  by_cases hz : q.1 = 0
  · simp only [if_pos hz]
    exact EndsIn.now _ ⟨by simp, by show p ≤ p + 1; omega, by show p + 1 ≤ p + 30; omega⟩
  · simp only [if_neg hz, bindS]
    refine EndsIn.bind (pick_ends hb (p + 1) 5 (by omega) (by omega) (by omega)) fun s hs => ?_
    obtain ⟨s2, s3, s4, _⟩ := hs
    have s5 := s4 (by omega)
    rw [s2]
    refine EndsIn.bind (pick_ends hb (p + 1 + 1) 12 (by omega) (by omega) (by omega)) fun u hu => ?_
    obtain ⟨u2, u3, u4, _⟩ := hu
    rw [u2]
    by_cases hu0 : u.1 = 0
    · simp only [if_pos hu0]
      exact st _ _ (by omega) (by omega) (by omega)
    · simp only [if_neg hu0]
      exact st _ _ (by omega) (by omega) (by omega)
def Small (r : S63) : Prop := r.f3.length ≤ 12 ∧ r.f5.length ≤ 12
theorem recs_loop {b : List Int} (hb : CodeOk b) (n : Int) (hn : n ≤ 6) : ∀ d (i : Nat) (l : List S63) (o t p : Int), 6 - i = d → l.length = i → i ≤ 6 → (∀ r ∈ l, Small r) → 0 ≤ p → p ≤ 700000000 + 100 * (i : Int) →
    EndsIn (fun k => spec_l91Records.l0 k o l n t (i : Int) b p) (fun r => (∀ x ∈ r.1, Small x) ∧ (n ≤ (r.1.length : Int)) ∧ r.1.length ≤ 6 ∧ p ≤ r.2 ∧ r.2 ≤ p + 100 * (6 - (i : Int))) := by
  have stop : ∀ (i : Nat) (l : List S63) (o t p : Int), l.length = i → i ≤ 6 → (∀ r ∈ l, Small r) → ¬ (i : Int) < n →
      EndsIn (fun k => spec_l91Records.l0 k o l n t (i : Int) b p) (fun r => (∀ x ∈ r.1, Small x) ∧ (n ≤ (r.1.length : Int)) ∧ r.1.length ≤ 6 ∧ p ≤ r.2 ∧ r.2 ≤ p + 100 * (6 - (i : Int))) := by
    intro i l o t p hl hi hs h
    refine EndsIn.step (fun k => by rw [spec_l91Records.l0]) ?_
    simp only [if_neg h]
    exact EndsIn.now _ ⟨hs, by show n ≤ (l.length : Int); omega, by show l.length ≤ 6; omega, by show p ≤ p; omega, by show p ≤ _; omega⟩
  intro d
  induction d with
  | zero =>
    intro i l o t p hd hl hi hs p0 p1
    exact stop i l o t p hl hi hs (by omega)
  | succ d ih =>
    intro i l o t p hd hl hi hs p0 p1
    by_cases h : (i : Int) < n
    · refine EndsIn.step (fun k => by rw [spec_l91Records.l0]) ?_
      simp only [if_pos h]
      refine EndsIn.bind (part_ends hb p p0 (by omega)) fun q hq => ?_
      obtain ⟨q1, q2, q3⟩ := hq
      refine EndsIn.bind (part_ends hb q.2.2 (by omega) (by omega)) fun s hs' => ?_
      obtain ⟨s1, s2, s3⟩ := hs'
      have st : ∀ (c : Bool) (u : Int), s.2.2 ≤ u → u ≤ s.2.2 + 2 → EndsIn (fun k => spec_l91Records.j1 k o l n t (i : Int) s.1 s.2.1 c b u o t q.1 q.2.1 false) (fun r => (∀ x ∈ r.1, Small x) ∧ (n ≤ (r.1.length : Int)) ∧ r.1.length ≤ 6 ∧ p ≤ r.2 ∧ r.2 ≤ p + 100 * (6 - (i : Int))) := by
        intro c u u0 u1
        refine EndsIn.step (fun k => by rw [spec_l91Records.j1]) ?_
        have nx : ∀ (x : S63) (o' t' v : Int), Small x → u ≤ v → v ≤ u + 5 → EndsIn (fun k => spec_l91Records.l0 k o' (l ++ [x]) n t' ((i : Int) + 1) b v) (fun r => (∀ x ∈ r.1, Small x) ∧ (n ≤ (r.1.length : Int)) ∧ r.1.length ≤ 6 ∧ p ≤ r.2 ∧ r.2 ≤ p + 100 * (6 - (i : Int))) := by
          intro x o' t' v hx v0 v1
          have := ih (i + 1) (l ++ [x]) o' t' v (by omega) (by rw [List.length_append, hl]; rfl) (by omega) (fun r hr => by
            rcases List.mem_append.1 hr with hr | hr
            · exact hs r hr
            · rw [List.mem_singleton] at hr
              rw [hr]
              exact hx) (by omega) (by omega)
          exact this.mono fun r hr => ⟨hr.1, hr.2.1, hr.2.2.1, by omega, by omega⟩
        cases c
        · simp only [Bool.false_eq_true, if_false, if_pos (show l.length < 1759218604441 by omega)]
          refine EndsIn.bind (pick_ends hb u 5 (by omega) (by omega) (by omega)) fun v hv => ?_
          rw [hv.1]
          refine EndsIn.bind (pick_ends hb (u + 1) 30 (by omega) (by omega) (by omega)) fun z hz => ?_
          rw [hz.1, w64 (a := (i : Int) + 1) (by omega) (by omega)]
          exact nx _ _ _ _ ⟨q1, s1⟩ (by omega) (by omega)
        · simp only [if_true, if_pos (show l.length < 1759218604441 by omega)]
          refine EndsIn.bind (pick_ends hb u 3 (by omega) (by omega) (by omega)) fun y hy => ?_
          rw [hy.1]
          refine EndsIn.bind (pick_ends hb (u + 1) 5 (by omega) (by omega) (by omega)) fun v hv => ?_
          rw [hv.1]
          refine EndsIn.bind (pick_ends hb (u + 1 + 1) 30 (by omega) (by omega) (by omega)) fun z hz => ?_
          rw [hz.1, w64 (a := (i : Int) + 1) (by omega) (by omega)]
          exact nx _ _ _ _ ⟨by show 1 ≤ 12; omega, s1⟩ (by omega) (by omega)
      cases hq1 : q.1
      · simp only [Bool.false_eq_true, if_false]
        have := st false s.2.2 (by omega) (by omega)
        rw [hq1] at this
        exact this
      · simp only [if_true]
        refine EndsIn.bind (pick_ends hb s.2.2 2 (by omega) (by omega) (by omega)) fun y hy => ?_
        rw [hy.1]
        have := st (y.1 == 0) (s.2.2 + 1) (by omega) (by omega)
        rw [hq1] at this
        exact this
    · exact stop i l o t p hl hi hs h
/-- Some records: one at least. -/
theorem recs_ends {b : List Int} (hb : CodeOk b) (p a n : Int) (h0 : 0 ≤ p) (h1 : p ≤ 600000000) (hn1 : 1 ≤ n) (hn : n ≤ 6) :
    EndsIn (fun k => spec_l91Records.f k b p a n) (fun r => (∀ x ∈ r.1, Small x) ∧ 1 ≤ r.1.length ∧ r.1.length ≤ 6 ∧ p ≤ r.2 ∧ r.2 ≤ p + 700) := by
  unfold spec_l91Records.f
  refine EndsIn.bind (pick_ends hb p n h0 (by omega) (by omega)) fun q hq => ?_
  obtain ⟨q2, q3, q4, _⟩ := hq
  have q5 := q4 (by omega)
  rw [q2]
  refine EndsIn.bind (pick_ends hb (p + 1) 200 (by omega) (by omega) (by omega)) fun s hs => ?_
  rw [hs.1, w64 (a := 1 + q.1) (by omega) (by omega)]
  have := recs_loop hb (1 + q.1) (by omega) 6 0 [] a s.1 (p + 1 + 1) (by omega) rfl (by omega) (by simp) (by omega) (by omega)
  exact this.mono fun r hr => ⟨hr.1, by omega, hr.2.2.1, by omega, by omega⟩
def BatS (l : List S63) : Prop := (∀ x ∈ l, Small x) ∧ 1 ≤ l.length ∧ l.length ≤ 7
theorem bat_j {b : List Int} (hb : CodeOk b) (p : Int) (h0 : 0 ≤ p) (h1 : p ≤ 600000000) (c0 c1 : Bool) (x y z : Int) (l : List S63) (hl : (∀ x ∈ l, Small x) ∧ 1 ≤ l.length ∧ l.length ≤ 6) :
    EndsIn (fun k => spec_l91Batch.j0 k b p c0 c1 x y z l) (fun r => BatS r.2.2.2.2.2.1 ∧ p ≤ r.2.2.2.2.2.2 ∧ r.2.2.2.2.2.2 ≤ p + 3) := by
  obtain ⟨l1, l2, l3⟩ := hl
  have hB : BatS l := ⟨l1, l2, by omega⟩
  refine EndsIn.step (fun k => by rw [spec_l91Batch.j0]) ?_
  refine EndsIn.bind (pick_ends hb p 40 h0 (by omega) (by omega)) fun q hq => ?_
  rw [hq.1]
  by_cases e0 : q.1 = 0
  · simp only [if_pos e0, bindS]
    refine EndsIn.bind (pick_ends hb (p + 1) 3 (by omega) (by omega) (by omega)) fun s hs => ?_
    obtain ⟨s2, s3, s4, _⟩ := hs
    have s5 := s4 (by omega)
    simp only [if_pos s3, if_pos (show s.1 < (([(-1), 1, 100] : List Int).length : Int) by simpa using s5)]
    exact EndsIn.now _ ⟨hB, by show p ≤ s.2; omega, by show s.2 ≤ p + 3; omega⟩
  · simp only [if_neg e0]
    by_cases e1 : q.1 = 1
    · simp only [if_pos e1, if_pos (show (0 : Int) < (l.length : Int) by omega), if_pos (show l.length < 1759218604441 by omega)]
      refine EndsIn.now _ ⟨⟨fun r hr => ?_, by show 1 ≤ (l ++ [_]).length; rw [List.length_append]; omega, by show (l ++ [_]).length ≤ 7; rw [List.length_append]; simp only [List.length_singleton]; omega⟩, by show p ≤ p + 1; omega, by show p + 1 ≤ p + 3; omega⟩
      rcases List.mem_append.1 hr with hr | hr
      · exact l1 r hr
      · rw [List.mem_singleton] at hr
        rw [hr]
        have := l1 _ (List.getElem_mem (show 0 < l.length by omega))
        rw [← rdR_nat l 0 (by omega)] at this
        exact this
    · simp only [if_neg e1]
      by_cases e2 : q.1 = 2
      · simp only [if_pos e2]
        exact EndsIn.now _ ⟨hB, by show p ≤ p + 1; omega, by show p + 1 ≤ p + 3; omega⟩
      · simp only [if_neg e2]
        exact EndsIn.now _ ⟨hB, by show p ≤ p + 1; omega, by show p + 1 ≤ p + 3; omega⟩
theorem bat_ends {b : List Int} (hb : CodeOk b) (p a : Int) (h0 : 0 ≤ p) (h1 : p ≤ 500000000) :
    EndsIn (fun k => spec_l91Batch.f k b p a) (fun r => BatS r.2.2.2.2.2.1 ∧ p ≤ r.2.2.2.2.2.2 ∧ r.2.2.2.2.2.2 ≤ p + 800) := by
  unfold spec_l91Batch.f
  refine EndsIn.bind (pick_ends hb p 2 h0 (by omega) (by omega)) fun q hq => ?_
  rw [hq.1]
  refine EndsIn.bind (recs_ends hb (p + 1) a 4 (by omega) (by omega) (by omega) (by omega)) fun s hs => ?_
  obtain ⟨s1, s2, s3, s4, s5⟩ := hs
  refine EndsIn.bind (pick_ends hb s.2 3 (by omega) (by omega) (by omega)) fun t ht => ?_
  rw [ht.1]
  by_cases e0 : t.1 = 0
  · simp only [if_pos e0]
    refine EndsIn.bind (pick_ends hb (s.2 + 1) 3 (by omega) (by omega) (by omega)) fun u hu => ?_
    rw [hu.1]
    refine EndsIn.bind (pick_ends hb (s.2 + 1 + 1) 3 (by omega) (by omega) (by omega)) fun v hv => ?_
    rw [hv.1]
    refine EndsIn.bind (pick_ends hb (s.2 + 1 + 1 + 1) 5 (by omega) (by omega) (by omega)) fun x hx => ?_
    rw [hx.1]
    refine EndsIn.bind (pick_ends hb (s.2 + 1 + 1 + 1 + 1) 3 (by omega) (by omega) (by omega)) fun y hy => ?_
    rw [hy.1]
    by_cases ey : y.1 = 0
    · simp only [if_pos ey]
      refine EndsIn.bind (pick_ends hb (s.2 + 1 + 1 + 1 + 1 + 1) 200 (by omega) (by omega) (by omega)) fun z hz => ?_
      rw [hz.1]
      refine EndsIn.bind (pick_ends hb (s.2 + 1 + 1 + 1 + 1 + 1 + 1) 2 (by omega) (by omega) (by omega)) fun m hm => ?_
      rw [hm.1]
      refine (bat_j hb (s.2 + 1 + 1 + 1 + 1 + 1 + 1 + 1) (by omega) (by omega) _ _ _ _ _ _ ⟨fun r hr => ?_, by simp, by simp⟩).mono fun r hr => ⟨hr.1, by omega, by omega⟩
      rw [List.mem_singleton] at hr
      rw [hr]
      exact ⟨by show 0 ≤ 12; omega, by show 1 ≤ 12; omega⟩
    · simp only [if_neg ey]
      exact (bat_j hb (s.2 + 1 + 1 + 1 + 1 + 1) (by omega) (by omega) _ _ _ _ _ _ ⟨s1, s2, s3⟩).mono fun r hr => ⟨hr.1, by omega, by omega⟩
  · simp only [if_neg e0]
    exact (bat_j hb (s.2 + 1) (by omega) (by omega) _ _ _ _ _ _ ⟨s1, s2, s3⟩).mono fun r hr => ⟨hr.1, by omega, by omega⟩
theorem BatS.rowR {l : List S63} (h : BatS l) : RowR l := ⟨by have := h.2.2; omega, fun r hr => by have := h.1 r hr; unfold Small at this; exact ⟨by omega, by omega⟩⟩
end Go.Proofs.Ythoioccmnphfgaa.Pu

namespace Go.Proofs.Ythoioccmnphfgaa.Pu
open Go.RowKit Go.Proofs.YthoioccmnphfgaaW.PrintWords Go.Proofs.YthoioccmnphfgaaW.PrintLast Go.Proofs.YthoioccmnphfgaaW.PrintMore Go.Proofs.Ythoioccmnphfgaa.G
set_option linter.unusedVariables false
set_option linter.unusedSimpArgs false
def DrL (l : List S46) : Prop := l.length ≤ 9 ∧ ∀ x ∈ l, BatS x.f5
theorem DrL.rowB {l : List S46} (h : DrL l) : RowB l := ⟨by have := h.1; omega, fun x hx => (h.2 x hx).rowR⟩
theorem log_loop {b : List Int} (hb : CodeOk b) (n : Int) (hn : n ≤ 9) : ∀ d (i : Nat) (l : List S46) (o p : Int), 9 - i = d → l.length = i → i ≤ 9 → (∀ x ∈ l, BatS x.f5) → 0 ≤ p → p ≤ 400000000 + 2000 * (i : Int) →
    EndsIn (fun k => spec_l92Log.l0 k l n o (i : Int) b p) (fun r => DrL r.1 ∧ p ≤ r.2 ∧ r.2 ≤ p + 2000 * (9 - (i : Int)) + 10) := by
  have stop : ∀ (i : Nat) (l : List S46) (o p : Int), l.length = i → i ≤ 9 → (∀ x ∈ l, BatS x.f5) → 0 ≤ p → p ≤ 400000000 + 2000 * (i : Int) → ¬ (i : Int) < n →
      EndsIn (fun k => spec_l92Log.l0 k l n o (i : Int) b p) (fun r => DrL r.1 ∧ p ≤ r.2 ∧ r.2 ≤ p + 2000 * (9 - (i : Int)) + 10) := by
    intro i l o p hl hi hs p0 p1 h
    refine EndsIn.step (fun k => by rw [spec_l92Log.l0]) ?_
    simp only [if_neg h]
    by_cases h1 : n > 1
    · simp only [if_pos h1]
      refine EndsIn.bind (pick_ends hb p 30 p0 (by omega) (by omega)) fun q hq => ?_
      rw [hq.1]
      by_cases e0 : q.1 = 0
      · simp only [if_pos e0, if_pos (show (0 : Int) < (l.length : Int) by omega), if_pos (show (1 : Int) < (l.length : Int) by omega)]
        refine EndsIn.now _ ⟨⟨by rw [List.length_set]; omega, fun x hx => ?_⟩, by show p ≤ p + 1; omega, by show p + 1 ≤ _; omega⟩
        rcases List.mem_or_eq_of_mem_set hx with hx | rfl
        · exact hs x hx
        · have := hs _ (List.getElem_mem (show 0 < l.length by omega))
          rw [← rdB_nat l 0 (by omega)] at this
          exact this
      · simp only [if_neg e0]
        exact EndsIn.now _ ⟨⟨by show l.length ≤ 9; omega, hs⟩, by show p ≤ p + 1; omega, by show p + 1 ≤ _; omega⟩
    · simp only [if_neg h1]
      exact EndsIn.now _ ⟨⟨by show l.length ≤ 9; omega, hs⟩, by show p ≤ p; omega, by show p ≤ _; omega⟩
  intro d
  induction d with
  | zero =>
    intro i l o p hd hl hi hs p0 p1
    exact stop i l o p hl hi hs p0 p1 (by omega)
  | succ d ih =>
    intro i l o p hd hl hi hs p0 p1
    by_cases h : (i : Int) < n
    · refine EndsIn.step (fun k => by rw [spec_l92Log.l0]) ?_
      simp only [if_pos h]
      refine EndsIn.bind (bat_ends hb p o p0 (by omega)) fun x hx => ?_
      obtain ⟨x1, x2, x3⟩ := hx
      refine EndsIn.bind (pick_ends hb x.2.2.2.2.2.2 20 (by omega) (by omega) (by omega)) fun q hq => ?_
      have q2 := hq.1
      have nx : ∀ (y : S46) (o' v : Int), BatS y.f5 → p ≤ v → v ≤ p + 2000 → EndsIn (fun k => spec_l92Log.l0 k (l ++ [y]) n o' ((i : Int) + 1) b v) (fun r => DrL r.1 ∧ p ≤ r.2 ∧ r.2 ≤ p + 2000 * (9 - (i : Int)) + 10) := by
        intro y o' v hy v0 v1
        have := ih (i + 1) (l ++ [y]) o' v (by omega) (by rw [List.length_append, hl]; rfl) (by omega) (fun r hr => by
          rcases List.mem_append.1 hr with hr | hr
          · exact hs r hr
          · rw [List.mem_singleton] at hr
            rw [hr]
            exact hy) (by omega) (by omega)
        exact this.mono fun r hr => ⟨hr.1, by omega, by omega⟩
      have st : ∀ (c : Bool), EndsIn (fun k => spec_l92Log.j2 k l n o (i : Int) c b q.2 x.1 x.2.1 x.2.2.1 x.2.2.2.1 x.2.2.2.2.1 x.2.2.2.2.2.1) (fun r => DrL r.1 ∧ p ≤ r.2 ∧ r.2 ≤ p + 2000 * (9 - (i : Int)) + 10) := by
        intro c
        refine EndsIn.step (fun k => by rw [spec_l92Log.j2]) ?_
        cases c
        · obtain ⟨y1, y2, y3⟩ := x1
          simp only [Bool.false_eq_true, if_false, if_pos (show l.length < 2513169434916 by omega), w64 (a := (x.2.2.2.2.2.1.length : Int) - 1) (by omega) (by omega), if_pos (show (0 : Int) ≤ (x.2.2.2.2.2.1.length : Int) - 1 by omega), if_pos (show (x.2.2.2.2.2.1.length : Int) - 1 < (x.2.2.2.2.2.1.length : Int) by omega)]
          refine EndsIn.bind (pick_ends hb q.2 4 (by omega) (by omega) (by omega)) fun z hz => ?_
          rw [hz.1, w64 (a := (i : Int) + 1) (by omega) (by omega)]
          exact nx _ _ _ ⟨y1, y2, y3⟩ (by omega) (by omega)
        · simp only [if_true]
          refine EndsIn.bind (recs_ends hb q.2 o 2 (by omega) (by omega) (by omega) (by omega)) fun s hs => ?_
          obtain ⟨s1, s2, s3, s4, s5⟩ := hs
          simp only [if_pos (show l.length < 2513169434916 by omega), w64 (a := (s.1.length : Int) - 1) (by omega) (by omega), if_pos (show (0 : Int) ≤ (s.1.length : Int) - 1 by omega), if_pos (show (s.1.length : Int) - 1 < (s.1.length : Int) by omega)]
          refine EndsIn.bind (pick_ends hb s.2 4 (by omega) (by omega) (by omega)) fun z hz => ?_
          rw [hz.1, w64 (a := (i : Int) + 1) (by omega) (by omega)]
          exact nx _ _ _ ⟨s1, s2, by show s.1.length ≤ 7; omega⟩ (by omega) (by omega)
      by_cases e0 : q.1 > 0
      · simp only [if_pos e0]
        refine EndsIn.bind (P := fun _ => True) ⟨_, sBatchValid_ev ⟨x.1, x.2.1, x.2.2.1, x.2.2.2.1, x.2.2.2.2.1, x.2.2.2.2.2.1⟩ x1.rowR, trivial⟩ fun t _ => ?_
        exact st _
      · simp only [if_neg e0]
        exact st _
    · exact stop i l o p hl hi hs p0 p1 h
theorem drawLog_ends {b : List Int} (hb : CodeOk b) (p : Int) (h0 : 0 ≤ p) (h1 : p ≤ 300000000) : EndsIn (fun k => spec_l92Log.f k b p) (fun r => DrL r.1 ∧ p ≤ r.2 ∧ r.2 ≤ p + 20000) := by
  have st : ∀ (n q : Int), n ≤ 9 → p ≤ q → q ≤ p + 10 → EndsIn (fun k => spec_l92Log.j0 k [] n b q) (fun r => DrL r.1 ∧ p ≤ r.2 ∧ r.2 ≤ p + 20000) := by
    intro n q hn hq0 hq1
    refine EndsIn.step (fun k => by rw [spec_l92Log.j0]) ?_
    refine EndsIn.bind (pick_ends hb q 10 (by omega) (by omega) (by omega)) fun t ht => ?_
    rw [ht.1]
    have := log_loop hb n hn 9 0 [] t.1 (q + 1) (by omega) rfl (by omega) (by simp) (by omega) (by omega)
    exact this.mono fun r hr => ⟨hr.1, by omega, by omega⟩
  unfold spec_l92Log.f
  simp only [bindS]
  refine EndsIn.bind (pick_ends hb p 5 h0 (by omega) (by omega)) fun q hq => ?_
  obtain ⟨q2, q3, q4, _⟩ := hq
  have q5 := q4 (by omega)
  rw [q2]
  refine EndsIn.bind (pick_ends hb (p + 1) 16 (by omega) (by omega) (by omega)) fun s hs => ?_
  rw [hs.1]
  by_cases hz : s.1 = 0
  · simp only [if_pos hz]
    refine EndsIn.bind (pick_ends hb (p + 1 + 1) 3 (by omega) (by omega) (by omega)) fun u hu => ?_
    obtain ⟨u2, u3, u4, _⟩ := hu
    have u5 := u4 (by omega)
    simp only [if_pos u3, if_pos (show u.1 < (([0, 8, 9] : List Int).length : Int) by simpa using u5)]
    rw [u2]
    refine st _ _ ?_ (by omega) (by omega)
    have : u.1 = 0 ∨ u.1 = 1 ∨ u.1 = 2 := by omega
    rcases this with e | e | e <;> (rw [e]; decide)
  · simp only [if_neg hz, w64 (a := 1 + q.1) (by omega) (by omega)]
    exact st _ _ (by omega) (by omega) (by omega)
end Go.Proofs.Ythoioccmnphfgaa.Pu

namespace Go.Proofs.Ythoioccmnphfgaa.Pu
open Go.RowKit Go.Proofs.YthoioccmnphfgaaW.PrintWords Go.Proofs.YthoioccmnphfgaaW.PrintLast Go.Proofs.Ythoioccmnphfgaa.G
set_option linter.unusedVariables false
set_option linter.unusedSimpArgs false
theorem open_some (l0 : List Int) (hr : ∀ x ∈ l0, 0 ≤ x ∧ x ≤ 255) : ∃ b, spec_l6Open.f l0 = some (b, 0) ∧ CodeOk b := by
  unfold spec_l6Open.f
  by_cases h : (l0.length : Int) > 2000
  · rw [if_pos h, if_pos (by omega)]
    exact ⟨_, rfl, by rw [List.length_take]; omega, fun x hx => hr x (List.mem_of_mem_take hx)⟩
  · rw [if_neg h]
    exact ⟨_, rfl, by omega, hr⟩
end Go.Proofs.Ythoioccmnphfgaa.Pu

namespace Go.Proofs.Ythoioccmnphfgaa.Pure
open Go.RowKit Go.Proofs.Ythoioccmnphfgaa.G Go.Proofs.YthoioccmnphfgaaW.PrintWords Go.Proofs.YthoioccmnphfgaaW.PrintLast Go.Proofs.YthoioccmnphfgaaW.PrintMore Go.Proofs.Ythoioccmnphfgaa.Pu
set_option linter.unusedSimpArgs false
theorem FnKeep : OFnKeep.Pure := by
  intro l0 hl0 ho0
  refine EndsIn.rounds ?_
  unfold laws_FnKeep.f
  have hr := fun x hx => u8_range (ho0 x hx)
  by_cases h : (l0.length : Int) > 1048576
  · simp only [if_pos h]
    exact EndsIn.now _ rfl
  · simp only [if_neg h]
    obtain ⟨c, hc, hok⟩ := open_some l0 hr
    unfold spec_DrawKeepSize.f
    simp only [hc, bindS]
    refine EndsIn.bind (P := fun r => DrL r.1) (EndsIn.bind (drawLog_ends hok 0 (by omega) (by omega)) fun r hr => EndsIn.bind (pick_ends hok r.2 250 (by omega) (by omega) (by omega)) fun s hs => EndsIn.bind (pick_ends hok s.2 30 (by omega) (by omega) (by omega)) fun u hu => EndsIn.now _ hr.1) fun q hq => ?_
    obtain ⟨l, t⟩ := q
    have hb : RowB l := DrL.rowB hq
    refine ⟨true, ?_, rfl⟩
    refine Ev.bind (KeepSize_ev t l hb) (Ev.bind (sKeepSize_ev t l hb) ?_)
    simp only [if_true]
    by_cases hv : logOk l = true ∧ 0 ≤ t ∧ t ≤ 99999
    · have e : keepSV t l = ((kR t l : Nat) : Int) := by unfold keepSV; rw [if_pos hv]
      rw [e]
      simp only [if_neg (show ¬ ((kR t l : Nat) : Int) < 0 by omega)]
      refine Ev.step (fun k => by rw [laws_FnKeep.j0]) ?_
      by_cases h0 : l.length = 0
      · simp only [show ((l.length : Int) == 0) = true by rw [h0]; rfl, if_true, beq_self_eq_true]
        exact Ev.now _
      · have hR := logOk_R hv.1
        have hle := kR_le t l
        have hfit := kR_fits t l
        have hbef := kR_before t l
        simp only [show ((l.length : Int) == 0) = false by simp; exact fun e => h0 (by rw [e]; rfl), Bool.false_eq_true, if_false, if_neg (show ¬ ((kR t l : Nat) : Int) ≥ (l.length : Int) by omega), if_pos (show (0 : Int) ≤ ((kR t l : Nat) : Int) by omega), if_pos (show ((kR t l : Nat) : Int) ≤ (l.length : Int) by omega), Int.toNat_natCast]
        refine Ev.bind (LogSize_ev _ (hb.drop (kR t l))) ?_
        rw [lsize_drop hv.1]
        have hlast : Ev (fun k => if ((kR t l : Nat) : Int) = 0 then some true else if 0 ≤ wrap64 (((kR t l : Nat) : Int) - 1) then (if wrap64 (((kR t l : Nat) : Int) - 1) ≤ (l.length : Int) then (impl_LogSize.f k (l.drop (wrap64 (((kR t l : Nat) : Int) - 1)).toNat)).bind fun t662 => some (decide (t662 > t)) else none) else none) true := by
          by_cases hz : kR t l = 0
          · simp only [if_pos (show ((kR t l : Nat) : Int) = 0 by omega)]
            exact Ev.now _
          · simp only [if_neg (show ¬ ((kR t l : Nat) : Int) = 0 by omega), w64 (a := ((kR t l : Nat) : Int) - 1) (by omega) (by omega), if_pos (show (0 : Int) ≤ ((kR t l : Nat) : Int) - 1 by omega), if_pos (show ((kR t l : Nat) : Int) - 1 ≤ (l.length : Int) by omega), show (((kR t l : Nat) : Int) - 1).toNat = kR t l - 1 by omega]
            refine Ev.bind (LogSize_ev _ (hb.drop (kR t l - 1))) ?_
            rw [lsize_drop hv.1]
            simp only [decide_eq_true (hbef (by omega))]
            exact Ev.now _
        by_cases hf : ((sizeV (l.drop (kR t l)) : Nat) : Int) ≤ t
        · simp only [if_pos hf]
          exact hlast
        · simp only [if_neg hf, w64 (a := (l.length : Int) - 1) (by omega) (by omega), if_pos (show ((kR t l : Nat) : Int) = (l.length : Int) - 1 by rcases hfit with h1 | h1 <;> omega)]
          exact hlast
    · have e : keepSV t l = -1 := by unfold keepSV; rw [if_neg hv]
      rw [e]
      simp only [if_pos (show (-1 : Int) < 0 by omega)]
      refine Ev.step (fun k => by rw [laws_FnKeep.j0]) ?_
      simp only [if_true, beq_self_eq_true]
      exact Ev.now _
end Go.Proofs.Ythoioccmnphfgaa.Pure

namespace Go.Proofs.Ythoioccmnphfgaa.fnKeep
open Go.ChangeShapes Go.WideShapes Go.ChangeAt Go.RowKit Go.Proofs.Ythoioccmnphfgaa.OFnKeep Go.Proofs.Ythoioccmnphfgaa.G Go.Joins
open Go.ChangeMaps (open_string shut_string)
set_option linter.unusedVariables false
theorem own : ownKnob Try.prog.godebug = none := by kernel_rfl
theorem laidOut : laidOutB Try.prog = true := by kernel_rfl
set_option maxRecDepth 100000 in
theorem lifted (os : Os) (started : os.Started) (H : Type) (enc : TypeId × Value → H) :
    ReturnsInHanded {} Try.checked os 5 .any (Rows.fnKeepSpec.pre6 enc Try.prog Try.f5 Rows.fnKeepRow.domain false) (Rows.fnKeepSpec.post enc Try.prog Try.f5 false true false false) := by
  refine returnsInHanded_of_change_sized (C := Try.checked) own started (by kernel_rfl) Try.func5
    (ChangeSpec.witness6 (enc := enc) (C := Try.checked) false ⟨#[], #[.slice none 0 0], []⟩ 8 (by kernel_rfl) (by kernel_rfl) (by kernel_rfl) (by kernel_rfl)) ?_
  intro W base args ds gs before hval0 hW hcnd hsz0 _
  have hsz : (DataW.weightsEach Try.prog (Try.f5.params.toList ++ Rows.fnKeepSpec.plain.varTypes Try.prog) (ds ++ gs)).all (· ≤ reachBytes) = true := hsz0
  have hval : ∀ (j : Nat) t v, Try.f5.params[j]? = some t → args[j]? = some v → Value.okWide Try.prog W .any base t v := hval0
  have hW' := hW
  obtain ⟨p, q, hA0, hV, rfl, hfz, hnd⟩ := hW
  have hA : DataW.TrodAll enc Try.prog W 0 (fun _ => true) true Try.f5.params.toList args.toList ds p := hA0
  rw [Try.params5] at hA hval hsz
  obtain ⟨v0, vs0, d0, ds0, p0, q0, hargs, rfl, rfl, h0, r0⟩ := trodAll_cons hA
  obtain ⟨rfl, rfl, rfl⟩ := trodAll_nil r0
  obtain rfl : args = #[v0] := by cases args; simp_all
  obtain ⟨rfl, rfl⟩ := trodVars_none hV
  obtain ⟨a0, len0, cap0, rfl⟩ := okWide_slice Try.underlying22 (hval 0 22 v0 rfl rfl)
  have k0 := h0
  have lt0 : ∀ x ∈ p0, x.block < W.heap.size := by obtain ⟨m, hm⟩ := k0; exact DataW.trod_lt m _ _ _ hm
  obtain ⟨fuel0, hf0⟩ := h0
  obtain ⟨A0, c0, l0, hcs0, hlc0, hm0, hC0, ho0⟩ := Rd.opens_row Try.underlying22 (Rd.opens_int Try.underlying5 (by kernel_rfl)) hf0
  simp [Value.cells] at hcs0
  obtain ⟨rfl, rfl, rfl⟩ := hcs0
  clear hA0 hval0 hsz0 hsz
  obtain ⟨k, h⟩ := Pure.FnKeep l0 (Nat.le_trans hlc0 hm0) ho0
  refine (laws_FnKeep.calls k _ _ l0 true W hC0 hlc0 h).mono fun e W' ⟨he, bel0⟩ => ?_
  subst he
  have bel : Below W.heap.size W W' := bel0
  exact ⟨_, rfl, _, _, _, [], _, [], hW', trodAll_mk1 (shut_bool Try.underlying4 _), (trodAll_cons_mk (Below.trod laidOut (by kernel_rfl) (of_decide_eq_true (by kernel_rfl)) k0 bel lt0) trodAll_mk0), rfl, bel.frame _, fun h => by cases h⟩
theorem over : Rows.fnKeepRow.holds Try.pinned (OpenSpec.ofChange Rows.fnKeepSpec) :=
  OpenClaim.holds_of_wide 5 Try.f5 rfl rfl rfl rfl rfl rfl rfl ⟨rfl, rfl, rfl, rfl, rfl⟩ rfl rfl rfl rfl rfl (by kernel_rfl) Try.func5 (by kernel_rfl)
    (of_decide_eq_true (by kernel_rfl)) (by unfold Func.isWrapper; first | (rw [if_pos (by decide +kernel)]; kernel_rfl) | (rw [if_neg (by decide +kernel)]; exact ⟨rfl, rfl⟩))
    (fun os started H enc _ => lifted os started H enc)
theorem proved : Rows.FnKeepSaid := over
#print axioms proved
end Go.Proofs.Ythoioccmnphfgaa.fnKeep
namespace Go.Proofs.Ythoioccmnphfgaa
/-- The row, under a short name, for the claim. -/
theorem fnKeep_holds : Rows.FnKeepSaid := fnKeep.proved
end Go.Proofs.Ythoioccmnphfgaa

