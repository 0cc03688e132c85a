/- A text of seat Ythoioccmnphfgaa: what the law FnExactLogSize needs of this repo's texts (by pack.py). Not trusted: Lean checks it. -/
import Derived.Test.YthoioccmnphfgaaKFnExactLogSize9
import Derived.Test.YthoioccmnphfgaaRows
import Derived.WalkKit
import Derived.ProofKit
import Derived.OpenShut
import Derived.ShutString
import Derived.ChangeOld
import Derived.Below
import Derived.SizedLaws
import Derived.Lib.SmallJoins
import Derived.Laws.StructEq
import Derived.ChangeSlices
namespace Go.Proofs.Ythoioccmnphfgaa.Pu
open Go.RowKit Go.Proofs.YthoioccmnphfgaaW.PrintWords Go.Proofs.YthoioccmnphfgaaW.PrintLast Go.Proofs.YthoioccmnphfgaaW.PrintMore Go.Proofs.Ythoioccmnphfgaa.G
set_option linter.unusedVariables false
set_option linter.unusedSimpArgs false
theorem or128 (r : Int) (h0 : 0 ≤ r) (h1 : r < 128) : bits .or .i64 r 128 = 128 + r := by
  have h : ∀ x : Fin 128, bits .or .i64 ((x.val : Nat) : Int) 128 = 128 + ((x.val : Nat) : Int) := by decide
  have := h ⟨r.toNat, by omega⟩
  simp only at this
  rwa [show ((r.toNat : Nat) : Int) = r by omega] at this
def varF : Nat → Int → List Int
  | 0, x => [x]
  | n + 1, x => if x < 128 then [x] else (128 + x % 128) :: varF n (x / 128)
def foldI (x : Int) : Int := if x < 0 then -2 * x - 1 else 2 * x
def varV (x : Int) : List Int := varF 10 (foldI x)
theorem varF_len : ∀ (n : Nat) (x : Int), (varF n x).length ≤ n + 1
  | 0, x => by simp [varF]
  | n + 1, x => by
    unfold varF
    have := varF_len n (x / 128)
    split <;> simp <;> omega
theorem varV_len (x : Int) : (varV x).length ≤ 11 := varF_len 10 _
theorem varF_in : ∀ (n : Nat) (x : Int), 0 ≤ x → x ≤ 1000000000000000 → (varF n x).all inI = true
  | 0, x, h0, h1 => by
    simp [varF, inI]
    omega
  | n + 1, x, h0, h1 => by
    unfold varF
    split
    · simp [inI]
      omega
    · have := varF_in n (x / 128) (by omega) (by omega)
      rw [List.all_cons, this, Bool.and_true]
      simp [inI]
      omega
theorem var_loop : ∀ (n : Nat) (x : Int) (acc : List Int), 0 ≤ x → x < 128 * 128 ^ n → acc.length + n ≤ 1000 → Ev (fun k => impl_varOf.l0 k acc x) (acc ++ varF n x)
  | 0, x, acc, h0, h1, h2 => by
    refine Ev.step (fun k => by rw [impl_varOf.l0]) ?_
    simp only [if_pos (show x < 128 by simpa using h1), if_pos (show acc.length < 17592186044416 by omega), varF]
    exact Ev.now _
  | n + 1, x, acc, h0, h1, h2 => by
    refine Ev.step (fun k => by rw [impl_varOf.l0]) ?_
    unfold varF
    by_cases h : x < 128
    · simp only [if_pos h, if_pos (show acc.length < 17592186044416 by omega)]
      exact Ev.now _
    · simp only [if_neg h, if_pos (show acc.length < 17592186044416 by omega), i64_and127, or128 (x % 128) (by omega) (by omega)]
      have h3 : x / 128 < 128 * 128 ^ n := by
        rw [Int.pow_succ, ← Int.mul_assoc] at h1
        exact Int.ediv_lt_of_lt_mul (by omega) h1
      have := var_loop n (x / 128) (acc ++ [128 + x % 128]) (by omega) h3 (by simp; omega)
      rw [List.append_assoc, List.singleton_append] at this
      exact this
theorem svar_loop : ∀ (n : Nat) (x : Int) (acc : List Int), 0 ≤ x → x < 128 * 128 ^ n → x ≤ 1000000000000000 → acc.length + n ≤ 1000 → Ev (fun k => spec_l1Bytes.l0 k x acc) (acc ++ varF n x)
  | 0, x, acc, h0, h1, h4, h2 => by
    refine Ev.step (fun k => by rw [spec_l1Bytes.l0]) ?_
    simp only [if_neg (show ¬ x > 127 by have : x < 128 := by simpa using h1
                                         omega), if_pos (show acc.length < 17592186044416 by omega), varF]
    exact Ev.now _
  | n + 1, x, acc, h0, h1, h4, h2 => by
    refine Ev.step (fun k => by rw [spec_l1Bytes.l0]) ?_
    unfold varF
    by_cases h : x < 128
    · simp only [if_pos h, if_neg (show ¬ x > 127 by omega), if_pos (show acc.length < 17592186044416 by omega)]
      exact Ev.now _
    · have e1 : Int.tdiv x 128 = x / 128 := Int.tdiv_eq_ediv_of_nonneg h0
      have e2 : Int.tmod x 128 = x % 128 := Int.tmod_eq_emod_of_nonneg h0
      simp only [if_neg h, if_pos (show x > 127 by omega), if_pos (show acc.length < 17592186044416 by omega), e1, e2, w64 (a := x / 128) (by omega) (by omega), w64 (a := 128 + x % 128) (by omega) (by omega)]
      have h3 : x / 128 < 128 * 128 ^ n := by
        rw [Int.pow_succ, ← Int.mul_assoc] at h1
        exact Int.ediv_lt_of_lt_mul (by omega) h1
      have := svar_loop n (x / 128) (acc ++ [128 + x % 128]) (by omega) h3 (by omega) (by simp; omega)
      rw [List.append_assoc, List.singleton_append] at this
      exact this
theorem foldI_in {x : Int} (h0 : -1000000 ≤ x) (h1 : x ≤ 1000000) : 0 ≤ foldI x ∧ foldI x ≤ 2000000 := by
  unfold foldI
  split <;> omega
theorem varV_in {x : Int} (h0 : -1000000 ≤ x) (h1 : x ≤ 1000000) : (varV x).all inI = true := varF_in _ _ (foldI_in h0 h1).1 (by have := foldI_in h0 h1; omega)
theorem varOf_ev {x : Int} (h0 : -1000000 ≤ x) (h1 : x ≤ 1000000) : Ev (fun k => impl_varOf.f k x) (varV x) := by
  have hf := foldI_in h0 h1
  have hF : Ev (fun k => impl_FoldNumber.f k x) (foldI x) := by
    unfold impl_FoldNumber.f
    simp only [if_neg (show ¬ x < -1000000 by omega), decide_eq_false (show ¬ x > 1000000 by omega)]
    refine Ev.step (fun k => by rw [impl_FoldNumber.j0]) ?_
    simp only [Bool.false_eq_true, if_false]
    unfold foldI
    by_cases h : x < 0
    · simp only [if_pos h, w64 (a := -2 * x) (by omega) (by omega), w64 (a := -2 * x - 1) (by omega) (by omega)]
      exact Ev.now _
    · simp only [if_neg h, w64 (a := 2 * x) (by omega) (by omega)]
      exact Ev.now _
  unfold impl_varOf.f
  refine Ev.bind hF ?_
  · have := var_loop 10 (foldI x) [] hf.1 (by omega) (by simp)
    exact this
theorem l1Bytes_ev {x : Int} (h0 : -1000000 ≤ x) (h1 : x ≤ 1000000) : Ev (fun k => spec_l1Bytes.f k x) (varV x) := by
  have hf := foldI_in h0 h1
  have e : spec_l1Fold.f x = some (foldI x) := by
    unfold spec_l1Fold.f foldI
    by_cases h : x < 0
    · rw [if_pos h, if_pos h, w64 (a := -2 * x) (by omega) (by omega), w64 (a := -2 * x - 1) (by omega) (by omega)]
    · rw [if_neg h, if_neg h, w64 (a := 2 * x) (by omega) (by omega)]
  unfold spec_l1Bytes.f
  simp only [e, bindS]
  have := svar_loop 10 (foldI x) [] hf.1 (by omega) (by omega) (by simp)
  exact this
def partV (has : Bool) (l : List Int) : List Int := if has = true then varV l.length ++ l else varV (-1)
theorem partV_len (has : Bool) (l : List Int) : (partV has l).length ≤ 11 + l.length := by
  unfold partV
  have := varV_len l.length
  have := varV_len (-1)
  split <;> simp <;> omega
theorem part_ev (has : Bool) (l : List Int) (hl : l.length ≤ 1000) : Ev (fun k => impl_partBytes.f k has l) (partV has l) := by
  unfold impl_partBytes.f partV
  have := varV_len l.length
  cases has
  · simp only [Bool.false_eq_true, if_false]
    exact Ev.bind (varOf_ev (by omega) (by omega)) (Ev.now _)
  · simp only [if_true]
    refine Ev.bind (varOf_ev (by omega) (by omega)) ?_
    simp only [if_pos (show (varV (l.length : Int)).length + l.length < 17592186044416 by omega)]
    exact Ev.now _
theorem spart_ev (has : Bool) (l : List Int) (hl : l.length ≤ 1000) : Ev (fun k => spec_l3Put.f k has l) (partV has l) := by
  unfold spec_l3Put.f partV
  have := varV_len l.length
  cases has
  · simp only [Bool.false_eq_true, if_false]
    exact Ev.bind (l1Bytes_ev (by omega) (by omega)) (Ev.now _)
  · simp only [if_true]
    refine Ev.bind (l1Bytes_ev (by omega) (by omega)) ?_
    simp only [if_pos (show (varV (l.length : Int)).length + l.length < 17592186044416 by omega)]
    exact Ev.now _
def recB (r : S63) (o t : Int) : List Int := varV (r.f1 - t) ++ varV (r.f0 - o) ++ partV r.f2 r.f3 ++ partV r.f4 r.f5
def recV (r : S63) (o t : Int) : List Int := varV (recB r o t).length ++ recB r o t
/-- A record of a valid batch. -/
structure RecS (r : S63) : Prop where
  a0 : 0 ≤ r.f0
  a1 : r.f0 ≤ 99999
  b0 : 0 ≤ r.f1
  b1 : r.f1 ≤ 99999
  k : r.f3.length ≤ 12
  v : r.f5.length ≤ 12
  ki : r.f3.all inI = true
  vi : r.f5.all inI = true
theorem recB_len {r : S63} (h : RecS r) (o t : Int) : (recB r o t).length ≤ 68 := by
  unfold recB
  have := h.k
  have := h.v
  have := varV_len (r.f1 - t)
  have := varV_len (r.f0 - o)
  have := partV_len r.f2 r.f3
  have := partV_len r.f4 r.f5
  simp only [List.length_append]
  omega
theorem recV_len {r : S63} (h : RecS r) (o t : Int) : (recV r o t).length ≤ 79 := by
  unfold recV
  have := recB_len h o t
  have := varV_len (recB r o t).length
  rw [List.length_append]
  omega
theorem partV_in {has : Bool} {l : List Int} (hl : l.length ≤ 12) (h : l.all inI = true) : (partV has l).all inI = true := by
  unfold partV
  split
  · rw [List.all_append, h, varV_in (by omega) (by omega)]
    rfl
  · exact varV_in (by omega) (by omega)
theorem recV_in {r : S63} (h : RecS r) {o t : Int} (ho : 0 ≤ o ∧ o ≤ 99999) (ht : 0 ≤ t ∧ t ≤ 99999) : (recV r o t).all inI = true := by
  have h1 := recB_len h o t
  obtain ⟨a0, a1, b0, b1, k, v, ki, vi⟩ := h
  unfold recV
  rw [List.all_append, varV_in (by omega) (by omega)]
  unfold recB
  simp only [List.all_append, varV_in (x := r.f1 - t) (by omega) (by omega), varV_in (x := r.f0 - o) (by omega) (by omega), partV_in k ki, partV_in v vi, Bool.and_self]
theorem rec_ev {r : S63} (h : RecS r) {o t : Int} (ho : 0 ≤ o ∧ o ≤ 99999) (ht : 0 ≤ t ∧ t ≤ 99999) : Ev (fun k => impl_Record_bytesFor.f k r.f0 r.f1 r.f2 r.f3 r.f4 r.f5 o t) (recV r o t) := by
  have h1 := recB_len h o t
  have h2 := varV_len (recB r o t).length
  obtain ⟨a0, a1, b0, b1, k, v, ki, vi⟩ := h
  unfold impl_Record_bytesFor.f
  have e1 := varV_len (r.f1 - t)
  have e2 := varV_len (r.f0 - o)
  have e3 := partV_len r.f2 r.f3
  have e4 := partV_len r.f4 r.f5
  simp only [w64 (a := r.f1 - t) (by omega) (by omega), w64 (a := r.f0 - o) (by omega) (by omega)]
  refine Ev.bind (varOf_ev (by omega) (by omega)) (Ev.bind (varOf_ev (by omega) (by omega)) ?_)
  simp only [if_pos (show (varV (r.f1 - t)).length + (varV (r.f0 - o)).length < 17592186044416 by omega), bindS]
  refine Ev.bind (part_ev _ _ (by omega)) ?_
  simp only [if_pos (show (varV (r.f1 - t) ++ varV (r.f0 - o)).length + (partV r.f2 r.f3).length < 17592186044416 by simp only [List.length_append]; omega), bindS]
  refine Ev.bind (part_ev _ _ (by omega)) ?_
  simp only [if_pos (show (varV (r.f1 - t) ++ varV (r.f0 - o) ++ partV r.f2 r.f3).length + (partV r.f4 r.f5).length < 17592186044416 by simp only [List.length_append]; omega), bindS]
  refine Ev.bind (varOf_ev (x := ((recB r o t).length : Int)) (by omega) (by omega)) ?_
  change Ev (fun k => if (varV ((recB r o t).length : Int)).length + (recB r o t).length < 17592186044416 then some (varV ((recB r o t).length : Int) ++ recB r o t) else none) _
  simp only [if_pos (show (varV ((recB r o t).length : Int)).length + (recB r o t).length < 17592186044416 by omega)]
  exact Ev.now _
theorem srec_ev {r : S63} (h : RecS r) {o t : Int} (ho : 0 ≤ o ∧ o ≤ 99999) (ht : 0 ≤ t ∧ t ≤ 99999) : Ev (fun k => spec_l3Bytes.f k r.f0 r.f1 r.f2 r.f3 r.f4 r.f5 o t) (recV r o t) := by
  have h1 := recB_len h o t
  have h2 := varV_len (recB r o t).length
  obtain ⟨a0, a1, b0, b1, k, v, ki, vi⟩ := h
  unfold spec_l3Bytes.f
  have e1 := varV_len (r.f1 - t)
  have e2 := varV_len (r.f0 - o)
  have e3 := partV_len r.f2 r.f3
  have e4 := partV_len r.f4 r.f5
  simp only [w64 (a := r.f1 - t) (by omega) (by omega), w64 (a := r.f0 - o) (by omega) (by omega)]
  refine Ev.bind (l1Bytes_ev (by omega) (by omega)) (Ev.bind (l1Bytes_ev (by omega) (by omega)) ?_)
  simp only [if_pos (show (varV (r.f1 - t)).length + (varV (r.f0 - o)).length < 17592186044416 by omega), bindS]
  refine Ev.bind (spart_ev _ _ (by omega)) ?_
  simp only [if_pos (show (varV (r.f1 - t) ++ varV (r.f0 - o)).length + (partV r.f2 r.f3).length < 17592186044416 by simp only [List.length_append]; omega), bindS]
  refine Ev.bind (spart_ev _ _ (by omega)) ?_
  simp only [if_pos (show (varV (r.f1 - t) ++ varV (r.f0 - o) ++ partV r.f2 r.f3).length + (partV r.f4 r.f5).length < 17592186044416 by simp only [List.length_append]; omega), bindS]
  refine Ev.bind (l1Bytes_ev (x := ((recB r o t).length : Int)) (by omega) (by omega)) ?_
  change Ev (fun k => if (varV ((recB r o t).length : Int)).length + (recB r o t).length < 17592186044416 then some (varV ((recB r o t).length : Int) ++ recB r o t) else none) _
  simp only [if_pos (show (varV ((recB r o t).length : Int)).length + (recB r o t).length < 17592186044416 by omega)]
  exact Ev.now _
end Go.Proofs.Ythoioccmnphfgaa.Pu

namespace Go.Proofs.Ythoioccmnphfgaa.Pu
open Go.RowKit Go.Proofs.YthoioccmnphfgaaW.PrintWords Go.Proofs.YthoioccmnphfgaaW.PrintLast Go.Proofs.YthoioccmnphfgaaW.PrintMore Go.Proofs.Ythoioccmnphfgaa.G
set_option linter.unusedVariables false
set_option linter.unusedSimpArgs false
theorem getD_nat (l : List Int) (i : Nat) (h : i < l.length) : l.getD i 0 = rd l (i : Int) := by rw [rdi_nat l i h, getD_lt l i h]
theorem long_loop (l : List Int) (hl : l.length ≤ 1000) (z b : Nat) (hb : b ≤ z) (hz : z < l.length) : ∀ (d n : Nat), 66 - n = d → n ≤ 66 → Ev (fun k => spec_l4Long.l0 k l (z : Int) (b : Int) (n : Int)) ((n + alike (66 - n) (l.drop (z - b + n)) (l.drop (z + n)) : Nat) : Int) := by
  intro d
  induction d with
  | zero =>
    intro n hd hn
    obtain rfl : n = 66 := by omega
    refine Ev.step (fun k => by rw [spec_l4Long.l0]) ?_
    simp only [w64 (a := (z : Int) + (66 : Nat)) (by omega) (by omega)]
    have e : alike (66 - 66) (l.drop (z - b + 66)) (l.drop (z + 66)) = 0 := (alike_at l (z - b) z 66 (by omega)).2 (by omega) (by omega)
    rw [e]
    by_cases h : ((z : Int) + (66 : Nat)) < (l.length : Int)
    · simp only [if_pos h, if_neg (show ¬ (((66 : Nat) : Int) < 66) by omega)]
      exact Ev.now _
    · simp only [if_neg h]
      exact Ev.now _
  | succ d ih =>
    intro n hd hn
    obtain ⟨h1, h2⟩ := alike_at l (z - b) z n hn
    refine Ev.step (fun k => by rw [spec_l4Long.l0]) ?_
    simp only [w64 (a := (z : Int) + (n : Int)) (by omega) (by omega), w64 (a := (z : Int) + (n : Int) - (b : Int)) (by omega) (by omega), w64 (a := (n : Int) + 1) (by omega) (by omega), if_pos (show (n : Int) < 66 by omega)]
    by_cases h : z + n < l.length
    · have e1 : (z : Int) + (n : Int) = ((z + n : Nat) : Int) := by omega
      have e2 : ((z + n : Nat) : Int) - (b : Int) = ((z - b + n : Nat) : Int) := by omega
      simp only [e1, e2, if_pos (show ((z + n : Nat) : Int) < (l.length : Int) by omega), if_pos (show (0 : Int) ≤ ((z + n : Nat) : Int) by omega), if_pos (show (0 : Int) ≤ ((z - b + n : Nat) : Int) by omega), if_pos (show ((z - b + n : Nat) : Int) < (l.length : Int) by omega)]
      rw [← getD_nat l (z + n) h, ← getD_nat l (z - b + n) (by omega)]
      by_cases he : l.getD (z - b + n) 0 = l.getD (z + n) 0
      · simp only [if_pos he.symm]
        rw [h1 ⟨by omega, h, he, by omega⟩]
        have := ih (n + 1) (by omega) (by omega)
        rw [show n + (alike (66 - (n + 1)) (l.drop (z - b + (n + 1))) (l.drop (z + (n + 1))) + 1) = n + 1 + alike (66 - (n + 1)) (l.drop (z - b + (n + 1))) (l.drop (z + (n + 1))) by omega]
        exact_mod_cast this
      · simp only [if_neg (fun e => he (Eq.symm e))]
        rw [h2 (fun h => he h.2.2) (by omega)]
        exact Ev.now _
    · simp only [if_neg (show ¬ ((z : Int) + (n : Int) < (l.length : Int)) by omega)]
      rw [h2 (fun h' => h h'.2.1) (by omega)]
      exact Ev.now _
theorem long_ev (l : List Int) (hl : l.length ≤ 1000) (z b : Nat) (hb : b ≤ z) (hz : z < l.length) : Ev (fun k => spec_l4Long.f k l (z : Int) (b : Int)) ((nAt l z b : Nat) : Int) := by
  unfold spec_l4Long.f nAt
  have := long_loop l hl z b hb hz 66 0 (by omega) (by omega)
  simpa using this
theorem best_loop (l : List Int) (hl : l.length ≤ 1000) (z : Nat) (hz : z < l.length) : ∀ (d c : Nat) (s : Nat × Nat), min z 200 + 1 - c = d → 1 ≤ c → c ≤ min z 200 + 1 → Ev (fun k => spec_l4Best.l0 k l (z : Int) (s.2 : Int) (s.1 : Int) (c : Int)) (((best (nAt l z) (List.range' c (min z 200 + 1 - c)) s).1 : Int), ((best (nAt l z) (List.range' c (min z 200 + 1 - c)) s).2 : Int)) := by
  have hm : mn (z : Int) 200 = ((min z 200 : Nat) : Int) := by unfold mn; split <;> omega
  intro d
  induction d with
  | zero =>
    intro c s hd h1 hc
    refine Ev.step (fun k => by rw [spec_l4Best.l0]) ?_
    simp only [hm, if_neg (show ¬ ((c : Int) ≤ ((min z 200 : Nat) : Int)) by omega), hd, List.range'_zero, best]
    exact Ev.now _
  | succ d ih =>
    intro c s hd h1 hc
    refine Ev.step (fun k => by rw [spec_l4Best.l0]) ?_
    simp only [hm, if_pos (show (c : Int) ≤ ((min z 200 : Nat) : Int) by omega), w64 (a := (c : Int) + 1) (by omega) (by omega)]
    refine Ev.bind (long_ev l hl z c (by omega) hz) ?_
    rw [hd, List.range'_succ, best]
    have hd2 : min z 200 + 1 - (c + 1) = d := by omega
    by_cases h : s.1 < nAt l z c
    · simp only [if_pos (show ((nAt l z c : Nat) : Int) > (s.1 : Int) by omega), if_pos h]
      have := ih (c + 1) (nAt l z c, c) hd2 (by omega) (by omega)
      rw [hd2] at this
      exact_mod_cast this
    · simp only [if_neg (show ¬ ((nAt l z c : Nat) : Int) > (s.1 : Int) by omega), if_neg h]
      have := ih (c + 1) s hd2 (by omega) (by omega)
      rw [hd2] at this
      exact_mod_cast this
theorem best_ev (l : List Int) (hl : l.length ≤ 1000) (z : Nat) (hz : z < l.length) : Ev (fun k => spec_l4Best.f k l (z : Int)) (((specM l z).1 : Int), ((specM l z).2 : Int)) := by
  unfold spec_l4Best.f specM
  have := best_loop l hl z hz (min z 200) 1 (0, 0) (by omega) (by omega) (by omega)
  simpa using this
theorem plain_loop (l : List Int) (hl : l.length ≤ 1000) : ∀ (f from_ : Nat) (acc : List Int), l.length - from_ ≤ f → from_ ≤ 2000 → acc.length ≤ 2000 + 70 * from_ → Ev (fun k => spec_l4Plain.l0 k l acc (from_ : Int)) (acc ++ plainF f (l.drop from_)) := by
  intro f
  induction f with
  | zero =>
    intro i acc hf hi ha
    refine Ev.step (fun k => by rw [spec_l4Plain.l0]) ?_
    simp only [if_neg (show ¬ ((i : Int) < (l.length : Int)) by omega), plainF, List.append_nil]
    exact Ev.now _
  | succ f ih =>
    intro i acc hf hi ha
    refine Ev.step (fun k => by rw [spec_l4Plain.l0]) ?_
    by_cases h : i < l.length
    · have hne : l.drop i ≠ [] := fun e => by
        have := congrArg List.length e
        simp at this
        omega
      obtain ⟨t, ht⟩ : ∃ t, t = min (i + 64) l.length := ⟨_, rfl⟩
      have hm : mn ((i : Int) + 64) (l.length : Int) = (t : Int) := by unfold mn; split <;> omega
      have hlt : ((l.take t).drop i) = (l.drop i).take 64 := by
        rw [List.drop_take]
        rcases Nat.lt_or_ge (i + 64) l.length with h1 | h1
        · rw [show t - i = 64 by omega]
        · rw [List.take_of_length_le (by rw [List.length_drop]; omega), List.take_of_length_le (by rw [List.length_drop]; omega)]
      have hlen : ((l.drop i).take 64).length = t - i := by rw [List.length_take, List.length_drop]; omega
      simp only [if_pos (show (i : Int) < (l.length : Int) by omega), if_pos (show acc.length < 17592186044416 by omega), bindS, w64 (a := (i : Int) + 64) (by omega) (by omega), hm, w64 (a := (t : Int) - (i : Int)) (by omega) (by omega), w64 (a := (t : Int) - (i : Int) - 1) (by omega) (by omega), if_pos (show (0 : Int) ≤ (i : Int) by omega), if_pos (show (i : Int) ≤ (t : Int) by omega), if_pos (show (t : Int) ≤ (l.length : Int) by omega), Int.toNat_natCast, hlt, hlen]
      simp only [if_pos (show (acc ++ [(t : Int) - (i : Int) - 1]).length + (t - i) < 17592186044416 by rw [List.length_append]; simp; omega)]
      have := ih (i + 64) (acc ++ [(t : Int) - (i : Int) - 1] ++ (l.drop i).take 64) (by omega) (by omega) (by rw [List.length_append, List.length_append, hlen]; simp; omega)
      rw [plainF, if_neg hne, hlen, List.drop_drop]
      rw [show ((t - i : Nat) : Int) = (t : Int) - (i : Int) by omega]
      rw [Int.natCast_add] at this
      have e5 : acc ++ [(t : Int) - (i : Int) - 1] ++ (l.drop i).take 64 ++ plainF f (l.drop (i + 64)) = acc ++ (((t : Int) - (i : Int) - 1) :: ((l.drop i).take 64 ++ plainF f (l.drop (i + 64)))) := by simp
      rw [e5] at this
      exact this
    · simp only [if_neg (show ¬ ((i : Int) < (l.length : Int)) by omega)]
      rw [List.drop_of_length_le (by omega), plainF, if_pos rfl, List.append_nil]
      exact Ev.now _
theorem plain_ev (l : List Int) (hl : l.length ≤ 1000) : Ev (fun k => spec_l4Plain.f k l) (plainV l) := by
  unfold spec_l4Plain.f plainV
  have := plain_loop l hl l.length 0 [] (by omega) (by omega) (by simp)
  simpa using this
theorem specM_le (l : List Int) (z : Nat) : (specM l z).1 ≤ 66 := by
  unfold specM
  have : ∀ (ps : List Nat) (s : Nat × Nat), s.1 ≤ 66 → (best (nAt l z) ps s).1 ≤ 66 := by
    intro ps
    induction ps with
    | nil => intro s h; exact h
    | cons p ps ih =>
      intro s h
      unfold best
      refine ih _ ?_
      split
      · exact alike_le_m 66 _ _
      · exact h
  exact this _ _ (Nat.zero_le _)
theorem pack_loop (l : List Int) (hl : l.length ≤ 1000) : ∀ (f z : Nat) (out plain : List Int), l.length + 1 ≤ f + z → z ≤ l.length + 66 → out.length + 2 * plain.length ≤ 2 * z → plain.length ≤ 1000 → (z < l.length → plain.length ≤ z) → Ev (fun k => spec_l4Pack.l0 k l out plain (z : Int)) (packW (specM l) l f z out plain) := by
  intro f
  induction f with
  | zero =>
    intro z out plain hf hz hb hp hpz
    have hpl := plainV_len plain
    refine Ev.step (fun k => by rw [spec_l4Pack.l0]) ?_
    simp only [if_neg (show ¬ ((z : Int) < (l.length : Int)) by omega)]
    refine Ev.bind (plain_ev plain hp) ?_
    simp only [if_pos (show out.length + (plainV plain).length < 17592186044416 by omega), packW]
    exact Ev.now _
  | succ f ih =>
    intro z out plain hf hz hb hp hpz
    have hpl := plainV_len plain
    refine Ev.step (fun k => by rw [spec_l4Pack.l0]) ?_
    by_cases h : z < l.length
    · have hM := specM_le l z
      simp only [if_pos (show (z : Int) < (l.length : Int) by omega)]
      refine Ev.bind (best_ev l hl z h) ?_
      have hpz2 := hpz h
      by_cases h3 : (specM l z).1 < 3
      · rw [packW_lt _ _ _ _ _ _ h h3]
        simp only [if_pos (show ((specM l z).1 : Int) < 3 by omega), if_pos (show (0 : Int) ≤ (z : Int) by omega), if_pos (show plain.length < 17592186044416 by omega), w64 (a := (z : Int) + 1) (by omega) (by omega), ← getD_nat l z h]
        have := ih (z + 1) out (plain ++ [l.getD z 0]) (by omega) (by omega) (by rw [List.length_append]; simp; omega) (by rw [List.length_append]; simp; omega) (fun _ => by rw [List.length_append]; simp; omega)
        exact_mod_cast this
      · rw [packW_ge _ _ _ _ _ _ h h3]
        simp only [if_neg (show ¬ ((specM l z).1 : Int) < 3 by omega)]
        refine Ev.bind (plain_ev plain hp) ?_
        simp only [if_pos (show out.length + (plainV plain).length < 17592186044416 by omega), bindS, w64 (a := 64 + ((specM l z).1 : Int)) (by omega) (by omega), w64 (a := 64 + ((specM l z).1 : Int) - 3) (by omega) (by omega), w64 (a := (z : Int) + ((specM l z).1 : Int)) (by omega) (by omega)]
        rw [show 64 + ((specM l z).1 : Int) - 3 = ((specM l z).1 : Int) + 61 by omega]
        have hlen : (out ++ plainV plain).length + [((specM l z).1 : Int) + 61, ((specM l z).2 : Int)].length < 17592186044416 := by rw [List.length_append]; simp; omega
        simp only [if_pos hlen]
        have := ih (z + (specM l z).1) (out ++ plainV plain ++ [((specM l z).1 : Int) + 61, ((specM l z).2 : Int)]) [] (by omega) (by omega) (by rw [List.length_append, List.length_append]; simp; omega) (by simp) (fun _ => by simp)
        exact_mod_cast this
    · have e : packW (specM l) l (f + 1) z out plain = out ++ plainV plain := by rw [packW, if_neg h]
      simp only [if_neg (show ¬ ((z : Int) < (l.length : Int)) by omega), e]
      refine Ev.bind (plain_ev plain hp) ?_
      simp only [if_pos (show out.length + (plainV plain).length < 17592186044416 by omega)]
      exact Ev.now _
def PK (l : List Int) : List Int := packW (implM l) l (l.length + 1) 0 [] []
theorem spack_ev (l : List Int) (hl : l.length ≤ 1000) : Ev (fun k => spec_l4Pack.f k l) (PK l) := by
  unfold spec_l4Pack.f PK
  have := pack_loop l hl (l.length + 1) 0 [] [] (by omega) (by omega) (by simp) (by simp) (fun _ => by simp)
  rw [pack_same] at this
  exact this
theorem pack_ev (l : List Int) (hl : l.length ≤ 1000) (hi : l.all inI = true) : Ev (fun k => impl_pack.f k l) (PK l) := by
  unfold impl_pack.f PK
  simp only [if_pos (And.intro hl hi)]
  exact Ev.now _
theorem packW_len (M : Nat → Nat × Nat) (l : List Int) : ∀ k z (out plain : List Int), (packW M l k z out plain).length ≤ out.length + 2 * plain.length + 2 * k
  | 0, z, out, plain => by
    have := plainV_len plain
    rw [packW, List.length_append]
    omega
  | k + 1, z, out, plain => by
    have hp := plainV_len plain
    rw [packW]
    split
    · split
      · have := packW_len M l k (z + 1) out (plain ++ [l.getD z 0])
        rw [List.length_append] at this
        simp at this ⊢
        omega
      · have := packW_len M l k (z + (M z).1) (out ++ plainV plain ++ [((M z).1 : Int) + 61, ((M z).2 : Int)]) []
        rw [List.length_append, List.length_append] at this
        simp at this ⊢
        omega
    · rw [List.length_append]
      omega
theorem PK_len (l : List Int) (hl : l.length ≤ 1000) : (PK l).length ≤ 2002 := by
  have := packW_len (implM l) l (l.length + 1) 0 [] []
  unfold PK
  simp at this
  omega
end Go.Proofs.Ythoioccmnphfgaa.Pu

namespace Go.Proofs.Ythoioccmnphfgaa.Pu
open Go.RowKit Go.Proofs.YthoioccmnphfgaaW.PrintWords Go.Proofs.YthoioccmnphfgaaW.PrintLast Go.Proofs.YthoioccmnphfgaaW.PrintMore Go.Proofs.Ythoioccmnphfgaa.G
set_option linter.unusedVariables false
set_option linter.unusedSimpArgs false
set_option maxRecDepth 100000
theorem EndsIn.ev_bind {α β : Type} {g : Nat → Option α} {f : Nat → α → Option β} {a : α} {Q : β → Prop} (h : Ev g a) (k : EndsIn (fun n => f n a) Q) : EndsIn (fun n => (g n).bind (f n)) Q := ⟨k.choose, Ev.bind h k.choose_spec.1, k.choose_spec.2⟩
theorem isB_inI {x : Int} (h : isB x = true) : inI x = true := by
  have := (isB_iff x).1 h
  simp [inI]
  omega
theorem part_S {has : Bool} {l : List Int} (h : partOk has l = true) : l.length ≤ 12 ∧ l.all inI = true := by
  unfold partOk at h
  cases has
  · simp only [Bool.false_eq_true, if_false, decide_eq_true_eq] at h
    obtain rfl : l = [] := List.eq_nil_of_length_eq_zero h
    simp
  · simp only [if_true, Bool.and_eq_true, decide_eq_true_eq] at h
    exact ⟨h.1, List.all_eq_true.2 fun x hx => isB_inI (List.all_eq_true.1 h.2 x hx)⟩
theorem recS_of {r : S63} (h : recOk r = true) : RecS r := by
  unfold recOk rng at h
  simp only [Bool.and_eq_true, decide_eq_true_eq] at h
  obtain ⟨⟨h1, h2⟩, h3, h4⟩ := h
  have p1 := part_S h3
  have p2 := part_S h4
  exact ⟨h1.1, h1.2, h2.1, h2.2, p1.1, p2.1, p1.2, p2.2⟩
theorem int_loop (a : Int) (n : Nat) (hn : n ≤ 10) : ∀ (d i : Nat) (x : List Int), n - i = d → i ≤ n → x.length = n → EndsIn (fun k => impl_intOf.l0 k a (n : Int) x (n : Int) (i : Int)) (fun r => r.length = n) := by
  intro d
  induction d with
  | zero =>
    intro i x hd hi hx
    refine EndsIn.step (fun k => by rw [impl_intOf.l0]) ?_
    simp only [if_neg (show ¬ ((i : Int) < (n : Int)) by omega)]
    exact EndsIn.now _ hx
  | succ d ih =>
    intro i x hd hi hx
    refine EndsIn.step (fun k => by rw [impl_intOf.l0]) ?_
    simp only [if_pos (show (i : Int) < (n : Int) by omega), w64 (a := 8 * (i : Int)) (by omega) (by omega), w64 (a := (n : Int) - 1) (by omega) (by omega), w64 (a := (n : Int) - 1 - (i : Int)) (by omega) (by omega), if_pos (show (0 : Int) ≤ 8 * (i : Int) by omega), if_pos (show (0 : Int) ≤ (n : Int) - 1 - (i : Int) by omega), if_pos (show (n : Int) - 1 - (i : Int) < (x.length : Int) by omega), w64 (a := (i : Int) + 1) (by omega) (by omega)]
    have := ih (i + 1) (x.set ((n : Int) - 1 - (i : Int)).toNat (Go.bits .and .i64 (shr .i64 a (8 * (i : Int))) 255)) (by omega) (by omega) (by rw [List.length_set]; exact hx)
    exact_mod_cast this
theorem intOf_ends (a : Int) (n : Nat) (hn : n ≤ 10) : EndsIn (fun k => impl_intOf.f k a (n : Int)) (fun r => r.length = n) := by
  unfold impl_intOf.f
  simp only [if_pos (show (0 : Int) ≤ (n : Int) by omega), Int.toNat_natCast, if_pos (show n ≤ 35184372088832 by omega), bindS, List.length_replicate]
  have := int_loop a n hn n 0 (List.replicate n 0) (by omega) (by omega) (by simp)
  exact this
theorem sint_loop (n : Nat) (hn : n ≤ 10) : ∀ (m : Nat) (a : Int) (x : List Int), m ≤ n → x.length = n → EndsIn (fun k => spec_l2Int.l0 k a x ((m : Int) - 1)) (fun r => r.length = n) := by
  intro m
  induction m with
  | zero =>
    intro a x hm hx
    refine EndsIn.step (fun k => by rw [spec_l2Int.l0]) ?_
    simp only [if_neg (show ¬ (((0 : Nat) : Int) - 1 ≥ 0) by omega)]
    exact EndsIn.now _ hx
  | succ m ih =>
    intro a x hm hx
    refine EndsIn.step (fun k => by rw [spec_l2Int.l0]) ?_
    simp only [if_pos (show ((m + 1 : Nat) : Int) - 1 ≥ 0 by omega), if_pos (show (0 : Int) ≤ ((m + 1 : Nat) : Int) - 1 by omega), if_pos (show ((m + 1 : Nat) : Int) - 1 < (x.length : Int) by omega), w64 (a := ((m + 1 : Nat) : Int) - 1 - 1) (by omega) (by omega)]
    have := ih (wrap64 (Int.tdiv a 256)) (x.set (((m + 1 : Nat) : Int) - 1).toNat (Int.tmod a 256)) (by omega) (by rw [List.length_set]; exact hx)
    rw [show ((m + 1 : Nat) : Int) - 1 - 1 = (m : Int) - 1 by omega]
    exact this
theorem l2Int_ends (a : Int) (n : Nat) (hn : n ≤ 10) : EndsIn (fun k => spec_l2Int.f k a (n : Int)) (fun r => r.length = n) := by
  unfold spec_l2Int.f
  simp only [if_pos (show (0 : Int) ≤ (n : Int) by omega), Int.toNat_natCast, if_pos (show n ≤ 35184372088832 by omega), w64 (a := (n : Int) - 1) (by omega) (by omega)]
  exact sint_loop n hn n a (List.replicate n 0) (Nat.le_refl _) (by simp)
theorem sum_loop (l : List Int) (hl : l.length ≤ 100000) : ∀ (d i : Nat) (s : Int), l.length - i = d → i ≤ l.length → EndsIn (fun k => impl_sum_over.l0 k s l (l.length : Int) (i : Int)) (fun _ => True) := by
  intro d
  induction d with
  | zero =>
    intro i s hd hi
    refine EndsIn.step (fun k => by rw [impl_sum_over.l0]) ?_
    simp only [if_neg (show ¬ ((i : Int) < (l.length : Int)) by omega)]
    exact EndsIn.now _ trivial
  | succ d ih =>
    intro i s hd hi
    have c1 : (i : Int) < (l.length : Int) := by omega
    have c2 : (0 : Int) ≤ (i : Int) := by omega
    have := ih (i + 1) (Int.tmod (wrap64 (wrap64 (257 * s) + rd l (i : Int))) 65521) (by omega) (by omega)
    rw [Int.natCast_add] at this
    refine EndsIn.step (fun k => ?_) this
    rw [impl_sum_over.l0, if_pos c1, if_pos c2, if_pos c1, impl_sum_with.f, bindS, w64 (a := (i : Int) + 1) (by omega) (by omega)]
    rfl
theorem ssum_loop (l : List Int) (hl : l.length ≤ 100000) : ∀ (d i : Nat) (s : Int), l.length - i = d → i ≤ l.length → EndsIn (fun k => spec_l2Sum.l0 k l s (i : Int)) (fun _ => True) := by
  intro d
  induction d with
  | zero =>
    intro i s hd hi
    refine EndsIn.step (fun k => by rw [spec_l2Sum.l0]) ?_
    simp only [if_neg (show ¬ ((i : Int) < (l.length : Int)) by omega)]
    exact EndsIn.now _ trivial
  | succ d ih =>
    intro i s hd hi
    have c1 : (i : Int) < (l.length : Int) := by omega
    have c2 : (0 : Int) ≤ (i : Int) := by omega
    have := ih (i + 1) (Int.tmod (wrap64 (wrap64 (257 * s) + rd l (i : Int))) 65521) (by omega) (by omega)
    rw [Int.natCast_add] at this
    refine EndsIn.step (fun k => ?_) this
    rw [spec_l2Sum.l0, if_pos c1, if_pos c2, w64 (a := (i : Int) + 1) (by omega) (by omega)]
    rfl
/-- The records of a valid batch, as1 bytes. -/
def rowsV (l : List S63) (o t : Int) : List Int := l.flatMap fun r => recV r o t
theorem rowsV_len (o t : Int) : ∀ l : List S63, (∀ r ∈ l, RecS r) → (rowsV l o t).length ≤ 79 * l.length
  | [], _ => by simp [rowsV]
  | r :: l, h => by
    have h1 := rowsV_len o t l fun x hx => h x (List.mem_cons_of_mem _ hx)
    have h2 := recV_len (h r (List.mem_cons_self ..)) o t
    unfold rowsV at h1 ⊢
    rw [List.flatMap_cons, List.length_append, List.length_cons]
    omega
theorem rowsV_in {o t : Int} (ho : 0 ≤ o ∧ o ≤ 99999) (ht : 0 ≤ t ∧ t ≤ 99999) : ∀ l : List S63, (∀ r ∈ l, RecS r) → (rowsV l o t).all inI = true
  | [], _ => by simp [rowsV]
  | r :: l, h => by
    have h1 := rowsV_in ho ht l fun x hx => h x (List.mem_cons_of_mem _ hx)
    have h2 := recV_in (h r (List.mem_cons_self ..)) ho ht
    unfold rowsV at h1 ⊢
    rw [List.flatMap_cons, List.all_append, h1, h2]
    rfl
structure BatR (l : List S63) : Prop where
  h0 : 0 < l.length
  h6 : l.length ≤ 6
  recs : ∀ r ∈ l, RecS r
theorem batR_of {b : S46} (h : batOk b = true) : BatR b.f5 := by
  have h1 := batOk_len h
  refine ⟨by omega, h1.2, fun r hr => ?_⟩
  obtain ⟨i, hi, rfl⟩ := List.getElem_of_mem hr
  exact recS_of (batOk_rec h i hi)
def bodyV (b : S46) : List Int := if b.f0 = true then PK (rowsV b.f5 (rd_T63 b.f5 0).f0 (rd_T63 b.f5 0).f1) else rowsV b.f5 (rd_T63 b.f5 0).f0 (rd_T63 b.f5 0).f1
def batLen (b : S46) : Nat := 18 + (bodyV b).length
theorem BatR.first {l : List S63} (h : BatR l) : RecS (rd_T63 l 0) := by
  have := rdR_nat l 0 h.h0
  rw [show ((0 : Nat) : Int) = 0 from rfl] at this
  rw [this]
  exact h.recs _ (List.getElem_mem _)
theorem body_len {b : S46} (h : BatR b.f5) : (bodyV b).length ≤ 2002 := by
  have h1 := rowsV_len (rd_T63 b.f5 0).f0 (rd_T63 b.f5 0).f1 b.f5 h.recs
  have h6 := h.h6
  unfold bodyV
  split
  · exact PK_len _ (by omega)
  · omega
theorem j2_ends (body : List Int) (hb : body.length ≤ 2002) (fl : Int) (a0 a1 : Bool) (x2 x3 x4 : Int) (l : List S63) (g0 g1 : Int) (g2 : Bool) (g3 : List Int) (g4 : Bool) (g5 : List Int) :
    EndsIn (fun k => impl_Batch_bytesOf.j2 k body fl a0 a1 x2 x3 x4 l g0 g1 g2 g3 g4 g5) (fun r => r.length = 18 + body.length) := by
  refine EndsIn.step (fun k => by rw [impl_Batch_bytesOf.j2]) ?_
  simp only [bindS]
  refine EndsIn.bind (intOf_ends x4 2 (by omega)) fun t1 h1 => ?_
  simp only [if_pos (show ([fl, x2, x3] : List Int).length + t1.length < 17592186044416 by simp; omega), bindS]
  refine EndsIn.bind (intOf_ends g1 3 (by omega)) fun t2 h2 => ?_
  have e1 : ([fl, x2, x3] ++ t1 : List Int).length = 5 := by rw [List.length_append, h1]; rfl
  simp only [if_pos (show ([fl, x2, x3] ++ t1 : List Int).length + t2.length < 17592186044416 by omega), bindS]
  have e2 : ([fl, x2, x3] ++ t1 ++ t2 : List Int).length = 8 := by rw [List.length_append, e1, h2]
  simp only [if_pos (show ([fl, x2, x3] ++ t1 ++ t2 : List Int).length + ([(l.length : Int), 0, 0] : List Int).length < 17592186044416 by rw [e2]; simp), bindS]
  have e3 : ([fl, x2, x3] ++ t1 ++ t2 ++ [(l.length : Int), 0, 0] : List Int).length = 11 := by rw [List.length_append, e2]; rfl
  simp only [if_pos (show ([fl, x2, x3] ++ t1 ++ t2 ++ [(l.length : Int), 0, 0] : List Int).length + body.length < 17592186044416 by omega), bindS]
  have e4 : ([fl, x2, x3] ++ t1 ++ t2 ++ [(l.length : Int), 0, 0] ++ body : List Int).length = 11 + body.length := by rw [List.length_append, e3]
  generalize ([fl, x2, x3] ++ t1 ++ t2 ++ [(l.length : Int), 0, 0] ++ body : List Int) = y at e4
  refine EndsIn.bind (intOf_ends g0 3 (by omega)) fun t3 h3 => ?_
  refine EndsIn.bind (intOf_ends (y.length : Int) 2 (by omega)) fun t4 h4 => ?_
  have hs : EndsIn (fun k => impl_sum_over.f k 1 y) (fun _ => True) := by
    unfold impl_sum_over.f
    exact sum_loop y (by omega) y.length 0 1 (by omega) (by omega)
  refine EndsIn.bind hs fun t5 _ => ?_
  refine EndsIn.bind (intOf_ends t5 2 (by omega)) fun t6 h6 => ?_
  have e5 : ([t3, t4, t6, y] : List (List Int)).flatten.length = 18 + body.length := by simp; omega
  unfold slices_Concat_int_int.f
  simp only [if_pos (show ([t3, t4, t6, y] : List (List Int)).length < 1000000 ∧ ([t3, t4, t6, y] : List (List Int)).flatten.length < 17592186044416 from ⟨by simp, by omega⟩), bindS]
  exact EndsIn.now _ e5
theorem bytes_loop (b : S46) (h : BatR b.f5) (g2 : Bool) (g3 : List Int) (g4 : Bool) (g5 : List Int) : ∀ (d i : Nat), b.f5.length - i = d → i ≤ b.f5.length →
    EndsIn (fun k => impl_Batch_bytesOf.l0 k (rowsV (b.f5.take i) (rd_T63 b.f5 0).f0 (rd_T63 b.f5 0).f1) b.f5 (b.f5.length : Int) (i : Int) b.f0 b.f1 b.f2 b.f3 b.f4 b.f5 (rd_T63 b.f5 0).f0 (rd_T63 b.f5 0).f1 g2 g3 g4 g5) (fun r => r.length = batLen b) := by
  have hf := h.first
  have h6 := h.h6
  have hrl := rowsV_len (rd_T63 b.f5 0).f0 (rd_T63 b.f5 0).f1 b.f5 h.recs
  have hri := rowsV_in ⟨hf.a0, hf.a1⟩ ⟨hf.b0, hf.b1⟩ b.f5 h.recs
  have hbl := body_len h
  intro d
  induction d with
  | zero =>
    intro i hd hi
    obtain rfl : i = b.f5.length := by omega
    refine EndsIn.step (fun k => by rw [impl_Batch_bytesOf.l0]) ?_
    simp only [if_neg (show ¬ ((b.f5.length : Int) < (b.f5.length : Int)) by omega), List.take_length]
    have hj : ∀ (body : List Int) (fl : Int), body.length ≤ 2002 → EndsIn (fun k => impl_Batch_bytesOf.j1 k body fl b.f0 b.f1 b.f2 b.f3 b.f4 b.f5 (rd_T63 b.f5 0).f0 (rd_T63 b.f5 0).f1 g2 g3 g4 g5) (fun r => r.length = 18 + body.length) := fun body fl hb => by
      refine EndsIn.step (fun k => by rw [impl_Batch_bytesOf.j1]) ?_
      cases hf1 : b.f1
      · simp only [Bool.false_eq_true, if_false]
        exact j2_ends body hb _ _ _ _ _ _ _ _ _ _ _ _ _
      · simp only [if_true]
        exact j2_ends body hb _ _ _ _ _ _ _ _ _ _ _ _ _
    unfold batLen
    unfold bodyV at hbl ⊢
    cases hf0 : b.f0
    · rw [hf0] at hbl hj
      simp only [Bool.false_eq_true, if_false] at hbl ⊢
      exact hj _ _ hbl
    · rw [hf0] at hbl hj
      simp only [if_true] at hbl ⊢
      exact EndsIn.ev_bind (pack_ev _ (by omega) hri) (hj _ _ hbl)
  | succ d ih =>
    intro i hd hi
    have hlt : i < b.f5.length := by omega
    refine EndsIn.step (fun k => by rw [impl_Batch_bytesOf.l0]) ?_
    simp only [if_pos (show (i : Int) < (b.f5.length : Int) by omega), if_pos (show (0 : Int) ≤ (i : Int) by omega), rdR_nat b.f5 i hlt, w64 (a := (i : Int) + 1) (by omega) (by omega)]
    refine EndsIn.ev_bind (rec_ev (h.recs _ (List.getElem_mem hlt)) ⟨hf.a0, hf.a1⟩ ⟨hf.b0, hf.b1⟩) ?_
    have e : rowsV (b.f5.take (i + 1)) (rd_T63 b.f5 0).f0 (rd_T63 b.f5 0).f1 = rowsV (b.f5.take i) (rd_T63 b.f5 0).f0 (rd_T63 b.f5 0).f1 ++ recV b.f5[i] (rd_T63 b.f5 0).f0 (rd_T63 b.f5 0).f1 := by
      unfold rowsV
      rw [List.take_succ_eq_append_getElem hlt, List.flatMap_append]
      simp
    have hle := rowsV_len (rd_T63 b.f5 0).f0 (rd_T63 b.f5 0).f1 (b.f5.take (i + 1)) (fun r hr => h.recs r (List.mem_of_mem_take hr))
    rw [e, List.length_append, List.length_take] at hle
    simp only [if_pos (show (rowsV (b.f5.take i) (rd_T63 b.f5 0).f0 (rd_T63 b.f5 0).f1).length + (recV b.f5[i] (rd_T63 b.f5 0).f0 (rd_T63 b.f5 0).f1).length < 17592186044416 by omega)]
    have := ih (i + 1) (by omega) (by omega)
    rw [e] at this
    exact_mod_cast this
theorem bytes_ends (b : S46) (h : BatR b.f5) : EndsIn (fun k => impl_Batch_bytesOf.f k b.f0 b.f1 b.f2 b.f3 b.f4 b.f5) (fun r => r.length = batLen b) := by
  have h0 := h.h0
  unfold impl_Batch_bytesOf.f
  simp only [if_pos (show (0 : Int) < (b.f5.length : Int) by omega)]
  have := bytes_loop b h (rd_T63 b.f5 0).f2 (rd_T63 b.f5 0).f3 (rd_T63 b.f5 0).f4 (rd_T63 b.f5 0).f5 b.f5.length 0 (by omega) (by omega)
  exact this
/-! the reference -/
theorem sbody_loop (b : S46) (h : BatR b.f5) : ∀ (d i : Nat), b.f5.length - i = d → i ≤ b.f5.length →
    Ev (fun k => spec_l5Body.l0 k (rowsV (b.f5.take i) (rd_T63 b.f5 0).f0 (rd_T63 b.f5 0).f1) (i : Int) b.f0 b.f1 b.f2 b.f3 b.f4 b.f5) (rowsV b.f5 (rd_T63 b.f5 0).f0 (rd_T63 b.f5 0).f1) := by
  have hf := h.first
  have h6 := h.h6
  have h0 := h.h0
  intro d
  induction d with
  | zero =>
    intro i hd hi
    obtain rfl : i = b.f5.length := by omega
    refine Ev.step (fun k => by rw [spec_l5Body.l0]) ?_
    simp only [if_neg (show ¬ ((b.f5.length : Int) < (b.f5.length : Int)) by omega), List.take_length]
    exact Ev.now _
  | succ d ih =>
    intro i hd hi
    have hlt : i < b.f5.length := by omega
    refine Ev.step (fun k => by rw [spec_l5Body.l0]) ?_
    simp only [if_pos (show (i : Int) < (b.f5.length : Int) by omega), if_pos (show (0 : Int) ≤ (i : Int) by omega), if_pos (show (0 : Int) < (b.f5.length : Int) by omega), rdR_nat b.f5 i hlt, w64 (a := (i : Int) + 1) (by omega) (by omega)]
    refine Ev.bind (srec_ev (h.recs _ (List.getElem_mem hlt)) ⟨hf.a0, hf.a1⟩ ⟨hf.b0, hf.b1⟩) ?_
    have e : rowsV (b.f5.take (i + 1)) (rd_T63 b.f5 0).f0 (rd_T63 b.f5 0).f1 = rowsV (b.f5.take i) (rd_T63 b.f5 0).f0 (rd_T63 b.f5 0).f1 ++ recV b.f5[i] (rd_T63 b.f5 0).f0 (rd_T63 b.f5 0).f1 := by
      unfold rowsV
      rw [List.take_succ_eq_append_getElem hlt, List.flatMap_append]
      simp
    have hle := rowsV_len (rd_T63 b.f5 0).f0 (rd_T63 b.f5 0).f1 (b.f5.take (i + 1)) (fun r hr => h.recs r (List.mem_of_mem_take hr))
    rw [e, List.length_append, List.length_take] at hle
    simp only [if_pos (show (rowsV (b.f5.take i) (rd_T63 b.f5 0).f0 (rd_T63 b.f5 0).f1).length + (recV b.f5[i] (rd_T63 b.f5 0).f0 (rd_T63 b.f5 0).f1).length < 17592186044416 by omega)]
    have := ih (i + 1) (by omega) (by omega)
    rw [e] at this
    exact_mod_cast this
theorem j1_ends (body : List Int) (hb : body.length ≤ 2002) (fl : Int) (a0 a1 : Bool) (x2 x3 x4 : Int) (l : List S63) (hl : 0 < l.length) :
    EndsIn (fun k => spec_l5Bytes.j1 k body fl a0 a1 x2 x3 x4 l) (fun r => r.length = 18 + body.length) := by
  refine EndsIn.step (fun k => by rw [spec_l5Bytes.j1]) ?_
  simp only [bindS]
  refine EndsIn.bind (l2Int_ends x4 2 (by omega)) fun t1 h1 => ?_
  simp only [if_pos (show ([fl, x2, x3] : List Int).length + t1.length < 17592186044416 by simp; omega), bindS, if_pos (show (0 : Int) < (l.length : Int) by omega)]
  refine EndsIn.bind (l2Int_ends (rd_T63 l 0).f1 3 (by omega)) fun t2 h2 => ?_
  have e1 : ([fl, x2, x3] ++ t1 : List Int).length = 5 := by rw [List.length_append, h1]; rfl
  simp only [if_pos (show ([fl, x2, x3] ++ t1 : List Int).length + t2.length < 17592186044416 by omega), bindS]
  have e2 : ([fl, x2, x3] ++ t1 ++ t2 : List Int).length = 8 := by rw [List.length_append, e1, h2]
  simp only [if_pos (show ([fl, x2, x3] ++ t1 ++ t2 : List Int).length + ([(l.length : Int), 0, 0] : List Int).length < 17592186044416 by rw [e2]; simp), bindS]
  have e3 : ([fl, x2, x3] ++ t1 ++ t2 ++ [(l.length : Int), 0, 0] : List Int).length = 11 := by rw [List.length_append, e2]; rfl
  simp only [if_pos (show ([fl, x2, x3] ++ t1 ++ t2 ++ [(l.length : Int), 0, 0] : List Int).length + body.length < 17592186044416 by omega), bindS]
  have e4 : ([fl, x2, x3] ++ t1 ++ t2 ++ [(l.length : Int), 0, 0] ++ body : List Int).length = 11 + body.length := by rw [List.length_append, e3]
  generalize ([fl, x2, x3] ++ t1 ++ t2 ++ [(l.length : Int), 0, 0] ++ body : List Int) = y at e4
  refine EndsIn.bind (l2Int_ends (rd_T63 l 0).f0 3 (by omega)) fun t3 h3 => ?_
  refine EndsIn.bind (l2Int_ends (y.length : Int) 2 (by omega)) fun t4 h4 => ?_
  have e5 : (t3 ++ t4).length = 5 := by rw [List.length_append, h3, h4]
  simp only [if_pos (show t3.length + t4.length < 17592186044416 by omega), bindS]
  have hs : EndsIn (fun k => spec_l2Sum.f k y) (fun _ => True) := by
    unfold spec_l2Sum.f
    exact ssum_loop y (by omega) y.length 0 1 (by omega) (by omega)
  refine EndsIn.bind hs fun t5 _ => ?_
  refine EndsIn.bind (l2Int_ends t5 2 (by omega)) fun t6 h6 => ?_
  have e6 : (t3 ++ t4 ++ t6).length = 7 := by rw [List.length_append, e5, h6]
  simp only [if_pos (show (t3 ++ t4).length + t6.length < 17592186044416 by omega), bindS, if_pos (show (t3 ++ t4 ++ t6).length + y.length < 17592186044416 by omega)]
  exact EndsIn.now _ (by rw [List.length_append]; omega)
theorem sbytes_ends (b : S46) (h : BatR b.f5) : EndsIn (fun k => spec_l5Bytes.f k b.f0 b.f1 b.f2 b.f3 b.f4 b.f5) (fun r => r.length = batLen b) := by
  have hf := h.first
  have h6 := h.h6
  have h0 := h.h0
  have hrl := rowsV_len (rd_T63 b.f5 0).f0 (rd_T63 b.f5 0).f1 b.f5 h.recs
  have hbl := body_len h
  unfold spec_l5Bytes.f
  have hb : Ev (fun k => spec_l5Body.f k b.f0 b.f1 b.f2 b.f3 b.f4 b.f5) (rowsV b.f5 (rd_T63 b.f5 0).f0 (rd_T63 b.f5 0).f1) := by
    unfold spec_l5Body.f
    exact sbody_loop b h b.f5.length 0 (by omega) (by omega)
  have hj : ∀ (body : List Int) (fl : Int), body.length ≤ 2002 → EndsIn (fun k => spec_l5Bytes.j0 k body fl b.f0 b.f1 b.f2 b.f3 b.f4 b.f5) (fun r => r.length = 18 + body.length) := fun body fl hb => by
    refine EndsIn.step (fun k => by rw [spec_l5Bytes.j0]) ?_
    cases hf1 : b.f1
    · simp only [Bool.false_eq_true, if_false]
      exact j1_ends body hb _ _ _ _ _ _ _ h0
    · simp only [if_true]
      exact j1_ends body hb _ _ _ _ _ _ _ h0
  refine EndsIn.ev_bind hb ?_
  unfold batLen
  unfold bodyV at hbl ⊢
  cases hf0 : b.f0
  · rw [hf0] at hbl hj
    simp only [Bool.false_eq_true, if_false] at hbl ⊢
    exact hj _ _ hbl
  · rw [hf0] at hbl hj
    simp only [if_true] at hbl ⊢
    exact EndsIn.ev_bind (spack_ev _ (by omega)) (hj _ _ hbl)
/-! rows of batches -/
def sizeV : List S46 → Nat
  | [] => 0
  | b :: l => batLen b + sizeV l
theorem batLen_le {b : S46} (h : BatR b.f5) : batLen b ≤ 2020 := by
  have := body_len h
  unfold batLen
  omega
theorem size_loop (l : List S46) (hl : l.length ≤ 1000) (h : ∀ b ∈ l, BatR b.f5) : ∀ (d i s : Nat), l.length - i = d → i ≤ l.length → s ≤ 2020 * i → Ev (fun k => impl_sizeOf.l0 k (s : Int) l (l.length : Int) (i : Int)) ((s + sizeV (l.drop i) : Nat) : Int) := by
  intro d
  induction d with
  | zero =>
    intro i s hd hi hs
    refine Ev.step (fun k => by rw [impl_sizeOf.l0]) ?_
    simp only [if_neg (show ¬ ((i : Int) < (l.length : Int)) by omega)]
    rw [List.drop_of_length_le (by omega)]
    exact Ev.now _
  | succ d ih =>
    intro i s hd hi hs
    have hlt : i < l.length := by omega
    have hb := h _ (List.getElem_mem hlt)
    have hbl := batLen_le hb
    refine Ev.step (fun k => by rw [impl_sizeOf.l0]) ?_
    simp only [if_pos (show (i : Int) < (l.length : Int) by omega), if_pos (show (0 : Int) ≤ (i : Int) by omega), rdB_nat l i hlt, w64 (a := (i : Int) + 1) (by omega) (by omega)]
    obtain ⟨t, ht, hlen⟩ := bytes_ends l[i] hb
    refine Ev.bind ht ?_
    simp only [hlen, w64 (a := (s : Int) + ((batLen l[i] : Nat) : Int)) (by omega) (by omega)]
    rw [List.drop_eq_getElem_cons hlt, sizeV, ← Nat.add_assoc]
    have := ih (i + 1) (s + batLen l[i]) (by omega) (by omega) (by omega)
    exact_mod_cast this
theorem ssize_loop (l : List S46) (hl : l.length ≤ 1000) (h : ∀ b ∈ l, BatR b.f5) : ∀ (d i s : Nat), l.length - i = d → i ≤ l.length → s ≤ 2020 * i → Ev (fun k => spec_l33Size.l0 k l (s : Int) (i : Int)) ((s + sizeV (l.drop i) : Nat) : Int) := by
  intro d
  induction d with
  | zero =>
    intro i s hd hi hs
    refine Ev.step (fun k => by rw [spec_l33Size.l0]) ?_
    simp only [if_neg (show ¬ ((i : Int) < (l.length : Int)) by omega)]
    rw [List.drop_of_length_le (by omega)]
    exact Ev.now _
  | succ d ih =>
    intro i s hd hi hs
    have hlt : i < l.length := by omega
    have hb := h _ (List.getElem_mem hlt)
    have hbl := batLen_le hb
    refine Ev.step (fun k => by rw [spec_l33Size.l0]) ?_
    simp only [if_pos (show (i : Int) < (l.length : Int) by omega), if_pos (show (0 : Int) ≤ (i : Int) by omega), rdB_nat l i hlt, w64 (a := (i : Int) + 1) (by omega) (by omega)]
    obtain ⟨t, ht, hlen⟩ := sbytes_ends l[i] hb
    refine Ev.bind ht ?_
    simp only [hlen, w64 (a := (s : Int) + ((batLen l[i] : Nat) : Int)) (by omega) (by omega)]
    rw [List.drop_eq_getElem_cons hlt, sizeV, ← Nat.add_assoc]
    have := ih (i + 1) (s + batLen l[i]) (by omega) (by omega) (by omega)
    exact_mod_cast this
theorem sizeOf_ev (l : List S46) (hl : l.length ≤ 1000) (h : ∀ b ∈ l, BatR b.f5) : Ev (fun k => impl_sizeOf.f k l) ((sizeV l : Nat) : Int) := by
  unfold impl_sizeOf.f
  have := size_loop l hl h l.length 0 0 (by omega) (by omega) (by omega)
  simpa using this
theorem ssizeOf_ev (l : List S46) (hl : l.length ≤ 1000) (h : ∀ b ∈ l, BatR b.f5) : Ev (fun k => spec_l33Size.f k l) ((sizeV l : Nat) : Int) := by
  unfold spec_l33Size.f
  have := ssize_loop l hl h l.length 0 0 (by omega) (by omega) (by omega)
  simpa using this
theorem logOk_R {l : List S46} (h : logOk l = true) : l.length ≤ 8 ∧ ∀ b ∈ l, BatR b.f5 := by
  refine ⟨?_, fun b hb => ?_⟩
  · unfold logOk at h
    simp only [Bool.and_eq_true, decide_eq_true_eq] at h
    omega
  · obtain ⟨i, hi, rfl⟩ := List.getElem_of_mem hb
    exact batR_of (logOk_bat h i hi)
def lsizeV (l : List S46) : Int := if logOk l = true then ((sizeV l : Nat) : Int) else -1
theorem LogSize_ev (l : List S46) (hb : RowB l) : Ev (fun k => impl_LogSize.f k l) (lsizeV l) := by
  unfold impl_LogSize.f lsizeV
  refine Ev.bind (LogValid_ev l hb) ?_
  cases h : logOk l
  · exact Ev.now _
  · have := logOk_R h
    simp only [if_true]
    exact Ev.bind (sizeOf_ev l (by omega) this.2) (Ev.now _)
theorem sLogSize_ev (l : List S46) (hb : RowB l) : Ev (fun k => spec_LogSize.f k l) (lsizeV l) := by
  unfold spec_LogSize.f lsizeV
  refine Ev.bind (sLogValid_ev l hb) ?_
  cases h : logOk l
  · exact Ev.now _
  · have := logOk_R h
    simp only [if_true]
    exact Ev.bind (ssizeOf_ev l (by omega) this.2) (Ev.now _)
end Go.Proofs.Ythoioccmnphfgaa.Pu

namespace Go.Proofs.Ythoioccmnphfgaa.Pure
open Go.RowKit Go.Proofs.Ythoioccmnphfgaa.G Go.Proofs.YthoioccmnphfgaaW.PrintWords Go.Proofs.YthoioccmnphfgaaW.PrintLast Go.Proofs.Ythoioccmnphfgaa.Pu
set_option linter.unusedSimpArgs false
theorem FnExactLogSize : OFnExactLogSize.Pure := by
  intro l0 hl0 ho0
  refine EndsIn.rounds ?_
  unfold laws_FnExactLogSize.f
  have hs0 : ∀ b ∈ l0, LenB b := fun b hb => ⟨(ho0 b hb).2.2.2.2.2.1, fun r hr => ⟨((ho0 b hb).2.2.2.2.2.2 r hr).2.2.2.1.1, ((ho0 b hb).2.2.2.2.2.2 r hr).2.2.2.2.2.1⟩⟩
  refine EndsIn.bind (szBatchS_ends l0 hl0 hs0 1048576 (by omega) (by omega)) fun t ht => ?_
  by_cases h : t < 0
  · simp only [if_pos h]
    exact EndsIn.now _ rfl
  · simp only [if_neg h]
    obtain ⟨t0, t1, n0, z0⟩ := ht.resolve_left h
    have hb := rowB_cv n0 z0
    refine ⟨true, ?_, rfl⟩
    refine Ev.bind (toBatchS_ev l0 n0 z0) (Ev.bind (sLogSize_ev _ hb) (Ev.bind (toBatchS_ev l0 n0 z0) (Ev.bind (LogSize_ev _ hb) ?_)))
    simp only [if_true]
    refine Ev.bind (toBatchS_ev l0 n0 z0) (Ev.bind (eqBatchS_ev _ hb) ?_)
    simp only [if_true]
    exact Ev.now _
end Go.Proofs.Ythoioccmnphfgaa.Pure

namespace Go.Proofs.Ythoioccmnphfgaa.fnExactLogSize
open Go.ChangeShapes Go.WideShapes Go.ChangeAt Go.RowKit Go.Proofs.Ythoioccmnphfgaa.OFnExactLogSize Go.Proofs.Ythoioccmnphfgaa.G Go.Joins
open Go.ChangeMaps (open_string shut_string)
set_option linter.unusedVariables false
theorem own : ownKnob Try.prog.godebug = none := by kernel_rfl
theorem laidOut : laidOutB Try.prog = true := by kernel_rfl
set_option maxRecDepth 100000 in
theorem lifted (os : Os) (started : os.Started) (H : Type) (enc : TypeId × Value → H) :
    ReturnsInHanded {} Try.checked os 7 .any (Rows.fnExactLogSizeSpec.pre6 enc Try.prog Try.f7 Rows.fnExactLogSizeRow.domain false) (Rows.fnExactLogSizeSpec.post enc Try.prog Try.f7 false true false false) := by
  refine returnsInHanded_of_change_sized (C := Try.checked) own started (by kernel_rfl) Try.func7
    (ChangeSpec.witness6 (enc := enc) (C := Try.checked) false ⟨#[], #[.slice none 0 0], []⟩ 8 (by kernel_rfl) (by kernel_rfl) (by kernel_rfl) (by kernel_rfl)) ?_
  intro W base args ds gs before hval0 hW hcnd hsz0 _
  have hsz : (DataW.weightsEach Try.prog (Try.f7.params.toList ++ Rows.fnExactLogSizeSpec.plain.varTypes Try.prog) (ds ++ gs)).all (· ≤ reachBytes) = true := hsz0
  have hval : ∀ (j : Nat) t v, Try.f7.params[j]? = some t → args[j]? = some v → Value.okWide Try.prog W .any base t v := hval0
  have hW' := hW
  obtain ⟨p, q, hA0, hV, rfl, hfz, hnd⟩ := hW
  have hA : DataW.TrodAll enc Try.prog W 0 (fun _ => true) true Try.f7.params.toList args.toList ds p := hA0
  rw [Try.params7] at hA hval hsz
  obtain ⟨v0, vs0, d0, ds0, p0, q0, hargs, rfl, rfl, h0, r0⟩ := trodAll_cons hA
  obtain ⟨rfl, rfl, rfl⟩ := trodAll_nil r0
  obtain rfl : args = #[v0] := by cases args; simp_all
  obtain ⟨rfl, rfl⟩ := trodVars_none hV
  obtain ⟨a0, len0, cap0, rfl⟩ := okWide_slice Try.underlying34 (hval 0 34 v0 rfl rfl)
  have k0 := h0
  have lt0 : ∀ x ∈ p0, x.block < W.heap.size := by obtain ⟨m, hm⟩ := k0; exact DataW.trod_lt m _ _ _ hm
  obtain ⟨fuel0, hf0⟩ := h0
  obtain ⟨A0, c0, l0, hcs0, hlc0, hm0, hC0, ho0⟩ := Rd.opens_row Try.underlying34 open56 hf0
  simp [Value.cells] at hcs0
  obtain ⟨rfl, rfl, rfl⟩ := hcs0
  clear hA0 hval0 hsz0 hsz
  obtain ⟨k, h⟩ := Pure.FnExactLogSize l0 (Nat.le_trans hlc0 hm0) ho0
  refine (laws_FnExactLogSize.calls k _ _ l0 true W hC0 hlc0 h).mono fun e W' ⟨he, bel0⟩ => ?_
  subst he
  have bel : Below W.heap.size W W' := bel0
  exact ⟨_, rfl, _, _, _, [], _, [], hW', trodAll_mk1 (shut_bool Try.underlying4 _), (trodAll_cons_mk (Below.trod laidOut (by kernel_rfl) (of_decide_eq_true (by kernel_rfl)) k0 bel lt0) trodAll_mk0), rfl, bel.frame _, fun h => by cases h⟩
theorem over : Rows.fnExactLogSizeRow.holds Try.pinned (OpenSpec.ofChange Rows.fnExactLogSizeSpec) :=
  OpenClaim.holds_of_wide 7 Try.f7 rfl rfl rfl rfl rfl rfl rfl ⟨rfl, rfl, rfl, rfl, rfl⟩ rfl rfl rfl rfl rfl (by kernel_rfl) Try.func7 (by kernel_rfl)
    (of_decide_eq_true (by kernel_rfl)) (by unfold Func.isWrapper; first | (rw [if_pos (by decide +kernel)]; kernel_rfl) | (rw [if_neg (by decide +kernel)]; exact ⟨rfl, rfl⟩))
    (fun os started H enc _ => lifted os started H enc)
theorem proved : Rows.FnExactLogSizeSaid := over
#print axioms proved
end Go.Proofs.Ythoioccmnphfgaa.fnExactLogSize
namespace Go.Proofs.Ythoioccmnphfgaa
/-- The row, under a short name, for the claim. -/
theorem fnExactLogSize_holds : Rows.FnExactLogSizeSaid := fnExactLogSize.proved
end Go.Proofs.Ythoioccmnphfgaa

