/- A text of seat YtbbboachakkgiaaDoor: what the law FnLogCutTwice needs of this repo's texts (by pack.py). Not trusted: Lean checks it. -/
import Derived.Test.YtbbboachakkgiaaDoorKFnLogCutTwice10
import Derived.Laws.BitsLemmas
import Derived.Test.YtbbboachakkgiaaDoorRows
import Derived.Test.YtbbboachakkgiaaDoorCards
import Derived.Test.YtbbboachakkgiaaDoorTie
import Derived.SevenTiedAt
import Derived.WalkSmall
import Derived.ChangeVars
import Derived.JoinedOf
import Derived.LaidLaws
import Derived.LaidHandle
import Derived.Stop.LaidErr
import Derived.Stop.LaidTwo
import Derived.Stop.Joined
import Derived.RowKitTokens
import Derived.WalkKit
import Derived.ProofKit
import Derived.OpenShut
import Derived.ShutString
import Derived.ChangeOld
import Derived.Below
import Derived.SizedLaws
import Derived.Lib.SmallJoins
import Derived.Laws.StructEq
import Derived.ChangeSlices
namespace Go.Proofs.YtbbboachakkgiaaDoor.Pu
open Go.RowKit Go.Proofs.YtbbboachakkgiaaDoorW.PrintWords Go.Proofs.YtbbboachakkgiaaDoorW.PrintLast Go.Proofs.YtbbboachakkgiaaDoor.G
set_option linter.unusedVariables false
set_option linter.unusedSimpArgs false
theorem xor_i64 (a b : Int) (h0 : 0 ≤ a) (h1 : a < 4611686018427387904) (k0 : 0 ≤ b) (k1 : b < 4611686018427387904) : 0 ≤ bits .xor .i64 a b := by
  obtain ⟨a, rfl⟩ := Int.eq_ofNat_of_zero_le h0
  obtain ⟨b, rfl⟩ := Int.eq_ofNat_of_zero_le k0
  have ha : a < 2 ^ 62 := by omega
  have hb : b < 2 ^ 62 := by omega
  have hx := Nat.xor_lt_two_pow ha hb
  have ha' : a % 2 ^ 64 = a := Nat.mod_eq_of_lt (by omega)
  have hb' : b % 2 ^ 64 = b := Nat.mod_eq_of_lt (by omega)
  show 0 ≤ IntKind.i64.wrap ((BitVec.ofInt 64 (a : Int) ^^^ BitVec.ofInt 64 (b : Int)).toNat : Int)
  rw [BitVec.ofInt_natCast, BitVec.ofInt_natCast, BitVec.toNat_xor, BitVec.toNat_ofNat, BitVec.toNat_ofNat, ha', hb', IntKind.wrap_i64]
  omega
theorem rd_range {b : List Int} (hb : ∀ x ∈ b, 0 ≤ x ∧ x ≤ 255) (i : Int) : 0 ≤ rd b i ∧ rd b i ≤ 255 := by
  unfold rd
  rw [List.getD_eq_getElem?_getD]
  rcases h : b[i.toNat]? with _ | x
  · simp
  · exact hb x (List.mem_of_getElem? h)
theorem mod_range {x n : Int} (h0 : 0 ≤ x) (h1 : 1 ≤ n) : 0 ≤ Int.tmod x n ∧ Int.tmod x n < n := by
  rw [Int.tmod_eq_emod_of_nonneg h0]
  exact ⟨Int.emod_nonneg _ (by omega), Int.emod_lt_of_pos _ (by omega)⟩
/-- A code that is read: bytes, and a place that is no great number. -/
def CodeOk (b : List Int) : Prop := b.length ≤ 2000 ∧ ∀ x ∈ b, 0 ≤ x ∧ x ≤ 255
theorem pick_ends {b : List Int} (hb : CodeOk b) (p n : Int) (h0 : 0 ≤ p) (h1 : p ≤ 1000000000) (hn : n ≤ 4611686018427387904) :
    EndsIn (fun k => spec_l6Rd_pick.f k b p n) (fun r => r.2 = p + 1 ∧ 0 ≤ r.1 ∧ (1 ≤ n → r.1 < n) ∧ (n < 1 → r.1 = 0)) := by
  obtain ⟨hl, hr⟩ := hb
  unfold spec_l6Rd_pick.f
  rw [w64 (a := p + 1) (by omega) (by omega)]
  by_cases hn1 : n < 1
  · simp only [if_pos hn1]
    refine EndsIn.step (fun k => by rw [spec_l6Rd_pick.j0]) ?_
    simp only [if_true]
    exact EndsIn.now _ ⟨rfl, by omega, by omega, fun _ => rfl⟩
  · simp only [if_neg hn1]
    refine EndsIn.step (fun k => by rw [spec_l6Rd_pick.j0]) ?_
    rw [show p + 1 - 1 = p by omega, w64 (a := p) (by omega) (by omega)]
    by_cases hz : (b.length : Int) = 0
    · have : ((b.length : Int) == 0) = true := by simpa using hz
      simp only [this, if_true]
      exact EndsIn.now _ ⟨rfl, by omega, by omega, fun h => by omega⟩
    · have hz' : ((b.length : Int) == 0) = false := by simpa using hz
      simp only [hz', Bool.false_eq_true, if_false]
      by_cases hp : p < (b.length : Int)
      · have hx := rd_range hr p
        simp only [if_pos hp, if_pos h0, if_neg (show ¬ n = 0 by omega)]
        rw [w64 (a := rd b p) (by omega) (by omega)]
        have hm := mod_range (x := rd b p) (n := n) hx.1 (by omega)
        exact EndsIn.now _ ⟨rfl, hm.1, fun _ => hm.2, fun h => by omega⟩
      · have hm1 := mod_range (x := p) (n := (b.length : Int)) h0 (by omega)
        have h7 : wrap64 (wrap64 (p * 7) + 3) = p * 7 + 3 := by
          rw [w64 (a := p * 7) (by omega) (by omega), w64 (by omega) (by omega)]
        have hm2 := mod_range (x := p * 7 + 3) (n := (b.length : Int)) (by omega) (by omega)
        simp only [if_neg hp, if_neg hz, h7, if_pos hm1.1, if_pos hm1.2, if_pos hm2.1, if_pos hm2.2, if_neg (show ¬ n = 0 by omega)]
        have hx1 := rd_range hr (Int.tmod p b.length)
        have hx2 := rd_range hr (Int.tmod (p * 7 + 3) b.length)
        generalize rd b (Int.tmod p b.length) = x1 at hx1 ⊢
        generalize rd b (Int.tmod (p * 7 + 3) b.length) = x2 at hx2 ⊢
        have hd : 0 ≤ Int.tdiv p (b.length : Int) ∧ Int.tdiv p (b.length : Int) ≤ p := by
          rw [Int.tdiv_eq_ediv_of_nonneg h0]
          exact ⟨Int.ediv_nonneg h0 (by omega), Int.ediv_le_self _ h0⟩
        generalize Int.tdiv p (b.length : Int) = q at hd ⊢
        have e1 : wrap64 x1 = x1 := w64 (by omega) (by omega)
        have e2 : wrap64 x2 = x2 := w64 (by omega) (by omega)
        have e3 : wrap64 (x1 * 131) = x1 * 131 := w64 (by omega) (by omega)
        have e4 : wrap64 (x2 * 1117) = x2 * 1117 := w64 (by omega) (by omega)
        have e5 : wrap64 (x1 * 131 + x2 * 1117) = x1 * 131 + x2 * 1117 := w64 (by omega) (by omega)
        have e6 : wrap64 (p * 29) = p * 29 := w64 (by omega) (by omega)
        have e7 : wrap64 (x1 * 131 + x2 * 1117 + p * 29) = x1 * 131 + x2 * 1117 + p * 29 := w64 (by omega) (by omega)
        have e8 : wrap64 q = q := w64 (by omega) (by omega)
        have e9 : wrap64 (q * 53) = q * 53 := w64 (by omega) (by omega)
        have e10 : wrap64 (x1 * 131 + x2 * 1117 + p * 29 + q * 53) = x1 * 131 + x2 * 1117 + p * 29 + q * 53 := w64 (by omega) (by omega)
        simp only [e1, e2, e3, e4, e5, e6, e7, e8, e9, e10]
        have hX : 0 ≤ x1 * 131 + x2 * 1117 + p * 29 + q * 53 ∧ x1 * 131 + x2 * 1117 + p * 29 + q * 53 < 4611686018427387904 := ⟨by omega, by omega⟩
        generalize x1 * 131 + x2 * 1117 + p * 29 + q * 53 = X at hX ⊢
        have e11 : wrap64 (Int.tdiv X 64) = X / 64 := by
          rw [Int.tdiv_eq_ediv_of_nonneg hX.1]
          exact w64 (by omega) (by omega)
        rw [e11]
        have hxx := xor_i64 X (X / 64) hX.1 hX.2 (by omega) (by omega)
        have hm := mod_range (n := n) hxx (by omega)
        exact EndsIn.now _ ⟨rfl, hm.1, fun _ => hm.2, fun h => by omega⟩
end Go.Proofs.YtbbboachakkgiaaDoor.Pu

namespace Go.Proofs.YtbbboachakkgiaaDoor.Pu
open Go.RowKit Go.Proofs.YtbbboachakkgiaaDoorW.PrintWords Go.Proofs.YtbbboachakkgiaaDoorW.PrintLast Go.Proofs.YtbbboachakkgiaaDoorW.PrintMore Go.Proofs.YtbbboachakkgiaaDoor.G
set_option linter.unusedVariables false
set_option linter.unusedSimpArgs false
theorem part_loop {b : List Int} (hb : CodeOk b) (n : Int) (hn : n ≤ 12) : ∀ d (i : Nat) (l : List Int) (p : Int), 12 - i = d → l.length = i → i ≤ 12 → 0 ≤ p → p ≤ 900000000 + 2 * (i : Int) →
    EndsIn (fun k => spec_l91Part.l0 k l n (i : Int) b p) (fun r => r.2.1.length ≤ 12 ∧ p ≤ r.2.2 ∧ r.2.2 ≤ p + 2 * (12 - (i : Int))) := by
  intro d
  induction d with
  | zero =>
    intro i l p hd hl hi p0 p1
    refine EndsIn.step (fun k => by rw [spec_l91Part.l0]) ?_
    simp only [if_neg (show ¬ (i : Int) < n by omega)]
    exact EndsIn.now _ ⟨by show l.length ≤ 12; omega, by show p ≤ p; omega, by show p ≤ _; omega⟩
  | succ d ih =>
    intro i l p hd hl hi p0 p1
    refine EndsIn.step (fun k => by rw [spec_l91Part.l0]) ?_
    by_cases h : (i : Int) < n
    · simp only [if_pos h]
      refine EndsIn.bind (pick_ends hb p 256 p0 (by omega) (by omega)) fun q hq => ?_
      obtain ⟨q2, q3, q4, _⟩ := hq
      simp only [bindS]
      rw [q2]
      refine EndsIn.bind (pick_ends hb (p + 1) 4 (by omega) (by omega) (by omega)) fun s hs => ?_
      obtain ⟨s2, s3, s4, _⟩ := hs
      have s5 := s4 (by omega)
      rw [s2]
      simp only [if_pos s3, if_pos (show s.1 < (([1, 2, 3, q.1] : List Int).length : Int) by simpa using s5), if_pos (show l.length < 17592186044416 by omega), w64 (a := (i : Int) + 1) (by omega) (by omega)]
      have := ih (i + 1) (l ++ [rd [1, 2, 3, q.1] s.1]) (p + 1 + 1) (by omega) (by rw [List.length_append, hl]; rfl) (by omega) (by omega) (by omega)
      exact this.mono fun r hr => ⟨hr.1, by omega, by omega⟩
    · simp only [if_neg h]
      exact EndsIn.now _ ⟨by show l.length ≤ 12; omega, by show p ≤ p; omega, by show p ≤ _; omega⟩
theorem part_ends {b : List Int} (hb : CodeOk b) (p : Int) (h0 : 0 ≤ p) (h1 : p ≤ 800000000) : EndsIn (fun k => spec_l91Part.f k b p) (fun r => r.2.1.length ≤ 12 ∧ p ≤ r.2.2 ∧ r.2.2 ≤ p + 30) := by
  have st : ∀ (n q : Int), n ≤ 12 → p ≤ q → q ≤ p + 5 → EndsIn (fun k => spec_l91Part.j0 k [] n b q) (fun r => r.2.1.length ≤ 12 ∧ p ≤ r.2.2 ∧ r.2.2 ≤ p + 30) := by
    intro n q hn q0 q1
    refine EndsIn.step (fun k => by rw [spec_l91Part.j0]) ?_
    have := part_loop hb n hn 12 0 [] q (by omega) rfl (by omega) (by omega) (by omega)
    exact this.mono fun r hr => ⟨hr.1, by omega, by omega⟩
  unfold spec_l91Part.f
  refine EndsIn.bind (pick_ends hb p 4 h0 (by omega) (by omega)) fun q hq => ?_
  obtain ⟨q2, q3, q4, _⟩ := hq
  rw [q2]
  by_cases hz : q.1 = 0
  · simp only [if_pos hz]
    exact EndsIn.now _ ⟨by simp, by show p ≤ p + 1; omega, by show p + 1 ≤ p + 30; omega⟩
  · simp only [if_neg hz, bindS]
    refine EndsIn.bind (pick_ends hb (p + 1) 5 (by omega) (by omega) (by omega)) fun s hs => ?_
    obtain ⟨s2, s3, s4, _⟩ := hs
    have s5 := s4 (by omega)
    rw [s2]
    refine EndsIn.bind (pick_ends hb (p + 1 + 1) 12 (by omega) (by omega) (by omega)) fun u hu => ?_
    obtain ⟨u2, u3, u4, _⟩ := hu
    rw [u2]
    by_cases hu0 : u.1 = 0
    · simp only [if_pos hu0]
      exact st _ _ (by omega) (by omega) (by omega)
    · simp only [if_neg hu0]
      exact st _ _ (by omega) (by omega) (by omega)
def Small (r : S33) : Prop := r.f3.length ≤ 12 ∧ r.f5.length ≤ 12
theorem recs_loop {b : List Int} (hb : CodeOk b) (n : Int) (hn : n ≤ 6) : ∀ d (i : Nat) (l : List S33) (o t p : Int), 6 - i = d → l.length = i → i ≤ 6 → (∀ r ∈ l, Small r) → 0 ≤ p → p ≤ 700000000 + 100 * (i : Int) →
    EndsIn (fun k => spec_l91Records.l0 k o l n t (i : Int) b p) (fun r => (∀ x ∈ r.1, Small x) ∧ (n ≤ (r.1.length : Int)) ∧ r.1.length ≤ 6 ∧ p ≤ r.2 ∧ r.2 ≤ p + 100 * (6 - (i : Int))) := by
  have stop : ∀ (i : Nat) (l : List S33) (o t p : Int), l.length = i → i ≤ 6 → (∀ r ∈ l, Small r) → ¬ (i : Int) < n →
      EndsIn (fun k => spec_l91Records.l0 k o l n t (i : Int) b p) (fun r => (∀ x ∈ r.1, Small x) ∧ (n ≤ (r.1.length : Int)) ∧ r.1.length ≤ 6 ∧ p ≤ r.2 ∧ r.2 ≤ p + 100 * (6 - (i : Int))) := by
    intro i l o t p hl hi hs h
    refine EndsIn.step (fun k => by rw [spec_l91Records.l0]) ?_
    simp only [if_neg h]
    exact EndsIn.now _ ⟨hs, by show n ≤ (l.length : Int); omega, by show l.length ≤ 6; omega, by show p ≤ p; omega, by show p ≤ _; omega⟩
  intro d
  induction d with
  | zero =>
    intro i l o t p hd hl hi hs p0 p1
    exact stop i l o t p hl hi hs (by omega)
  | succ d ih =>
    intro i l o t p hd hl hi hs p0 p1
    by_cases h : (i : Int) < n
    · refine EndsIn.step (fun k => by rw [spec_l91Records.l0]) ?_
      simp only [if_pos h]
      refine EndsIn.bind (part_ends hb p p0 (by omega)) fun q hq => ?_
      obtain ⟨q1, q2, q3⟩ := hq
      refine EndsIn.bind (part_ends hb q.2.2 (by omega) (by omega)) fun s hs' => ?_
      obtain ⟨s1, s2, s3⟩ := hs'
      have st : ∀ (c : Bool) (u : Int), s.2.2 ≤ u → u ≤ s.2.2 + 2 → EndsIn (fun k => spec_l91Records.j1 k o l n t (i : Int) s.1 s.2.1 c b u o t q.1 q.2.1 false) (fun r => (∀ x ∈ r.1, Small x) ∧ (n ≤ (r.1.length : Int)) ∧ r.1.length ≤ 6 ∧ p ≤ r.2 ∧ r.2 ≤ p + 100 * (6 - (i : Int))) := by
        intro c u u0 u1
        refine EndsIn.step (fun k => by rw [spec_l91Records.j1]) ?_
        have nx : ∀ (x : S33) (o' t' v : Int), Small x → u ≤ v → v ≤ u + 5 → EndsIn (fun k => spec_l91Records.l0 k o' (l ++ [x]) n t' ((i : Int) + 1) b v) (fun r => (∀ x ∈ r.1, Small x) ∧ (n ≤ (r.1.length : Int)) ∧ r.1.length ≤ 6 ∧ p ≤ r.2 ∧ r.2 ≤ p + 100 * (6 - (i : Int))) := by
          intro x o' t' v hx v0 v1
          have := ih (i + 1) (l ++ [x]) o' t' v (by omega) (by rw [List.length_append, hl]; rfl) (by omega) (fun r hr => by
            rcases List.mem_append.1 hr with hr | hr
            · exact hs r hr
            · rw [List.mem_singleton] at hr
              rw [hr]
              exact hx) (by omega) (by omega)
          exact this.mono fun r hr => ⟨hr.1, hr.2.1, hr.2.2.1, by omega, by omega⟩
        cases c
        · simp only [Bool.false_eq_true, if_false, if_pos (show l.length < 1759218604441 by omega)]
          refine EndsIn.bind (pick_ends hb u 5 (by omega) (by omega) (by omega)) fun v hv => ?_
          rw [hv.1]
          refine EndsIn.bind (pick_ends hb (u + 1) 30 (by omega) (by omega) (by omega)) fun z hz => ?_
          rw [hz.1, w64 (a := (i : Int) + 1) (by omega) (by omega)]
          exact nx _ _ _ _ ⟨q1, s1⟩ (by omega) (by omega)
        · simp only [if_true, if_pos (show l.length < 1759218604441 by omega)]
          refine EndsIn.bind (pick_ends hb u 3 (by omega) (by omega) (by omega)) fun y hy => ?_
          rw [hy.1]
          refine EndsIn.bind (pick_ends hb (u + 1) 5 (by omega) (by omega) (by omega)) fun v hv => ?_
          rw [hv.1]
          refine EndsIn.bind (pick_ends hb (u + 1 + 1) 30 (by omega) (by omega) (by omega)) fun z hz => ?_
          rw [hz.1, w64 (a := (i : Int) + 1) (by omega) (by omega)]
          exact nx _ _ _ _ ⟨by show 1 ≤ 12; omega, s1⟩ (by omega) (by omega)
      cases hq1 : q.1
      · simp only [Bool.false_eq_true, if_false]
        have := st false s.2.2 (by omega) (by omega)
        rw [hq1] at this
        exact this
      · simp only [if_true]
        refine EndsIn.bind (pick_ends hb s.2.2 2 (by omega) (by omega) (by omega)) fun y hy => ?_
        rw [hy.1]
        have := st (y.1 == 0) (s.2.2 + 1) (by omega) (by omega)
        rw [hq1] at this
        exact this
    · exact stop i l o t p hl hi hs h
/-- Some records: one at least. -/
theorem recs_ends {b : List Int} (hb : CodeOk b) (p a n : Int) (h0 : 0 ≤ p) (h1 : p ≤ 600000000) (hn1 : 1 ≤ n) (hn : n ≤ 6) :
    EndsIn (fun k => spec_l91Records.f k b p a n) (fun r => (∀ x ∈ r.1, Small x) ∧ 1 ≤ r.1.length ∧ r.1.length ≤ 6 ∧ p ≤ r.2 ∧ r.2 ≤ p + 700) := by
  unfold spec_l91Records.f
  refine EndsIn.bind (pick_ends hb p n h0 (by omega) (by omega)) fun q hq => ?_
  obtain ⟨q2, q3, q4, _⟩ := hq
  have q5 := q4 (by omega)
  rw [q2]
  refine EndsIn.bind (pick_ends hb (p + 1) 200 (by omega) (by omega) (by omega)) fun s hs => ?_
  rw [hs.1, w64 (a := 1 + q.1) (by omega) (by omega)]
  have := recs_loop hb (1 + q.1) (by omega) 6 0 [] a s.1 (p + 1 + 1) (by omega) rfl (by omega) (by simp) (by omega) (by omega)
  exact this.mono fun r hr => ⟨hr.1, by omega, hr.2.2.1, by omega, by omega⟩
def BatS (l : List S33) : Prop := (∀ x ∈ l, Small x) ∧ 1 ≤ l.length ∧ l.length ≤ 7
theorem bat_j {b : List Int} (hb : CodeOk b) (p : Int) (h0 : 0 ≤ p) (h1 : p ≤ 600000000) (c0 c1 : Bool) (x y z : Int) (l : List S33) (hl : (∀ x ∈ l, Small x) ∧ 1 ≤ l.length ∧ l.length ≤ 6) :
    EndsIn (fun k => spec_l91Batch.j0 k b p c0 c1 x y z l) (fun r => BatS r.2.2.2.2.2.1 ∧ p ≤ r.2.2.2.2.2.2 ∧ r.2.2.2.2.2.2 ≤ p + 3) := by
  obtain ⟨l1, l2, l3⟩ := hl
  have hB : BatS l := ⟨l1, l2, by omega⟩
  refine EndsIn.step (fun k => by rw [spec_l91Batch.j0]) ?_
  refine EndsIn.bind (pick_ends hb p 40 h0 (by omega) (by omega)) fun q hq => ?_
  rw [hq.1]
  by_cases e0 : q.1 = 0
  · simp only [if_pos e0, bindS]
    refine EndsIn.bind (pick_ends hb (p + 1) 3 (by omega) (by omega) (by omega)) fun s hs => ?_
    obtain ⟨s2, s3, s4, _⟩ := hs
    have s5 := s4 (by omega)
    simp only [if_pos s3, if_pos (show s.1 < (([(-1), 1, 100] : List Int).length : Int) by simpa using s5)]
    exact EndsIn.now _ ⟨hB, by show p ≤ s.2; omega, by show s.2 ≤ p + 3; omega⟩
  · simp only [if_neg e0]
    by_cases e1 : q.1 = 1
    · simp only [if_pos e1, if_pos (show (0 : Int) < (l.length : Int) by omega), if_pos (show l.length < 1759218604441 by omega)]
      refine EndsIn.now _ ⟨⟨fun r hr => ?_, by show 1 ≤ (l ++ [_]).length; rw [List.length_append]; omega, by show (l ++ [_]).length ≤ 7; rw [List.length_append]; simp only [List.length_singleton]; omega⟩, by show p ≤ p + 1; omega, by show p + 1 ≤ p + 3; omega⟩
      rcases List.mem_append.1 hr with hr | hr
      · exact l1 r hr
      · rw [List.mem_singleton] at hr
        rw [hr]
        have := l1 _ (List.getElem_mem (show 0 < l.length by omega))
        rw [← rdR_nat l 0 (by omega)] at this
        exact this
    · simp only [if_neg e1]
      by_cases e2 : q.1 = 2
      · simp only [if_pos e2]
        exact EndsIn.now _ ⟨hB, by show p ≤ p + 1; omega, by show p + 1 ≤ p + 3; omega⟩
      · simp only [if_neg e2]
        exact EndsIn.now _ ⟨hB, by show p ≤ p + 1; omega, by show p + 1 ≤ p + 3; omega⟩
theorem bat_ends {b : List Int} (hb : CodeOk b) (p a : Int) (h0 : 0 ≤ p) (h1 : p ≤ 500000000) :
    EndsIn (fun k => spec_l91Batch.f k b p a) (fun r => BatS r.2.2.2.2.2.1 ∧ p ≤ r.2.2.2.2.2.2 ∧ r.2.2.2.2.2.2 ≤ p + 800) := by
  unfold spec_l91Batch.f
  refine EndsIn.bind (pick_ends hb p 2 h0 (by omega) (by omega)) fun q hq => ?_
  rw [hq.1]
  refine EndsIn.bind (recs_ends hb (p + 1) a 4 (by omega) (by omega) (by omega) (by omega)) fun s hs => ?_
  obtain ⟨s1, s2, s3, s4, s5⟩ := hs
  refine EndsIn.bind (pick_ends hb s.2 3 (by omega) (by omega) (by omega)) fun t ht => ?_
  rw [ht.1]
  by_cases e0 : t.1 = 0
  · simp only [if_pos e0]
    refine EndsIn.bind (pick_ends hb (s.2 + 1) 3 (by omega) (by omega) (by omega)) fun u hu => ?_
    rw [hu.1]
    refine EndsIn.bind (pick_ends hb (s.2 + 1 + 1) 3 (by omega) (by omega) (by omega)) fun v hv => ?_
    rw [hv.1]
    refine EndsIn.bind (pick_ends hb (s.2 + 1 + 1 + 1) 5 (by omega) (by omega) (by omega)) fun x hx => ?_
    rw [hx.1]
    refine EndsIn.bind (pick_ends hb (s.2 + 1 + 1 + 1 + 1) 3 (by omega) (by omega) (by omega)) fun y hy => ?_
    rw [hy.1]
    by_cases ey : y.1 = 0
    · simp only [if_pos ey]
      refine EndsIn.bind (pick_ends hb (s.2 + 1 + 1 + 1 + 1 + 1) 200 (by omega) (by omega) (by omega)) fun z hz => ?_
      rw [hz.1]
      refine EndsIn.bind (pick_ends hb (s.2 + 1 + 1 + 1 + 1 + 1 + 1) 2 (by omega) (by omega) (by omega)) fun m hm => ?_
      rw [hm.1]
      refine (bat_j hb (s.2 + 1 + 1 + 1 + 1 + 1 + 1 + 1) (by omega) (by omega) _ _ _ _ _ _ ⟨fun r hr => ?_, by simp, by simp⟩).mono fun r hr => ⟨hr.1, by omega, by omega⟩
      rw [List.mem_singleton] at hr
      rw [hr]
      exact ⟨by show 0 ≤ 12; omega, by show 1 ≤ 12; omega⟩
    · simp only [if_neg ey]
      exact (bat_j hb (s.2 + 1 + 1 + 1 + 1 + 1) (by omega) (by omega) _ _ _ _ _ _ ⟨s1, s2, s3⟩).mono fun r hr => ⟨hr.1, by omega, by omega⟩
  · simp only [if_neg e0]
    exact (bat_j hb (s.2 + 1) (by omega) (by omega) _ _ _ _ _ _ ⟨s1, s2, s3⟩).mono fun r hr => ⟨hr.1, by omega, by omega⟩
theorem BatS.rowR {l : List S33} (h : BatS l) : RowR l := ⟨by have := h.2.2; omega, fun r hr => by have := h.1 r hr; unfold Small at this; exact ⟨by omega, by omega⟩⟩
end Go.Proofs.YtbbboachakkgiaaDoor.Pu

namespace Go.Proofs.YtbbboachakkgiaaDoor.Pu
open Go.RowKit Go.Proofs.YtbbboachakkgiaaDoorW.PrintWords Go.Proofs.YtbbboachakkgiaaDoorW.PrintLast Go.Proofs.YtbbboachakkgiaaDoorW.PrintMore Go.Proofs.YtbbboachakkgiaaDoor.G
set_option linter.unusedVariables false
set_option linter.unusedSimpArgs false
def DrL (l : List S47) : Prop := l.length ≤ 9 ∧ ∀ x ∈ l, BatS x.f5
theorem DrL.rowB {l : List S47} (h : DrL l) : RowB l := ⟨by have := h.1; omega, fun x hx => (h.2 x hx).rowR⟩
theorem log_loop {b : List Int} (hb : CodeOk b) (n : Int) (hn : n ≤ 9) : ∀ d (i : Nat) (l : List S47) (o p : Int), 9 - i = d → l.length = i → i ≤ 9 → (∀ x ∈ l, BatS x.f5) → 0 ≤ p → p ≤ 400000000 + 2000 * (i : Int) →
    EndsIn (fun k => spec_l92Log.l0 k l n o (i : Int) b p) (fun r => DrL r.1 ∧ p ≤ r.2 ∧ r.2 ≤ p + 2000 * (9 - (i : Int)) + 10) := by
  have stop : ∀ (i : Nat) (l : List S47) (o p : Int), l.length = i → i ≤ 9 → (∀ x ∈ l, BatS x.f5) → 0 ≤ p → p ≤ 400000000 + 2000 * (i : Int) → ¬ (i : Int) < n →
      EndsIn (fun k => spec_l92Log.l0 k l n o (i : Int) b p) (fun r => DrL r.1 ∧ p ≤ r.2 ∧ r.2 ≤ p + 2000 * (9 - (i : Int)) + 10) := by
    intro i l o p hl hi hs p0 p1 h
    refine EndsIn.step (fun k => by rw [spec_l92Log.l0]) ?_
    simp only [if_neg h]
    by_cases h1 : n > 1
    · simp only [if_pos h1]
      refine EndsIn.bind (pick_ends hb p 30 p0 (by omega) (by omega)) fun q hq => ?_
      rw [hq.1]
      by_cases e0 : q.1 = 0
      · simp only [if_pos e0, if_pos (show (0 : Int) < (l.length : Int) by omega), if_pos (show (1 : Int) < (l.length : Int) by omega)]
        refine EndsIn.now _ ⟨⟨by rw [List.length_set]; omega, fun x hx => ?_⟩, by show p ≤ p + 1; omega, by show p + 1 ≤ _; omega⟩
        rcases List.mem_or_eq_of_mem_set hx with hx | rfl
        · exact hs x hx
        · have := hs _ (List.getElem_mem (show 0 < l.length by omega))
          rw [← rdB_nat l 0 (by omega)] at this
          exact this
      · simp only [if_neg e0]
        exact EndsIn.now _ ⟨⟨by show l.length ≤ 9; omega, hs⟩, by show p ≤ p + 1; omega, by show p + 1 ≤ _; omega⟩
    · simp only [if_neg h1]
      exact EndsIn.now _ ⟨⟨by show l.length ≤ 9; omega, hs⟩, by show p ≤ p; omega, by show p ≤ _; omega⟩
  intro d
  induction d with
  | zero =>
    intro i l o p hd hl hi hs p0 p1
    exact stop i l o p hl hi hs p0 p1 (by omega)
  | succ d ih =>
    intro i l o p hd hl hi hs p0 p1
    by_cases h : (i : Int) < n
    · refine EndsIn.step (fun k => by rw [spec_l92Log.l0]) ?_
      simp only [if_pos h]
      refine EndsIn.bind (bat_ends hb p o p0 (by omega)) fun x hx => ?_
      obtain ⟨x1, x2, x3⟩ := hx
      refine EndsIn.bind (pick_ends hb x.2.2.2.2.2.2 20 (by omega) (by omega) (by omega)) fun q hq => ?_
      have q2 := hq.1
      have nx : ∀ (y : S47) (o' v : Int), BatS y.f5 → p ≤ v → v ≤ p + 2000 → EndsIn (fun k => spec_l92Log.l0 k (l ++ [y]) n o' ((i : Int) + 1) b v) (fun r => DrL r.1 ∧ p ≤ r.2 ∧ r.2 ≤ p + 2000 * (9 - (i : Int)) + 10) := by
        intro y o' v hy v0 v1
        have := ih (i + 1) (l ++ [y]) o' v (by omega) (by rw [List.length_append, hl]; rfl) (by omega) (fun r hr => by
          rcases List.mem_append.1 hr with hr | hr
          · exact hs r hr
          · rw [List.mem_singleton] at hr
            rw [hr]
            exact hy) (by omega) (by omega)
        exact this.mono fun r hr => ⟨hr.1, by omega, by omega⟩
      have st : ∀ (c : Bool), EndsIn (fun k => spec_l92Log.j2 k l n o (i : Int) c b q.2 x.1 x.2.1 x.2.2.1 x.2.2.2.1 x.2.2.2.2.1 x.2.2.2.2.2.1) (fun r => DrL r.1 ∧ p ≤ r.2 ∧ r.2 ≤ p + 2000 * (9 - (i : Int)) + 10) := by
        intro c
        refine EndsIn.step (fun k => by rw [spec_l92Log.j2]) ?_
        cases c
        · obtain ⟨y1, y2, y3⟩ := x1
          simp only [Bool.false_eq_true, if_false, if_pos (show l.length < 2513169434916 by omega), w64 (a := (x.2.2.2.2.2.1.length : Int) - 1) (by omega) (by omega), if_pos (show (0 : Int) ≤ (x.2.2.2.2.2.1.length : Int) - 1 by omega), if_pos (show (x.2.2.2.2.2.1.length : Int) - 1 < (x.2.2.2.2.2.1.length : Int) by omega)]
          refine EndsIn.bind (pick_ends hb q.2 4 (by omega) (by omega) (by omega)) fun z hz => ?_
          rw [hz.1, w64 (a := (i : Int) + 1) (by omega) (by omega)]
          exact nx _ _ _ ⟨y1, y2, y3⟩ (by omega) (by omega)
        · simp only [if_true]
          refine EndsIn.bind (recs_ends hb q.2 o 2 (by omega) (by omega) (by omega) (by omega)) fun s hs => ?_
          obtain ⟨s1, s2, s3, s4, s5⟩ := hs
          simp only [if_pos (show l.length < 2513169434916 by omega), w64 (a := (s.1.length : Int) - 1) (by omega) (by omega), if_pos (show (0 : Int) ≤ (s.1.length : Int) - 1 by omega), if_pos (show (s.1.length : Int) - 1 < (s.1.length : Int) by omega)]
          refine EndsIn.bind (pick_ends hb s.2 4 (by omega) (by omega) (by omega)) fun z hz => ?_
          rw [hz.1, w64 (a := (i : Int) + 1) (by omega) (by omega)]
          exact nx _ _ _ ⟨s1, s2, by show s.1.length ≤ 7; omega⟩ (by omega) (by omega)
      by_cases e0 : q.1 > 0
      · simp only [if_pos e0]
        refine EndsIn.bind (P := fun _ => True) ⟨_, sBatchValid_ev ⟨x.1, x.2.1, x.2.2.1, x.2.2.2.1, x.2.2.2.2.1, x.2.2.2.2.2.1⟩ x1.rowR, trivial⟩ fun t _ => ?_
        exact st _
      · simp only [if_neg e0]
        exact st _
    · exact stop i l o p hl hi hs p0 p1 h
theorem drawLog_ends {b : List Int} (hb : CodeOk b) (p : Int) (h0 : 0 ≤ p) (h1 : p ≤ 300000000) : EndsIn (fun k => spec_l92Log.f k b p) (fun r => DrL r.1 ∧ p ≤ r.2 ∧ r.2 ≤ p + 20000) := by
  have st : ∀ (n q : Int), n ≤ 9 → p ≤ q → q ≤ p + 10 → EndsIn (fun k => spec_l92Log.j0 k [] n b q) (fun r => DrL r.1 ∧ p ≤ r.2 ∧ r.2 ≤ p + 20000) := by
    intro n q hn hq0 hq1
    refine EndsIn.step (fun k => by rw [spec_l92Log.j0]) ?_
    refine EndsIn.bind (pick_ends hb q 10 (by omega) (by omega) (by omega)) fun t ht => ?_
    rw [ht.1]
    have := log_loop hb n hn 9 0 [] t.1 (q + 1) (by omega) rfl (by omega) (by simp) (by omega) (by omega)
    exact this.mono fun r hr => ⟨hr.1, by omega, by omega⟩
  unfold spec_l92Log.f
  simp only [bindS]
  refine EndsIn.bind (pick_ends hb p 5 h0 (by omega) (by omega)) fun q hq => ?_
  obtain ⟨q2, q3, q4, _⟩ := hq
  have q5 := q4 (by omega)
  rw [q2]
  refine EndsIn.bind (pick_ends hb (p + 1) 16 (by omega) (by omega) (by omega)) fun s hs => ?_
  rw [hs.1]
  by_cases hz : s.1 = 0
  · simp only [if_pos hz]
    refine EndsIn.bind (pick_ends hb (p + 1 + 1) 3 (by omega) (by omega) (by omega)) fun u hu => ?_
    obtain ⟨u2, u3, u4, _⟩ := hu
    have u5 := u4 (by omega)
    simp only [if_pos u3, if_pos (show u.1 < (([0, 8, 9] : List Int).length : Int) by simpa using u5)]
    rw [u2]
    refine st _ _ ?_ (by omega) (by omega)
    have : u.1 = 0 ∨ u.1 = 1 ∨ u.1 = 2 := by omega
    rcases this with e | e | e <;> (rw [e]; decide)
  · simp only [if_neg hz, w64 (a := 1 + q.1) (by omega) (by omega)]
    exact st _ _ (by omega) (by omega) (by omega)
end Go.Proofs.YtbbboachakkgiaaDoor.Pu

namespace Go.Proofs.YtbbboachakkgiaaDoor.Pu
open Go.RowKit Go.Proofs.YtbbboachakkgiaaDoorW.PrintWords Go.Proofs.YtbbboachakkgiaaDoorW.PrintLast Go.Proofs.YtbbboachakkgiaaDoor.G
set_option linter.unusedVariables false
set_option linter.unusedSimpArgs false
theorem open_some (l0 : List Int) (hr : ∀ x ∈ l0, 0 ≤ x ∧ x ≤ 255) : ∃ b, spec_l6Open.f l0 = some (b, 0) ∧ CodeOk b := by
  unfold spec_l6Open.f
  by_cases h : (l0.length : Int) > 2000
  · rw [if_pos h, if_pos (by omega)]
    exact ⟨_, rfl, by rw [List.length_take]; omega, fun x hx => hr x (List.mem_of_mem_take hx)⟩
  · rw [if_neg h]
    exact ⟨_, rfl, by omega, hr⟩
end Go.Proofs.YtbbboachakkgiaaDoor.Pu

namespace Go.Proofs.YtbbboachakkgiaaDoor.Pu
open Go.RowKit Go.Proofs.YtbbboachakkgiaaDoorW.PrintWords Go.Proofs.YtbbboachakkgiaaDoorW.PrintLast Go.Proofs.YtbbboachakkgiaaDoorW.PrintMore Go.Proofs.YtbbboachakkgiaaDoor.G
set_option linter.unusedVariables false
set_option linter.unusedSimpArgs false
theorem lcut_all (o : Int) (P : BT → Prop) : ∀ (l acc : List BT), (∀ b ∈ acc, P b) → (∀ b ∈ l, lastOf b < o → P b) → (∀ b ∈ l, cutGood b o = true → P (aheadB b o)) → ∀ b ∈ (lcut o l acc).1, P b
  | [], acc, ha, _, _ => ha
  | x :: l, acc, ha, h1, h2 => by
    have k1 : ∀ b ∈ l, lastOf b < o → P b := fun b hb => h1 b (List.mem_cons_of_mem _ hb)
    have k2 : ∀ b ∈ l, cutGood b o = true → P (aheadB b o) := fun b hb => h2 b (List.mem_cons_of_mem _ hb)
    have app : ∀ y, P y → ∀ b ∈ acc ++ [y], P b := fun y hy b hb => by
      rcases List.mem_append.1 hb with hb | hb
      · exact ha b hb
      · rw [List.mem_singleton] at hb
        rw [hb]
        exact hy
    rw [lcut]
    by_cases c1 : lastOf x < o
    · rw [if_pos c1]
      exact lcut_all o P l _ (app _ (h1 x List.mem_cons_self c1)) k1 k2
    · rw [if_neg c1]
      by_cases c2 : firstOf x < o
      · rw [if_pos c2]
        by_cases c3 : cutGood x o = true
        · rw [if_pos c3]
          exact lcut_all o P l _ (app _ (h2 x List.mem_cons_self c3)) k1 k2
        · rw [if_neg c3]
          intro b hb
          simp at hb
      · rw [if_neg c2]
        exact lcut_all o P l _ ha k1 k2
theorem lcut_len (o : Int) : ∀ (l acc : List BT), (lcut o l acc).1.length ≤ acc.length + l.length
  | [], acc => by simp [lcut]
  | x :: l, acc => by
    rw [lcut]
    by_cases c1 : lastOf x < o
    · rw [if_pos c1]
      have := lcut_len o l (acc ++ [x])
      simp only [List.length_append, List.length_cons, List.length_nil] at this ⊢
      omega
    · rw [if_neg c1]
      by_cases c2 : firstOf x < o
      · rw [if_pos c2]
        by_cases c3 : cutGood x o = true
        · rw [if_pos c3]
          have := lcut_len o l (acc ++ [aheadB x o])
          simp only [List.length_append, List.length_cons, List.length_nil] at this ⊢
          omega
        · rw [if_neg c3]
          simp
      · rw [if_neg c2]
        have := lcut_len o l acc
        simp only [List.length_cons]
        omega
theorem ahead_row {b : BT} {o : Int} (h : RowR b.f5) : RowR (aheadB b o).f5 :=
  ⟨Nat.le_trans (List.length_filter_le _ _) h.1, fun r hr => h.2 r (List.mem_filter.1 hr).1⟩
theorem logCut_row {l : List BT} (o : Int) (h : RowB l) : RowB (logCutV l o).1 := by
  unfold logCutV
  by_cases hv : logOk l = true
  · rw [if_pos hv]
    refine ⟨?_, lcut_all o (fun b => RowR b.f5) l [] (fun b hb => by simp at hb) (fun b hb _ => h.2 b hb) (fun b hb _ => ahead_row (h.2 b hb))⟩
    have := lcut_len o l []
    have h1 := h.1
    simp only [List.length_nil] at this
    omega
  · rw [if_neg hv]
    exact ⟨by simp, fun b hb => by simp at hb⟩
theorem drawLC_ends {b : List Int} (hb : CodeOk b) : EndsIn (fun k => (spec_l92Log.f k b 0).bind fun bt272 => ((spec_l6Rd_pick.f k b bt272.2 26).bind fun bt276 => (some (bt272.1, bt276.1)))) (fun r => DrL r.1 ∧ 0 ≤ r.2 ∧ r.2 < 26) := by
  refine EndsIn.bind (drawLog_ends hb 0 (by omega) (by omega)) fun r hr => ?_
  refine EndsIn.bind (pick_ends hb r.2 26 (by omega) (by omega) (by omega)) fun s hs => ?_
  refine EndsIn.now _ ⟨hr.1, ?_⟩
  have := hs
  simp only at this ⊢
  omega
end Go.Proofs.YtbbboachakkgiaaDoor.Pu

namespace Go.Proofs.YtbbboachakkgiaaDoor.Pu
open Go.RowKit Go.Proofs.YtbbboachakkgiaaDoorW.PrintWords Go.Proofs.YtbbboachakkgiaaDoorW.PrintLast Go.Proofs.YtbbboachakkgiaaDoorW.PrintMore Go.Proofs.YtbbboachakkgiaaDoor.G
set_option linter.unusedVariables false
set_option linter.unusedSimpArgs false
theorem inc_filter (p : RT → Bool) : ∀ (l : List RT), Inc l → Inc (l.filter p)
  | [], _ => trivial
  | x :: l, h => by
    rw [List.filter_cons]
    split
    · exact ⟨fun y hy => h.1 y (List.mem_filter.1 hy).1, inc_filter p l h.2⟩
    · exact inc_filter p l h.2
theorem inc_step : ∀ (l : List RT), Inc l → ∀ (j : Nat) (hj : j + 1 < l.length), l[j].f0 < l[j + 1].f0
  | [], _, j, hj => by simp at hj
  | x :: l, h, 0, hj => h.1 _ (List.getElem_mem (l := l) (n := 0) (by simpa using hj))
  | x :: l, h, j + 1, hj => inc_step l h.2 j (by simpa using hj)
theorem recsInc_of (l : List RT) (h : ∀ r ∈ l, recOk r = true) (hi : Inc l) : recsInc l = true := incs_of fun j hj => by
  unfold recStep
  rw [rdR_nat l j hj, h _ (List.getElem_mem hj), Bool.true_and]
  rcases j with _ | j
  · simp
  · rw [show ((j + 1 : Nat) : Int) - 1 = (j : Int) by omega, rdR_nat l j (by omega), decide_eq_true (inc_step l hi j hj), Bool.or_true]
def freeB (p : Bool) (l : List RT) : BT := ⟨p, false, 255, 0, 0, l⟩
theorem free_ok {p : Bool} {l : List RT} (hr : ∀ r ∈ l, recOk r = true) (hi : Inc l) (h1 : 1 ≤ l.length) (h6 : l.length ≤ 6) : batOk (freeB p l) = true := by
  unfold batOk headOk lenOk freeB
  simp only [recsInc_of l hr hi, if_true, decide_true, Bool.not_false, Bool.true_or, Bool.and_true, Bool.true_and, Bool.and_eq_true, decide_eq_true_eq]
  omega
theorem bat_recs {b : BT} (h : batOk b = true) : ∀ r ∈ b.f5, recOk r = true := fun r hr => by
  obtain ⟨i, hi, rfl⟩ := List.getElem_of_mem hr
  exact batOk_rec h i hi
theorem good_parts {b : BT} {o : Int} (h : cutGood b o = true) : batOk b = true ∧ b.f2 = 255 ∧ aheadL b.f5 o ≠ [] ∧ behindL b.f5 o ≠ [] := by
  unfold cutGood at h
  simp only [Bool.and_eq_true, Bool.not_eq_true', decide_eq_true_eq] at h
  exact ⟨h.1.1, h.1.2, fun e => by rw [e] at h; simp at h, fun e => by rw [e] at h; simp at h⟩
theorem part_ok {b : BT} {o : Int} (p : RT → Bool) (h : cutGood b o = true) (hn : b.f5.filter p ≠ []) : batOk (freeB b.f0 (b.f5.filter p)) = true := by
  have hb := (good_parts h).1
  refine free_ok (fun r hr => bat_recs hb r (List.mem_filter.1 hr).1) (inc_filter p _ (inc_bat hb)) (List.length_pos_iff.2 hn) ?_
  have := (batOk_len hb).2
  have := List.length_filter_le p b.f5
  omega
theorem ahead_ok {b : BT} {o : Int} (h : cutGood b o = true) : batOk (freeB b.f0 (aheadL b.f5 o)) = true := part_ok _ h (good_parts h).2.2.1
theorem ahead_lt {b : BT} {o : Int} (h : cutGood b o = true) : lastOf (freeB b.f0 (aheadL b.f5 o)) < o := by
  have hn := (batOk_len (ahead_ok h)).1
  rw [lastOf_eq (by omega)]
  have := (List.mem_filter.1 (List.getElem_mem (l := aheadL b.f5 o) (n := (aheadL b.f5 o).length - 1) (by simp only [freeB] at hn; omega))).2
  simpa [freeB] using this
end Go.Proofs.YtbbboachakkgiaaDoor.Pu

namespace Go.Proofs.YtbbboachakkgiaaDoor.Pu
open Go.RowKit Go.Proofs.YtbbboachakkgiaaDoorW.PrintWords Go.Proofs.YtbbboachakkgiaaDoorW.PrintLast Go.Proofs.YtbbboachakkgiaaDoorW.PrintMore Go.Proofs.YtbbboachakkgiaaDoor.G
set_option linter.unusedVariables false
set_option linter.unusedSimpArgs false
def IncB : List S47 → Prop
  | [] => True
  | b :: l => (∀ c ∈ l, lastOf b < firstOf c) ∧ IncB l
theorem incB_of : ∀ (l : List S47), (∀ b ∈ l, batOk b = true) → (∀ i (h : i + 1 < l.length), lastOf l[i] < firstOf l[i + 1]) → IncB l
  | [], _, _ => trivial
  | [b], _, _ => ⟨fun c hc => by simp at hc, trivial⟩
  | b :: c :: l, hv, h => by
    have h1 := incB_of (c :: l) (fun x hx => hv x (List.mem_cons_of_mem _ hx)) fun i hi => h (i + 1) (by simp only [List.length_cons] at hi ⊢; omega)
    have h0 : lastOf b < firstOf c := h 0 (by simp)
    refine ⟨fun y hy => ?_, h1⟩
    rcases List.mem_cons.1 hy with rfl | hy
    · exact h0
    · have := h1.1 y hy
      have := first_le_last (hv c (by simp))
      omega
theorem incB_log {l : List S47} (h : logOk l = true) : IncB l :=
  incB_of l (fun b hb => by obtain ⟨i, hi, rfl⟩ := List.getElem_of_mem hb; exact logOk_bat h i hi) fun i hi => bat_inc h i hi
theorem incB_step : ∀ (l : List S47), IncB l → ∀ (j : Nat) (hj : j + 1 < l.length), lastOf l[j] < firstOf l[j + 1]
  | [], _, j, hj => by simp at hj
  | x :: l, h, 0, hj => h.1 _ (List.getElem_mem (l := l) (n := 0) (by simpa using hj))
  | x :: l, h, j + 1, hj => incB_step l h.2 j (by simpa using hj)
theorem logOk_of {l : List S47} (hv : ∀ b ∈ l, batOk b = true) (hi : IncB l) (hl : l.length ≤ 8) : logOk l = true := by
  unfold logOk
  rw [logs_of fun j hj => ?_, Bool.true_and, decide_eq_true (by omega)]
  unfold batStep
  rw [rdB_nat l j hj, hv _ (List.getElem_mem hj), Bool.true_and]
  rcases j with _ | j
  · simp
  · rw [show ((j + 1 : Nat) : Int) - 1 = (j : Int) by omega, rdB_nat l j (by omega), decide_eq_true (incB_step l hi j hj), Bool.or_true]
theorem logOk_mem {l : List S47} (h : logOk l = true) : ∀ b ∈ l, batOk b = true := fun b hb => by
  obtain ⟨i, hi, rfl⟩ := List.getElem_of_mem hb
  exact logOk_bat h i hi
end Go.Proofs.YtbbboachakkgiaaDoor.Pu

namespace Go.Proofs.YtbbboachakkgiaaDoor.Pu
open Go.RowKit Go.Proofs.YtbbboachakkgiaaDoorW.PrintWords Go.Proofs.YtbbboachakkgiaaDoorW.PrintLast Go.Proofs.YtbbboachakkgiaaDoorW.PrintMore Go.Proofs.YtbbboachakkgiaaDoor.G
set_option linter.unusedVariables false
set_option linter.unusedSimpArgs false
def kept (o : Int) : List BT → List BT
  | [] => []
  | b :: l => if lastOf b < o then b :: kept o l else if firstOf b < o then aheadB b o :: kept o l else kept o l
theorem lcut_kept (o : Int) : ∀ (l acc : List BT), (lcut o l acc).2 = true → (lcut o l acc).1 = acc ++ kept o l ∧ ∀ b ∈ l, ¬ lastOf b < o → firstOf b < o → cutGood b o = true
  | [], acc, _ => ⟨by simp [lcut, kept], fun b hb => by simp at hb⟩
  | x :: l, acc, h => by
    rw [lcut] at h ⊢
    rw [kept]
    by_cases c1 : lastOf x < o
    · rw [if_pos c1] at h ⊢
      obtain ⟨h1, h2⟩ := lcut_kept o l (acc ++ [x]) h
      rw [if_pos c1, h1]
      refine ⟨by simp, fun b hb n1 n2 => ?_⟩
      rcases List.mem_cons.1 hb with rfl | hb
      · exact absurd c1 n1
      · exact h2 b hb n1 n2
    · rw [if_neg c1] at h ⊢
      by_cases c2 : firstOf x < o
      · rw [if_pos c2] at h ⊢
        by_cases c3 : cutGood x o = true
        · rw [if_pos c3] at h ⊢
          obtain ⟨h1, h2⟩ := lcut_kept o l (acc ++ [aheadB x o]) h
          rw [if_neg c1, if_pos c2, h1]
          refine ⟨by simp, fun b hb n1 n2 => ?_⟩
          rcases List.mem_cons.1 hb with rfl | hb
          · exact c3
          · exact h2 b hb n1 n2
        · rw [if_neg c3] at h
          simp at h
      · rw [if_neg c2] at h ⊢
        obtain ⟨h1, h2⟩ := lcut_kept o l acc h
        rw [if_neg c1, if_neg c2, h1]
        refine ⟨rfl, fun b hb n1 n2 => ?_⟩
        rcases List.mem_cons.1 hb with rfl | hb
        · exact absurd n2 c2
        · exact h2 b hb n1 n2
/-- Where each one that is left comes from. -/
theorem kept_mem (o : Int) : ∀ (l : List BT), (∀ b ∈ l, ¬ lastOf b < o → firstOf b < o → cutGood b o = true) → ∀ y ∈ kept o l, ∃ b ∈ l, (y = b ∧ lastOf b < o) ∨ (y = aheadB b o ∧ cutGood b o = true ∧ ¬ lastOf b < o)
  | [], _, y, hy => by simp [kept] at hy
  | x :: l, h, y, hy => by
    have ih := kept_mem o l fun b hb => h b (List.mem_cons_of_mem _ hb)
    have up : (∃ b ∈ l, (y = b ∧ lastOf b < o) ∨ (y = aheadB b o ∧ cutGood b o = true ∧ ¬ lastOf b < o)) → ∃ b ∈ x :: l, (y = b ∧ lastOf b < o) ∨ (y = aheadB b o ∧ cutGood b o = true ∧ ¬ lastOf b < o) := fun ⟨b, hb, k⟩ => ⟨b, List.mem_cons_of_mem _ hb, k⟩
    rw [kept] at hy
    by_cases c1 : lastOf x < o
    · rw [if_pos c1] at hy
      rcases List.mem_cons.1 hy with rfl | hy
      · exact ⟨_, by simp, .inl ⟨rfl, c1⟩⟩
      · exact up (ih y hy)
    · rw [if_neg c1] at hy
      by_cases c2 : firstOf x < o
      · rw [if_pos c2] at hy
        rcases List.mem_cons.1 hy with rfl | hy
        · exact ⟨x, by simp, .inr ⟨rfl, h x (by simp) c1 c2, c1⟩⟩
        · exact up (ih y hy)
      · rw [if_neg c2] at hy
        exact up (ih y hy)
theorem first_ahead {b : BT} {o : Int} (h : cutGood b o = true) : firstOf (aheadB b o) = firstOf b := by
  have hn := (batOk_len (ahead_ok h)).1
  have hb := batOk_len (good_parts h).1
  have hI := inc_bat (good_parts h).1
  have hne := (good_parts h).2.2.1
  rw [firstOf_eq (show 0 < (aheadB b o).f5.length from hn), firstOf_eq (by omega)]
  obtain ⟨b0, b1, b2, b3, b4, l⟩ := b
  simp only [aheadB] at hn hb hI hne ⊢
  rcases l with _ | ⟨x, l⟩
  · simp at hb
  · by_cases hx : x.f0 < o
    · simp [aheadL_cons, hx]
    · exfalso
      apply hne
      rw [aheadL_cons, if_neg hx]
      exact List.filter_eq_nil_iff.2 fun y hy => by have := hI.1 y hy; simp; omega
theorem kept_first (o : Int) {l : List BT} (h : ∀ b ∈ l, ¬ lastOf b < o → firstOf b < o → cutGood b o = true) {m : Int} (hm : ∀ b ∈ l, m < firstOf b) : ∀ y ∈ kept o l, m < firstOf y := fun y hy => by
  obtain ⟨b, hb, ⟨rfl, _⟩ | ⟨rfl, hg, _⟩⟩ := kept_mem o l h y hy
  · exact hm _ hb
  · rw [first_ahead hg]
    exact hm _ hb
theorem kept_inc (o : Int) : ∀ (l : List BT), (∀ b ∈ l, ¬ lastOf b < o → firstOf b < o → cutGood b o = true) → IncB l → IncB (kept o l)
  | [], _, _ => trivial
  | x :: l, h, hi => by
    have h' : ∀ b ∈ l, ¬ lastOf b < o → firstOf b < o → cutGood b o = true := fun b hb => h b (List.mem_cons_of_mem _ hb)
    have ih := kept_inc o l h' hi.2
    rw [kept]
    by_cases c1 : lastOf x < o
    · rw [if_pos c1]
      exact ⟨kept_first o h' hi.1, ih⟩
    · rw [if_neg c1]
      by_cases c2 : firstOf x < o
      · rw [if_pos c2]
        have hg := h x (by simp) c1 c2
        have := ahead_lt hg
        refine ⟨kept_first o h' fun b hb => ?_, ih⟩
        have h1 := hi.1 b hb
        have h2 : lastOf (aheadB x o) < o := ahead_lt hg
        omega
      · rw [if_neg c2]
        exact ih
theorem kept_len (o : Int) : ∀ (l : List BT), (kept o l).length ≤ l.length
  | [] => by simp [kept]
  | x :: l => by
    have := kept_len o l
    rw [kept]
    split
    · simp only [List.length_cons]; omega
    · split <;> simp only [List.length_cons] <;> omega
theorem kept_lt (o : Int) {l : List BT} (h : ∀ b ∈ l, ¬ lastOf b < o → firstOf b < o → cutGood b o = true) : ∀ y ∈ kept o l, lastOf y < o := fun y hy => by
  obtain ⟨b, hb, ⟨rfl, k⟩ | ⟨rfl, hg, _⟩⟩ := kept_mem o l h y hy
  · exact k
  · exact ahead_lt hg
theorem kept_ok (o : Int) {l : List BT} (hl : logOk l = true) (h : ∀ b ∈ l, ¬ lastOf b < o → firstOf b < o → cutGood b o = true) : logOk (kept o l) = true := by
  refine logOk_of (fun y hy => ?_) (kept_inc o l h (incB_log hl)) (Nat.le_trans (kept_len o l) (logOk_len hl))
  obtain ⟨b, hb, ⟨rfl, _⟩ | ⟨rfl, hg, _⟩⟩ := kept_mem o l h y hy
  · exact logOk_mem hl _ hb
  · exact ahead_ok hg
/-- Where all is ahead of the offset nothing is cut. -/
theorem lcut_all_ahead (o : Int) : ∀ (l acc : List BT), (∀ b ∈ l, lastOf b < o) → lcut o l acc = (acc ++ l, true)
  | [], acc, _ => by simp [lcut]
  | x :: l, acc, h => by
    rw [lcut, if_pos (h x (by simp)), lcut_all_ahead o l _ fun b hb => h b (List.mem_cons_of_mem _ hb)]
    simp
theorem logCut_good {l : List BT} {o : Int} (h : (logCutV l o).2 = true) : logOk l = true ∧ (logCutV l o).1 = kept o l ∧ ∀ b ∈ l, ¬ lastOf b < o → firstOf b < o → cutGood b o = true := by
  unfold logCutV at h ⊢
  by_cases hv : logOk l = true
  · rw [if_pos hv] at h ⊢
    obtain ⟨h1, h2⟩ := lcut_kept o l [] h
    exact ⟨hv, by simpa using h1, h2⟩
  · rw [if_neg hv] at h
    simp at h
theorem logCut_ahead {l : List BT} {o : Int} (hv : logOk l = true) (h : ∀ b ∈ l, lastOf b < o) : logCutV l o = (l, true) := by
  unfold logCutV
  rw [if_pos hv, lcut_all_ahead o l [] h]
  rfl
end Go.Proofs.YtbbboachakkgiaaDoor.Pu

namespace Go.Proofs.YtbbboachakkgiaaDoor.Pu
open Go.RowKit Go.Proofs.YtbbboachakkgiaaDoorW.PrintWords Go.Proofs.YtbbboachakkgiaaDoorW.PrintLast Go.Proofs.YtbbboachakkgiaaDoorW.PrintMore Go.Proofs.YtbbboachakkgiaaDoor.G
set_option linter.unusedVariables false
set_option linter.unusedSimpArgs false
theorem last_range {b : BT} (hb : batOk b = true) : 0 ≤ lastOf b ∧ lastOf b ≤ 99999 := by
  have hnb := batOk_len hb
  have := batOk_rec hb (b.f5.length - 1) (by omega)
  rw [lastOf_eq (by omega)]
  unfold recOk rng at this
  simp only [Bool.and_eq_true, decide_eq_true_eq] at this
  omega
/-- The end of valid batches: every last offset lies ahead of it. -/
theorem readEnd_ev (l : List BT) (hv : logOk l = true) : EndsIn (fun k => impl_ReadEnd.f k l) (fun n => ∀ b ∈ l, lastOf b < n) := by
  unfold impl_ReadEnd.f
  simp only [impl_LogValid.f, bindS, hv, if_true]
  have hn := logOk_len hv
  by_cases hz : l.length = 0
  · simp only [if_pos (show (l.length : Int) = 0 by omega)]
    exact EndsIn.now _ fun b hb => by rw [List.length_eq_zero_iff.1 hz] at hb; simp at hb
  · have hlt : l.length - 1 < l.length := by omega
    have hb := logOk_bat hv _ hlt
    have hnb := batOk_len hb
    have hr := last_range hb
    simp only [if_neg (show ¬ (l.length : Int) = 0 by omega), w64 (a := (l.length : Int) - 1) (by omega) (by omega), if_pos (show (0 : Int) ≤ (l.length : Int) - 1 by omega), if_pos (show (l.length : Int) - 1 < (l.length : Int) by omega)]
    rw [show (l.length : Int) - 1 = ((l.length - 1 : Nat) : Int) by omega, rdB_nat l _ hlt, last_ev _ hnb]
    simp only [bindS, w64 (a := lastOf l[l.length - 1] + 1) (by omega) (by omega)]
    refine EndsIn.now _ fun b hb' => ?_
    obtain ⟨i, hi, rfl⟩ := List.getElem_of_mem hb'
    have h1 := bat_mono hv i (l.length - 1 - i) (by omega)
    simp only [show i + (l.length - 1 - i) = l.length - 1 by omega] at h1
    rcases Nat.lt_or_ge i (l.length - 1) with hlt' | hge
    · have h2 := bat_inc hv i (by omega)
      have h3 := bat_mono hv (i + 1) (l.length - 1 - (i + 1)) (by omega)
      simp only [show i + 1 + (l.length - 1 - (i + 1)) = l.length - 1 by omega] at h3
      have h4 := first_le_last hb
      omega
    · have : i = l.length - 1 := by omega
      subst this
      omega
end Go.Proofs.YtbbboachakkgiaaDoor.Pu

namespace Go.Proofs.YtbbboachakkgiaaDoor.Pure
open Go.RowKit Go.Proofs.YtbbboachakkgiaaDoor.G Go.Proofs.YtbbboachakkgiaaDoorW.PrintWords Go.Proofs.YtbbboachakkgiaaDoorW.PrintLast Go.Proofs.YtbbboachakkgiaaDoorW.PrintMore Go.Proofs.YtbbboachakkgiaaDoor.Pu
set_option linter.unusedSimpArgs false
set_option linter.unusedVariables false
theorem FnLogCutTwice : OFnLogCutTwice.Pure := by
  intro l0 hl0 ho0
  refine EndsIn.rounds ?_
  unfold laws_FnLogCutTwice.f
  have hr := fun x hx => u8_range (ho0 x hx)
  by_cases h : (l0.length : Int) > 1048576
  · simp only [if_pos h]
    exact EndsIn.now _ rfl
  · simp only [if_neg h]
    obtain ⟨c, hc, hok⟩ := open_some l0 hr
    unfold spec_DrawLogCut.f
    simp only [hc, bindS]
    refine EndsIn.bind (P := fun r => DrL r.1 ∧ 0 ≤ r.2 ∧ r.2 < 26) (drawLC_ends hok) fun q hq => ?_
    obtain ⟨l, o⟩ := q
    obtain ⟨dl, h0, h1⟩ := hq
    simp only at h0 h1
    have hB := logCut_row o (DrL.rowB dl)
    refine EndsIn.bind (P := fun r => r = logCutV l o) ⟨_, LogCut_ev l o, rfl⟩ fun r hr1 => ?_
    subst hr1
    refine EndsIn.bind (P := fun r => r = logCutV l o) ⟨_, sLogCut_ev l o, rfl⟩ fun r hr2 => ?_
    subst hr2
    simp only [bne_self_eq_false, Bool.false_eq_true, if_false]
    refine EndsIn.bind (P := fun r => r = true) ⟨_, selfLog _ hB, rfl⟩ fun r hr3 => ?_
    subst hr3
    simp only [if_true]
    refine EndsIn.step (fun k => by rw [laws_FnLogCutTwice.j0]) ?_
    cases hk : (logCutV l o).2
    · simp only [Bool.not_false, if_true, beq_self_eq_true]
      refine EndsIn.bind (P := fun r => r = true) ⟨_, selfLog _ hB, rfl⟩ fun r hr4 => ?_
      subst hr4
      exact EndsIn.now _ rfl
    · simp only [Bool.not_true, Bool.false_eq_true, if_false]
      obtain ⟨hv, ek, hg⟩ := logCut_good hk
      have hko := kept_ok o hv hg
      rw [ek] at hB ⊢
      refine EndsIn.bind (P := fun r => r = (kept o l, true)) ⟨_, LogCut_ev (kept o l) o, logCut_ahead hko (kept_lt o hg)⟩ fun r hr5 => ?_
      subst hr5
      refine EndsIn.bind (readEnd_ev l hv) fun n hn => ?_
      refine EndsIn.bind (P := fun r => r = (l, true)) ⟨_, LogCut_ev l n, logCut_ahead hv hn⟩ fun r hr6 => ?_
      subst hr6
      simp only [if_true]
      refine EndsIn.bind (P := fun r => r = true) ⟨_, selfLog _ hB, rfl⟩ fun r hr7 => ?_
      subst hr7
      simp only [if_true]
      refine EndsIn.bind (P := fun r => r = true) ⟨_, selfLog _ (DrL.rowB dl), rfl⟩ fun r hr8 => ?_
      subst hr8
      exact EndsIn.now _ rfl
end Go.Proofs.YtbbboachakkgiaaDoor.Pure

namespace Go.Proofs.YtbbboachakkgiaaDoor.fnLogCutTwice
open Go.ChangeShapes Go.WideShapes Go.ChangeAt Go.RowKit Go.Proofs.YtbbboachakkgiaaDoor.OFnLogCutTwice Go.Proofs.YtbbboachakkgiaaDoor.G Go.Joins
open Go.ChangeMaps (open_string shut_string)
set_option linter.unusedVariables false
theorem own : ownKnob Tryd.prog.godebug = none := by kernel_rfl
theorem laidOut : laidOutB Tryd.prog = true := by kernel_rfl
theorem star : "*" ++ "errors.errorString" = "*errors.errorString" := by decide
theorem cellsE : Tryd.prog.cellsOf 174 = 1 := by kernel_rfl
theorem cellsS : Tryd.prog.cellsOf 9 = 1 := by kernel_rfl
theorem g0 : Tryd.prog.globalNamed "loop.example/recordbatches/impl.errNoCut" = some 1 := by kernel_rfl
theorem gT0 : (Tryd.prog.globals[1]?).map (·.type) = some 71 := by kernel_rfl
abbrev text0 : ByteArray := { data := #[110, 111, 32, 99, 117, 116] }
theorem rowE (u : TypeId) (h : Tryd.prog.typeName? 3 u = some "*errors.errorString") : u = 151 :=
  typeName_ptr_named (nm := "errors.errorString") (by rw [star]; kernel_rfl) (by kernel_rfl) (by decide) u (by rw [star]; exact h)
noncomputable def low : Nat := (World.holding Tryd.prog default ⟨#[], #[], []⟩).heap.size
noncomputable def laidWorld (os : Os) : World :=
  let w0 := World.holding Tryd.prog os ⟨#[.cells #[.string text0] 174], #[], []⟩
  { w0 with heap := (w0.heap.modify 1 fun | .cells _ t frozen => .cells #[.iface 151 (.pointer (some ⟨low + 0, 0, none⟩))] t frozen | o => o) }
theorem laid_met (os : Os) (args : Array Value) : laidMetH Tryd.prog Rows.fnLogCutTwiceRow.laid ((laidWorld os).forCall (fun _ _ => 0) ⟨#[], args, []⟩).memory :=
  laidMetH_of_parts (laidMet_of_run (ps := [.cell 1 0, .cell (low + 0) 0]) 8 (by kernel_rfl) (by kernel_rfl) (by kernel_rfl)) (by kernel_rfl)
set_option maxRecDepth 100000 in
theorem lifted (os : Os) (started : os.Started) (H : Type) (enc : TypeId × Value → H) :
    ReturnsInHanded {} Tryd.checked os 5 .any (fun w args => (Rows.fnLogCutTwiceSpec.pre enc Tryd.prog Tryd.f5 Rows.fnLogCutTwiceRow.domain false w args ∧ laidMetH Tryd.prog Rows.fnLogCutTwiceRow.laid w) ∧ sizedMet enc Tryd.prog Tryd.f5 (OpenSpec.ofChange Rows.fnLogCutTwiceSpec) false w args) (Rows.fnLogCutTwiceSpec.post enc Tryd.prog Tryd.f5 false true false false) := by
  refine returnsInHanded_of_change_and (C := Tryd.checked) (X := fun w _ => laidMetH Tryd.prog Rows.fnLogCutTwiceRow.laid w) (fun _ _ _ hh h => h.of_heap hh) own started (by kernel_rfl) Tryd.func5
    (ChangeSpec.witness_at (enc := enc) (C := Tryd.checked) (os := os) (X := fun w _ => laidMetH Tryd.prog Rows.fnLogCutTwiceRow.laid w) false (laidWorld os) #[.slice none 0 0] 8 rfl (by kernel_rfl) (by kernel_rfl) (by kernel_rfl) (by kernel_rfl) (by kernel_rfl) (laid_met os _)) ?_
  intro W base args ds gs before hval0 hW hcnd hsz0 hLL _
  have hsz : (DataW.weightsEach Tryd.prog (Tryd.f5.params.toList ++ Rows.fnLogCutTwiceSpec.plain.varTypes Tryd.prog) (ds ++ gs)).all (· ≤ reachBytes) = true := hsz0
  have hval : ∀ (j : Nat) t v, Tryd.f5.params[j]? = some t → args[j]? = some v → Value.okWide Tryd.prog W .any base t v := hval0
  have hW' := hW
  obtain ⟨p, q, hA0, hV, rfl, hfz, hnd⟩ := hW
  have hA : DataW.TrodAll enc Tryd.prog W 0 (fun _ => true) true Tryd.f5.params.toList args.toList ds p := hA0
  rw [Tryd.params5] at hA hval hsz
  obtain ⟨v0, vs0, d0, ds0, p0, q0, hargs, rfl, rfl, h0, r0⟩ := trodAll_cons hA
  obtain ⟨rfl, rfl, rfl⟩ := trodAll_nil r0
  obtain rfl : args = #[v0] := by cases args; simp_all
  have hL : laidMet Tryd.prog Rows.fnLogCutTwiceRow.laid W := hLL
  obtain ⟨b0, s0, hv0, hc0, hs0, hz0⟩ := laid_sentinel hL g0 gT0 Tryd.underlying71 rowE Tryd.underlying151 Tryd.underlying174 rfl rfl Tryd.underlying9 cellsE cellsS
  obtain ⟨rfl, rfl⟩ := hV.unique (vars_read1 enc g0 gT0 Tryd.underlying71 hv0 trivial _)
  have hg0 : W.cell? ⟨1, 0, none⟩ = some (.iface 151 (.pointer (some b0))) := by simpa using World.var?_cell g0 hv0 0
  obtain ⟨a0, len0, cap0, rfl⟩ := okWide_slice Tryd.underlying22 (hval 0 22 v0 rfl rfl)
  have k0 := h0
  have lt0 : ∀ x ∈ p0, x.block < W.heap.size := by obtain ⟨m, hm⟩ := k0; exact DataW.trod_lt m _ _ _ hm
  obtain ⟨fuel0, hf0⟩ := h0
  obtain ⟨A0, c0, l0, hcs0, hlc0, hm0, hC0, ho0⟩ := Rd.opens_row Tryd.underlying22 (Rd.opens_int Tryd.underlying5 (by kernel_rfl)) hf0
  simp [Value.cells] at hcs0
  obtain ⟨rfl, rfl, rfl⟩ := hcs0
  clear hA0 hval0 hsz0 hsz
  obtain ⟨k, h⟩ := Pure.FnLogCutTwice l0 (Nat.le_trans hlc0 hm0) ho0
  letI : ErrA := ⟨fun n => b0⟩
  have hE : ErrOk [1] W := fun g hg => by
    have hg' : g = 1 := by simpa using hg
    rcases hg' with rfl
    · exact hg0
  refine (laws_FnLogCutTwice.calls k _ _ l0 true W hE hC0 hlc0 h).mono fun e W' ⟨he, bel0⟩ => ?_
  subst he
  have bel : Below W.heap.size W W' := bel0
  have hw0 : W'.var? Tryd.prog "loop.example/recordbatches/impl.errNoCut" = some #[.iface 151 (.pointer (some b0))] := var?_below bel g0 (World.block_lt_of_cell? W _ hg0) hv0
  exact ⟨_, rfl, _, _, _, [], _, _, hW', trodAll_mk1 (shut_bool Tryd.underlying4 _), (trodAll_cons_mk (Below.trod laidOut (by kernel_rfl) (of_decide_eq_true (by kernel_rfl)) k0 bel lt0) trodAll_mk0), vars_read1 enc g0 gT0 Tryd.underlying71 hw0 trivial _, bel.frame _, fun h => by cases h⟩
theorem over : Rows.fnLogCutTwiceRow.holds Tryd.pinned (OpenSpec.ofChange Rows.fnLogCutTwiceSpec) :=
  OpenClaim.holds_of_wide 5 Tryd.f5 rfl rfl rfl rfl rfl rfl rfl ⟨rfl, rfl, rfl, rfl, rfl⟩ rfl rfl rfl rfl rfl (by kernel_rfl) Tryd.func5 (by kernel_rfl)
    (of_decide_eq_true (by kernel_rfl)) (by unfold Func.isWrapper; first | (rw [if_pos (by decide +kernel)]; kernel_rfl) | (rw [if_neg (by decide +kernel)]; exact ⟨rfl, rfl⟩))
    (fun os started H enc _ => lifted os started H enc)
theorem proved : Rows.FnLogCutTwiceSaid := over
#print axioms proved
end Go.Proofs.YtbbboachakkgiaaDoor.fnLogCutTwice
namespace Go.Proofs.YtbbboachakkgiaaDoor
/-- The row, under a short name, for the claim. -/
theorem fnLogCutTwice_holds : Rows.FnLogCutTwiceSaid := fnLogCutTwice.proved
theorem fnLogCutTwice_card : Rows.FnLogCutTwiceCardSaid :=
  Claim7.holds_tied_plain_at .later [] [.sentinel] true (true, "2e05aa95766e6917fe95301784a47f45e0e7b4b4973cc25155ec255d9f160fba") true
    fnLogCutTwice_holds (fun _ h => by cases h) (by kernel_rfl) (fun _ h => by cases h) fnLogCutTwice_row_tie rfl ⟨rfl, rfl⟩ (by kernel_rfl) rfl
    (fun f fn hf hfn => by
      obtain rfl : f = 5 := Option.some.inj ((show Tryd.prog.funcNamed "loop.example/recordbatches/laws.FnLogCutTwice" = some 5 by kernel_rfl).symm.trans hf) |>.symm
      obtain rfl : fn = Tryd.f5 := (Option.some.inj (Tryd.func5.symm.trans hfn)).symm
      exact ⟨by kernel_rfl, fun j t ht => by
        rw [Tryd.params5] at ht
        have h3 : t = 22 := by
          rcases j with _ | j
          · have h_ := ht.symm; simp at h_; simp [h_]
          · simp at ht
        rcases h3 with rfl
        · exact (show Tryd.prog.wantsStandIn 22 = false by kernel_rfl)⟩)
    (by kernel_rfl)
#print axioms fnLogCutTwice_card
end Go.Proofs.YtbbboachakkgiaaDoor

