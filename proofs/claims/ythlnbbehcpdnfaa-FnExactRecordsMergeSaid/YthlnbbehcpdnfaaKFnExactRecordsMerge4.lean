/- A text of seat Ythlnbbehcpdnfaa: what the law FnExactRecordsMerge needs of this repo's texts (by pack.py). Not trusted: Lean checks it. -/
import Derived.Test.YthlnbbehcpdnfaaKFnExactRecordsMerge3
namespace Go.Proofs.Ythlnbbehcpdnfaa.Pu
open Go.RowKit Go.Proofs.YthlnbbehcpdnfaaW.PrintWords Go.Proofs.YthlnbbehcpdnfaaW.PrintLast Go.Proofs.Ythlnbbehcpdnfaa.G
set_option linter.unusedVariables false
set_option linter.unusedSimpArgs false
/-- A loop that asks each element, and stops at the first that says no. -/
theorem ev_all {α : Type} (l : List α) (hl : l.length ≤ 9223372036854775807) (L : Nat → Int → Option Bool) (F : Nat → Nat → Option Bool) (p : α → Bool) (last : Bool)
    (hend : ∀ k, L (k + 1) (l.length : Int) = some last)
    (hstep : ∀ k (i : Nat), i < l.length → L (k + 1) (i : Int) = (F k i).bind fun t => if t = true then L k (wrap64 ((i : Int) + 1)) else some false)
    (hF : ∀ i (h : i < l.length), Ev (fun k => F k i) (p l[i])) : ∀ d i, l.length - i = d → i ≤ l.length → Ev (fun k => L k (i : Int)) ((l.drop i).all p && last) := by
  intro d
  induction d with
  | zero =>
    intro i hi hle
    obtain rfl : i = l.length := by omega
    refine Ev.step (fun k => hend k) ?_
    rw [List.drop_length]
    exact Ev.now _
  | succ d ih =>
    intro i hi hle
    have hlt : i < l.length := by omega
    refine Ev.step (fun k => hstep k i hlt) ?_
    refine Ev.bind (hF i hlt) ?_
    rw [List.drop_eq_getElem_cons hlt, List.all_cons]
    cases hp : p l[i]
    · exact Ev.now _
    · simp only [if_true, Bool.true_and, w64 (a := (i : Int) + 1) (by omega) (by omega)]
      exact ih (i + 1) (by omega) (by omega)
theorem rdi_nat (l : List Int) (i : Nat) (h : i < l.length) : rd l (i : Int) = l[i] := by
  unfold rd
  simp [h]
theorem within_ev (a b c : Int) : impl_within.f a b c = some (decide (b ≤ a) && decide (a ≤ c)) := by
  unfold impl_within.f
  by_cases h : a ≥ b
  · rw [if_pos h, show decide (b ≤ a) = true from decide_eq_true h]; rfl
  · rw [if_neg h, show decide (b ≤ a) = false from decide_eq_false h]; rfl
theorem in_ev (a b c : Int) : spec_l6In.f a b c = some (decide (b ≤ a) && decide (a ≤ c)) := by
  unfold spec_l6In.f
  by_cases h : a ≥ b
  · rw [if_pos h, show decide (b ≤ a) = true from decide_eq_true h]; rfl
  · rw [if_neg h, show decide (b ≤ a) = false from decide_eq_false h]; rfl
def isB (x : Int) : Bool := decide (0 ≤ x) && decide (x ≤ 255)
theorem isByte_ev (x : Int) : impl_isByte.f x = some (isB x) := by
  unfold impl_isByte.f isB
  by_cases h : x ≥ 0
  · rw [if_pos h, show decide (0 ≤ x) = true from decide_eq_true h]; rfl
  · rw [if_neg h, show decide (0 ≤ x) = false from decide_eq_false h]; rfl
theorem allBytes_ev (l : List Int) (hl : l.length ≤ 9223372036854775807) : Ev (fun k => impl_allBytes.f k l) (l.all isB) := by
  unfold impl_allBytes.f
  have := ev_all l hl (fun k i => impl_allBytes.l0 k l (l.length : Int) i) (fun k i => some (isB (rd l (i : Int)))) isB true
    (fun k => by simp only [impl_allBytes.l0]; rw [if_neg (by omega)])
    (fun k i h => by simp only [impl_allBytes.l0]; rw [if_pos (by omega), if_pos (by omega), if_pos (by omega), isByte_ev])
    (fun i h => by rw [rdi_nat l i h]; exact Ev.now _) l.length 0 (by omega) (by omega)
  simpa using this
theorem l1Ok_ev (l : List Int) (hl : l.length ≤ 9223372036854775807) : Ev (fun k => spec_l1Ok.f k l) (l.all isB) := by
  unfold spec_l1Ok.f
  have := ev_all l hl (fun k i => spec_l1Ok.l0 k l i) (fun k i => some (isB (rd l (i : Int)))) isB true
    (fun k => by simp only [spec_l1Ok.l0]; rw [if_neg (by omega)])
    (fun k i h => by simp only [spec_l1Ok.l0]; rw [if_pos (by omega), if_pos (by omega), in_ev]; rfl)
    (fun i h => by rw [rdi_nat l i h]; exact Ev.now _) l.length 0 (by omega) (by omega)
  simpa using this
def partOk (has : Bool) (l : List Int) : Bool := if has = true then decide (l.length ≤ 12) && l.all isB else decide (l.length = 0)
theorem partValid_ev (has : Bool) (l : List Int) (hl : l.length ≤ 9223372036854775807) : Ev (fun k => impl_partValid.f k has l) (partOk has l) := by
  unfold impl_partValid.f partOk
  cases has
  · simp only [Bool.false_eq_true, if_false]
    rw [show ((l.length : Int) == 0) = decide (l.length = 0) from by rw [Bool.eq_iff_iff]; simp]
    exact Ev.now _
  · simp only [if_true]
    by_cases h : (l.length : Int) ≤ 12
    · simp only [if_pos h]
      rw [show decide (l.length ≤ 12) = true from decide_eq_true (by omega), Bool.true_and]
      exact Ev.bind (allBytes_ev l hl) (Ev.now _)
    · simp only [if_neg h]
      rw [show decide (l.length ≤ 12) = false from decide_eq_false (by omega)]
      exact Ev.now _
theorem l3Part_ev (has : Bool) (l : List Int) (hl : l.length ≤ 9223372036854775807) : Ev (fun k => spec_l3Part.f k has l) (partOk has l) := by
  unfold spec_l3Part.f partOk
  cases has
  · simp only [Bool.false_eq_true, if_false]
    by_cases h : (l.length : Int) = 0
    · simp only [if_pos h]
      obtain rfl : l = [] := List.length_eq_zero_iff.1 (by omega)
      refine Ev.bind (l1Ok_ev [] (by simp)) ?_
      exact Ev.now _
    · simp only [if_neg h]
      rw [show decide (l.length = 0) = false from decide_eq_false (by omega)]
      exact Ev.now _
  · simp only [if_true]
    refine Ev.bind (l1Ok_ev l hl) ?_
    rw [show decide ((l.length : Int) ≤ 12) = decide (l.length ≤ 12) from decide_eq_decide.2 (by omega)]
    cases l.all isB
    · simp only [Bool.false_eq_true, if_false, Bool.and_false]
      exact Ev.now _
    · simp only [if_true, Bool.and_true]
      exact Ev.now _
def rng (x : Int) : Bool := decide (0 ≤ x) && decide (x ≤ 99999)
def recOk (r : S41) : Bool := (rng r.f0 && rng r.f1) && (partOk r.f2 r.f3 && partOk r.f4 r.f5)
/-- Lengths that can be told. -/
def Lens (r : S41) : Prop := r.f3.length ≤ 9223372036854775807 ∧ r.f5.length ≤ 9223372036854775807
theorem RecordValid_ev (r : S41) (hr : Lens r) : Ev (fun k => impl_RecordValid.f k r.f0 r.f1 r.f2 r.f3 r.f4 r.f5) (recOk r) := by
  unfold impl_RecordValid.f recOk impl_baseValid.f
  simp only [within_ev, Option.bind_some]
  change Ev (fun k => ((if rng r.f0 = true then some (rng r.f1) else some false)).bind _) _
  cases rng r.f0
  · simp only [Bool.false_eq_true, if_false, Option.bind_some, Bool.false_and]
    exact Ev.now _
  · cases rng r.f1
    · simp only [if_true, Option.bind_some, Bool.false_eq_true, if_false, Bool.true_and, Bool.false_and]
      exact Ev.now _
    · simp only [if_true, Option.bind_some, Bool.true_and]
      refine Ev.bind (partValid_ev _ _ hr.1) ?_
      cases partOk r.f2 r.f3
      · exact Ev.now _
      · simp only [if_true, Bool.true_and]
        exact Ev.bind (partValid_ev _ _ hr.2) (Ev.now _)
theorem sRecordValid_ev (r : S41) (hr : Lens r) : Ev (fun k => spec_RecordValid.f k r.f0 r.f1 r.f2 r.f3 r.f4 r.f5) (recOk r) := by
  unfold spec_RecordValid.f recOk
  simp only [in_ev, Option.bind_some]
  change Ev (fun k => if rng r.f0 = true then (if rng r.f1 = true then _ else some false) else some false) _
  cases rng r.f0
  · simp only [Bool.false_eq_true, if_false, Bool.false_and]
    exact Ev.now _
  · cases rng r.f1
    · simp only [if_true, Bool.false_eq_true, if_false, Bool.true_and, Bool.false_and]
      exact Ev.now _
    · simp only [if_true, Bool.true_and]
      refine Ev.bind (l3Part_ev _ _ hr.1) ?_
      cases partOk r.f2 r.f3
      · exact Ev.now _
      · simp only [if_true, Bool.true_and]
        exact Ev.bind (l3Part_ev _ _ hr.2) (Ev.now _)
theorem rdR_nat (l : List S41) (i : Nat) (h : i < l.length) : rd_T41 l (i : Int) = l[i] := by
  unfold rd_T41
  simp [h]
theorem recOk_len {r : S41} (h : recOk r = true) : r.f3.length ≤ 12 ∧ r.f5.length ≤ 12 := by
  unfold recOk partOk at h
  simp only [Bool.and_eq_true] at h
  obtain ⟨_, h1, h2⟩ := h
  constructor
  · cases h3 : r.f2 <;> rw [h3] at h1 <;> simp at h1
    · simp [h1]
    · omega
  · cases h3 : r.f4 <;> rw [h3] at h2 <;> simp at h2
    · simp [h2]
    · omega
end Go.Proofs.Ythlnbbehcpdnfaa.Pu

namespace Go.Proofs.Ythlnbbehcpdnfaa.G
open Go.RowKit Go.Proofs.YthlnbbehcpdnfaaW.PrintWords Go.Proofs.YthlnbbehcpdnfaaW.PrintLast Go.Proofs.YthlnbbehcpdnfaaW.PrintMore
attribute [local go_sem] max2_int min2_int max_two min_two max_three min_three max_four min_four   -- for this text's walks alone
set_option linter.unusedVariables false
set_option linter.unusedSimpArgs false

def spec_l42Rows.l0 : Nat → List (S41) → Int → Option (Bool)
 | 0, _, _ => none
 | k + 1, x0, x3 => if x3 < (x0.length : Int) then (if 0 ≤ x3 then ((spec_RecordValid.f k ((rd_T41 x0 x3).f0) ((rd_T41 x0 x3).f1) ((rd_T41 x0 x3).f2) ((rd_T41 x0 x3).f3) ((rd_T41 x0 x3).f4) ((rd_T41 x0 x3).f5)).bind fun t174 => (if t174 = true then (spec_l42Rows.l0 k x0 (wrap64 (x3 + 1))) else (some false))) else (none)) else (some (decide ((x0.length : Int) ≤ 30)))
def spec_l42Rows.f (k : Nat) (l0 : List (S41)) : Option (Bool) := spec_l42Rows.l0 k l0 0
set_option maxHeartbeats 8000000 in
set_option maxRecDepth 100000 in
theorem spec_l42Rows.calls (k : Nat) (A0 : Option Addr) (c0 : Nat) (l0 : List (S41)) (r : Bool) (w : World) (hr0 : Kd.C k41 w A0 l0.length l0) (hc0 : l0.length ≤ c0) (h : spec_l42Rows.f k l0 = some r) :
  Calls Try.prog 47 #[.slice A0 l0.length c0] w fun e w' => e = .returned (.bool r) ∧ Below w.heap.size w w' := by
 have hu41 := Try.underlying41
 have HR0 := Aside0.mk hr0
 have HC0 := Aside0.mk hc0
 clear hr0 hc0
 have HB := Aside0.mk (Below.refl w.heap.size w)
 have H : (spec_l42Rows.l0 k l0 0) = some r := h
 clear h
 have H' := Aside0.mk H
 clear H
 go_enter Try.func47, Try.ntmps47
 go_wp2
 go_loopg [3] k (fun kq v3 w' => ∃ (x3_1 : Int), v3 = .int .i64 x3_1 ∧ Aside0 (spec_l42Rows.l0 kq l0 x3_1 = some r) ∧ Aside0 (kq ≤ k) ∧ Aside0 (Below w.heap.size w w'))
 case atStart => exact ⟨(0), tr, H', ⟨Nat.le_refl _⟩, ⟨zb⟩⟩
 case round =>
  clear H'
  obtain ⟨x3_1, rfl, HA, HK1, HB⟩ := hrel
  cases gk with
  | zero => exact absurd HA.out (by simp [spec_l42Rows.l0])
  | succ k1 =>
   have H := HA.out
   clear HA
   simp only [spec_l42Rows.l0] at H
   by_cases c2 : x3_1 < (l0.length : Int)
   ·rw [if_pos c2] at H
    have c2b0 : decide (x3_1 < (l0.length : Int)) = true := decide_eq_true c2
    clear c2
    by_cases c3 : 0 ≤ x3_1
    ·rw [if_pos c3] at H
     have c3b0 : decide (0 ≤ x3_1) = true := decide_eq_true c3
     clear c3
     replace H := tbe H
     obtain ⟨t174, A4, H⟩ := H
     by_cases c5 : t174 = true
     ·subst c5
      rw [if_pos rfl] at H
      have H' := Aside0.mk H
      clear H
      have p173 : 0 ≤ (x3_1 : Int) := td
      have q173 : x3_1 < (l0.length : Int) := td
      obtain ⟨ad173, A173_3, c173_3, A173_5, c173_5, e173, hx173_0, hx173_1, hx173_2, hx173_3, hx173_4, hx173_5, hl173_3, hi173_3, hl173_5, hi173_5⟩ := at_T41 HR0.out x3_1 p173 q173
      cases e173
      replace hx173_0 := tcl HB hx173_0
      replace hx173_1 := tcl HB hx173_1
      replace hx173_2 := tcl HB hx173_2
      replace hx173_3 := tcl HB hx173_3
      replace hx173_4 := tcl HB hx173_4
      replace hx173_5 := tcl HB hx173_5
      have HR173_3 := Aside0.mk hi173_3
      have HC173_3 := Aside0.mk hl173_3
      clear hi173_3 hl173_3
      have HR173_5 := Aside0.mk hi173_5
      have HC173_5 := Aside0.mk hl173_5
      clear hi173_5 hl173_5
      replace p173 := eq_true p173
      replace q173 := eq_true q173
      go_wp2_with (first | ((with_reducible refine gate_callee (f := 66) rfl ?_); refine goesL_ (some 14) rfl rfl Try.func66 (by kernel_rfl) rfl #[.agg #[.int .i64 ((rd_T41 l0 x3_1).f0), .int .i64 ((rd_T41 l0 x3_1).f1), .bool ((rd_T41 l0 x3_1).f2), .slice A173_3 ((rd_T41 l0 x3_1).f3).length c173_3, .bool ((rd_T41 l0 x3_1).f4), .slice A173_5 ((rd_T41 l0 x3_1).f5).length c173_5]] rfl tq ?_; (with_reducible refine (spec_RecordValid.calls k1 ((rd_T41 l0 x3_1).f0) ((rd_T41 l0 x3_1).f1) ((rd_T41 l0 x3_1).f2) _ _ ((rd_T41 l0 x3_1).f3) ((rd_T41 l0 x3_1).f4) _ _ ((rd_T41 l0 x3_1).f5) true _ ?side1 ?side2 ?side3 ?side4 A4.out).mono ?_); (case side1 => exact tC (Kd.C_below HR173_3.out HB.out)); (case side2 => exact HC173_3.out); (case side3 => exact tC (Kd.C_below HR173_5.out HB.out)); (case side4 => exact HC173_5.out); rintro e w6 ⟨rfl, hb⟩; refine ⟨_, rfl, ?_⟩; replace HB := tBs HB hb; (try clear hb); (try clear hb2); (try clear hk); (try clear hi)))
      go_roundg k1
      case measure => have := HK1.out; omega
      case rel => exact ⟨(wrap64 (x3_1 + 1)), tr, H', ⟨by have := HK1.out; omega⟩, ⟨zb⟩⟩
     ·replace c5 := Bool.eq_false_iff.mpr c5
      subst c5
      rw [if_neg (show ¬ (false = true) by decide)] at H
      obtain rfl := Option.some.inj H
      have p173 : 0 ≤ (x3_1 : Int) := td
      have q173 : x3_1 < (l0.length : Int) := td
      obtain ⟨ad173, A173_3, c173_3, A173_5, c173_5, e173, hx173_0, hx173_1, hx173_2, hx173_3, hx173_4, hx173_5, hl173_3, hi173_3, hl173_5, hi173_5⟩ := at_T41 HR0.out x3_1 p173 q173
      cases e173
      replace hx173_0 := tcl HB hx173_0
      replace hx173_1 := tcl HB hx173_1
      replace hx173_2 := tcl HB hx173_2
      replace hx173_3 := tcl HB hx173_3
      replace hx173_4 := tcl HB hx173_4
      replace hx173_5 := tcl HB hx173_5
      have HR173_3 := Aside0.mk hi173_3
      have HC173_3 := Aside0.mk hl173_3
      clear hi173_3 hl173_3
      have HR173_5 := Aside0.mk hi173_5
      have HC173_5 := Aside0.mk hl173_5
      clear hi173_5 hl173_5
      replace p173 := eq_true p173
      replace q173 := eq_true q173
      go_wp2_with (first | ((with_reducible refine gate_callee (f := 66) rfl ?_); refine goesL_ (some 14) rfl rfl Try.func66 (by kernel_rfl) rfl #[.agg #[.int .i64 ((rd_T41 l0 x3_1).f0), .int .i64 ((rd_T41 l0 x3_1).f1), .bool ((rd_T41 l0 x3_1).f2), .slice A173_3 ((rd_T41 l0 x3_1).f3).length c173_3, .bool ((rd_T41 l0 x3_1).f4), .slice A173_5 ((rd_T41 l0 x3_1).f5).length c173_5]] rfl tq ?_; (with_reducible refine (spec_RecordValid.calls k1 ((rd_T41 l0 x3_1).f0) ((rd_T41 l0 x3_1).f1) ((rd_T41 l0 x3_1).f2) _ _ ((rd_T41 l0 x3_1).f3) ((rd_T41 l0 x3_1).f4) _ _ ((rd_T41 l0 x3_1).f5) false _ ?side1 ?side2 ?side3 ?side4 A4.out).mono ?_); (case side1 => exact tC (Kd.C_below HR173_3.out HB.out)); (case side2 => exact HC173_3.out); (case side3 => exact tC (Kd.C_below HR173_5.out HB.out)); (case side4 => exact HC173_5.out); rintro e w7 ⟨rfl, hb⟩; refine ⟨_, rfl, ?_⟩; replace HB := tBs HB hb; (try clear hb); (try clear hb2); (try clear hk); (try clear hi)))
      go_ret
      exact ⟨by first | rfl | (simp [errW_none, errW_some] <;> rfl) | (simp [*, errW_none, errW_some] <;> rfl), zb⟩
    ·rw [if_neg c3] at H
     exact absurd H (by simp)
   ·rw [if_neg c2] at H
    have c2b0 : decide (x3_1 < (l0.length : Int)) = false := decide_eq_false c2
    clear c2
    obtain rfl := Option.some.inj H
    go_wp2
    go_ret
    exact ⟨by first | rfl | (simp [errW_none, errW_some] <;> rfl) | (simp [*, errW_none, errW_some] <;> rfl), zb⟩

def spec_l12Copy.f (a0_0 : Int) (a0_1 : Int) (a0_2 : Bool) (l0_3 : List Int) (a0_4 : Bool) (l0_5 : List Int) : Option (Int × Int × Bool × List Int × Bool × List Int) := (some (([] : List Int) : List Int)).bind fun y177 => (if y177.length + l0_3.length < 17592186044416 then ((some (([] : List Int) : List Int)).bind fun y183 => (if y183.length + l0_5.length < 17592186044416 then (some (a0_0, a0_1, a0_2, (y177 ++ l0_3), a0_4, (y183 ++ l0_5))) else (none))) else (none))
set_option maxHeartbeats 8000000 in
set_option maxRecDepth 100000 in
theorem spec_l12Copy.calls (a0_0 : Int) (a0_1 : Int) (a0_2 : Bool) (A0_3 : Option Addr) (c0_3 : Nat) (l0_3 : List Int) (a0_4 : Bool) (A0_5 : Option Addr) (c0_5 : Nat) (l0_5 : List Int) (r1 : Int) (r2 : Int) (r3 : Bool) (r4 : List Int) (r5 : Bool) (r6 : List Int) (w : World) (hr0_3 : Kd.C (Kd.int .i64) w A0_3 l0_3.length l0_3) (hc0_3 : l0_3.length ≤ c0_3) (hr0_5 : Kd.C (Kd.int .i64) w A0_5 l0_5.length l0_5) (hc0_5 : l0_5.length ≤ c0_5) (h : spec_l12Copy.f a0_0 a0_1 a0_2 l0_3 a0_4 l0_5 = some (r1, r2, r3, r4, r5, r6)) :
  Calls Try.prog 55 #[.agg #[.int .i64 a0_0, .int .i64 a0_1, .bool a0_2, .slice A0_3 l0_3.length c0_3, .bool a0_4, .slice A0_5 l0_5.length c0_5]] w fun e w' => ∃ v3_ v5_ : Value, e = .returned (.agg #[.int .i64 r1, .int .i64 r2, .bool r3, v3_, .bool r5, v5_]) ∧ Kd.R (Kd.int .i64) 3 w' w.heap.size (fun k_ => some k_ ≠ (v5_ : Value).ownBlock) v3_ r4 ∧ Kd.R (Kd.int .i64) 3 w' w.heap.size (fun k_ => some k_ ≠ (v3_ : Value).ownBlock) v5_ r6 ∧ Below w.heap.size w w' := by
 have hu41 := Try.underlying41
 have HR0_3 := Aside0.mk hr0_3
 have HC0_3 := Aside0.mk hc0_3
 clear hr0_3 hc0_3
 have HR0_5 := Aside0.mk hr0_5
 have HC0_5 := Aside0.mk hc0_5
 clear hr0_5 hc0_5
 have HB := Aside0.mk (Below.refl w.heap.size w)
 have H : ((some (([] : List Int) : List Int)).bind fun y177 => (if y177.length + l0_3.length < 17592186044416 then ((some (([] : List Int) : List Int)).bind fun y183 => (if y183.length + l0_5.length < 17592186044416 then (some (a0_0, a0_1, a0_2, (y177 ++ l0_3), a0_4, (y183 ++ l0_5))) else (none))) else (none))) = some (r1, r2, r3, r4, r5, r6) := h
 clear h
 obtain ⟨y177, hy177⟩ : ∃ y_ : List Int, y_ = (([] : List Int)) := ⟨_, rfl⟩
 replace H : (if y177.length + l0_3.length < 17592186044416 then ((some (([] : List Int) : List Int)).bind fun y183 => (if y183.length + l0_5.length < 17592186044416 then (some (a0_0, a0_1, a0_2, (y177 ++ l0_3), a0_4, (y183 ++ l0_5))) else (none))) else (none)) = some (r1, r2, r3, r4, r5, r6) := by first | (rw [hy177]; with_reducible exact H) | (have H2_ := (Option.bind_some _ _).symm.trans H; rw [hy177]; with_reducible exact H2_) | (have H2_ := (Option.bind_some _ _).symm.trans H; with_reducible exact H2_) | with_reducible exact H | (rw [hy177]; exact H) | exact H
 have Ny177 := Aside0.mk hy177
 clear hy177
 by_cases c2 : y177.length + l0_3.length < 17592186044416
 ·rw [if_pos c2] at H
  have LMc2 := Aside0.mk c2
  clear c2
  obtain ⟨y180, hy180⟩ : ∃ y_ : List Int, y_ = (y177 ++ l0_3) := ⟨_, rfl⟩
  replace H : ((some (([] : List Int) : List Int)).bind fun y183 => (if y183.length + l0_5.length < 17592186044416 then (some (a0_0, a0_1, a0_2, y180, a0_4, (y183 ++ l0_5))) else (none))) = some (r1, r2, r3, r4, r5, r6) := by first | (rw [hy180]; with_reducible exact H) | (have H2_ := (Option.bind_some _ _).symm.trans H; rw [hy180]; with_reducible exact H2_) | (have H2_ := (Option.bind_some _ _).symm.trans H; with_reducible exact H2_) | with_reducible exact H | (rw [hy180]; exact H) | exact H
  have Ny180 := Aside0.mk hy180
  clear hy180
  obtain ⟨y183, hy183⟩ : ∃ y_ : List Int, y_ = (([] : List Int)) := ⟨_, rfl⟩
  replace H : (if y183.length + l0_5.length < 17592186044416 then (some (a0_0, a0_1, a0_2, y180, a0_4, (y183 ++ l0_5))) else (none)) = some (r1, r2, r3, r4, r5, r6) := by first | (rw [hy183]; with_reducible exact H) | (have H2_ := (Option.bind_some _ _).symm.trans H; rw [hy183]; with_reducible exact H2_) | (have H2_ := (Option.bind_some _ _).symm.trans H; with_reducible exact H2_) | with_reducible exact H | (rw [hy183]; exact H) | exact H
  have Ny183 := Aside0.mk hy183
  clear hy183
  by_cases c3 : y183.length + l0_5.length < 17592186044416
  ·rw [if_pos c3] at H
   have LMc3 := Aside0.mk c3
   clear c3
   obtain ⟨y186, hy186⟩ : ∃ y_ : List Int, y_ = (y183 ++ l0_5) := ⟨_, rfl⟩
   replace H : (some (a0_0, a0_1, a0_2, y180, a0_4, y186)) = some (r1, r2, r3, r4, r5, r6) := by first | (rw [hy186]; with_reducible exact H) | (have H2_ := (Option.bind_some _ _).symm.trans H; rw [hy186]; with_reducible exact H2_) | (have H2_ := (Option.bind_some _ _).symm.trans H; with_reducible exact H2_) | with_reducible exact H | (rw [hy186]; exact H) | exact H
   have Ny186 := Aside0.mk hy186
   clear hy186
   simp only [Option.some.injEq, Prod.mk.injEq] at H
   obtain ⟨rfl, rfl, rfl, rfl, rfl, rfl⟩ := H
   go_enter Try.func55, Try.ntmps55
   go_wp2_with (first | ((with_reducible refine gate_dst (N := 1) rfl ?_); refine box_event ?hg (N := 1) ?hd (cs := #[.int .i64 a0_0, .int .i64 a0_1, .bool a0_2, .slice A0_3 l0_3.length c0_3, .bool a0_4, .slice A0_5 l0_5.length c0_5]) (t := 41) ?hr ?_; (case hd => rfl); (case hg => rfl); (case hr => first | (go_simp; done) | (go_simp; rfl)); intro gb175 hg w4 hbox hb; have BK175 := Aside0.mk (hbox); have GW175 := tge HB hg; have GE175 := tge HB hg; replace HB := tBs HB hb; clear hb hbox hg) | ((with_reducible refine gate_dst (N := 2) rfl ?_); refine box_event ?hg (N := 2) ?hd (cs := #[.int .i64 0, .int .i64 0, .bool false, .slice none 0 0, .bool false, .slice none 0 0]) (t := 41) ?hr ?_; (case hd => rfl); (case hg => rfl); (case hr => first | (go_simp; done) | (go_simp; rfl)); intro gb176 hg w5 hbox hb; have BK176 := Aside0.mk (hbox); have GW176 := tge HB hg; have GE176 := tge HB hg; replace HB := tBs HB hb; have NB175_176 := tlt BK175 hg; have NB176_175 := tgt BK175 hg; replace BK175 := tBb BK175 hb; clear hb hbox hg) | ((with_reducible refine gate_dst (N := 3) rfl ?_); refine Kd.R_lit (Kd.int .i64) _ 3 ?hg (N := 3) ?hd (xs := ([] : List Int)) (inner := []) (ok := fun _ => True) (okp := fun _ => True) ?hr ?hp (fun _ hk => hk) trivial (Below.refl _ _) (Nat.le_refl _) (by simp) ?_; (case hd => rfl); (case hg => rfl); (case hr => first | (go_simp; done) | (go_simp; rfl)); (case hp => exact (Reps.none _ _)); intro v178 w6 ho7 hb hg_ hnew_; clear hg_ hnew_; (first | rw [← Ny177.out] at ho7 | (simp only [Int.reduceToNat] at ho7; rw [← Ny177.out] at ho7)); have HO179 := tRl ho7 HB; replace BK175 := tBb BK175 hb; replace BK176 := tBb BK176 hb; replace HB := tBs HB hb; clear hb ho7; have hnb8 := NB175_176.out; have hnc8 := NB176_175.out; obtain ⟨hcz9_0, hcz9_1, hcz9_2, hcz9_3, hcz9_4, hcz9_5, hfz9_0, hfz9_1, hfz9_2, hfz9_3, hfz9_4, hfz9_5⟩ := cells6 BK175.out) | ((with_reducible refine gate_builtin (b := .append) (xs := #[.tmp 3, .tmp 5]) rfl ?_); at_builtin; refine Kd.R_append_rows (Kd.int .i64) (w0 := w) w.heap.size rfl (.tmp 3) (.tmp 5) 39 3 (.int .i64 0) 8 rfl Try.underlying39 info3 rfl (by decide) (by omega) v178 y177 l0_3 _ _ _ (fun _ => True) (fun _ => False) rfl rfl ?aO ?aR (fun _ _ h => h) (fun _ h => h.elim) ?aF ?aB ?aS ?aL ?_; (case aR => exact tC (Kd.C_below HR0_3.out HB.out)); (case aB => exact zb); (case aF => exact (fun _ _ => trivial)); (case aO => exact (tR HO179.out)); (case aS => exact (below_size zb)); (case aL => have := LMc2.out; omega); intro v181 w10 ho hb hg hat; rw [← Ny180.out] at ho; replace BK175 := Aside0.mk (blk_grown (tH BK175.out) hg (Kd.R_ne HO179.out BK175.out (by decide))); replace BK176 := Aside0.mk (blk_grown (tH BK176.out) hg (Kd.R_ne HO179.out BK176.out (by decide))); replace HB := Aside0.mk (hb); have HO182 := Aside0.mk (ho); clear HO179; clear ho hb hg hat; obtain ⟨Ao11, co11, eo11⟩ := Kd.R_slice HO182.out; subst eo11; obtain ⟨hcz12_0, hcz12_1, hcz12_2, hcz12_3, hcz12_4, hcz12_5, hfz12_0, hfz12_1, hfz12_2, hfz12_3, hfz12_4, hfz12_5⟩ := cells6 BK175.out) | ((with_reducible refine gate_dst (N := 8) rfl ?_); refine Kd.R_lit (Kd.int .i64) _ 3 ?hg (N := 8) ?hd (xs := ([] : List Int)) (inner := []) (ok := fun _ => True) (okp := fun _ => True) ?hr ?hp (fun _ hk => hk) trivial (Below.refl _ _) (Nat.le_refl _) (by simp) ?_; (case hd => rfl); (case hg => rfl); (case hr => first | (go_simp; done) | (go_simp; rfl)); (case hp => exact (Reps.none _ _)); intro v184 w13 ho14 hb hg_ hnew_; clear hg_ hnew_; (first | rw [← Ny183.out] at ho14 | (simp only [Int.reduceToNat] at ho14; rw [← Ny183.out] at ho14)); have HO185 := Aside0.mk (Kd.R_lower (Kd.R_new' ho14 (Kd.R_lt (tRt HO182.out BK175.out))) (below_size zb)); replace HO182 := Aside0.mk (Kd.R_elder' (tRt HO182.out BK175.out) (Kd.R_base ho14) hb); replace BK175 := tBp (o' := .cells #[.int .i64 a0_0, .int .i64 a0_1, .bool a0_2, .slice Ao11 y180.length co11, .bool a0_4, .slice A0_5 l0_5.length c0_5] 41 (0, 0)) BK175 hb; replace BK176 := tBb BK176 hb; replace HB := tBs HB hb; clear hb ho14; obtain ⟨hcz15_0, hcz15_1, hcz15_2, hcz15_3, hcz15_4, hcz15_5, hfz15_0, hfz15_1, hfz15_2, hfz15_3, hfz15_4, hfz15_5⟩ := cells6 BK175.out) | ((with_reducible refine gate_builtin (b := .append) (xs := #[.tmp 8, .tmp 10]) rfl ?_); at_builtin; refine Kd.R_append_rows (Kd.int .i64) (w0 := w) w.heap.size rfl (.tmp 8) (.tmp 10) 39 3 (.int .i64 0) 8 rfl Try.underlying39 info3 rfl (by decide) (by omega) v184 y183 l0_5 _ _ _ (fun k_ => some k_ ≠ (.slice Ao11 y180.length co11 : Value).ownBlock) (fun _ => False) rfl rfl ?aO ?aR (fun _ _ h => h) (fun _ h => h.elim) ?aF ?aB ?aS ?aL ?_; (case aR => exact tC (Kd.C_below HR0_5.out HB.out)); (case aB => exact zb); (case aF => exact (fun k_ hk => Kd.fresh' (Kd.R_lt (tR HO182.out)) k_ hk)); (case aO => exact (tRm HO185.out)); (case aS => exact (below_size zb)); (case aL => have := LMc3.out; omega); intro v187 w16 ho hb hg hat; rw [← Ny186.out] at ho; replace BK175 := Aside0.mk (blk_grown (tH BK175.out) hg (Kd.R_ne HO185.out BK175.out (by decide))); replace BK176 := Aside0.mk (blk_grown (tH BK176.out) hg (Kd.R_ne HO185.out BK176.out (by decide))); replace HO182 := Aside0.mk (Kd.R_after (ok := (fun _ => True)) (tR HO182.out) hg hat); replace HB := Aside0.mk (hb); have HO188 := Aside0.mk (ho); clear HO185; clear ho hb hg hat; obtain ⟨Ao17, co17, eo17⟩ := Kd.R_slice HO188.out; subst eo17; obtain ⟨hcz18_0, hcz18_1, hcz18_2, hcz18_3, hcz18_4, hcz18_5, hfz18_0, hfz18_1, hfz18_2, hfz18_3, hfz18_4, hfz18_5⟩ := cells6 BK175.out; obtain ⟨hcz19_0, hcz19_1, hcz19_2, hcz19_3, hcz19_4, hcz19_5, hfz19_0, hfz19_1, hfz19_2, hfz19_3, hfz19_4, hfz19_5⟩ := cells6 BK176.out))
   refine bodyPost_ret (results_cell_row rfl _ _ gb176 41 #[.int .i64 a0_0, .int .i64 a0_1, .bool a0_2, .slice Ao11 y180.length co11, .bool a0_4, .slice Ao17 y186.length co17] (0, 0) _ rfl (tP BK176.out) Try.underlying41 rfl (by kernel_rfl)) rfl ?_
   exact ⟨_, _, by first | rfl | (simp [errW_none, errW_some] <;> rfl) | (simp [*, errW_none, errW_some] <;> rfl), tRm (Kd.R_types (Kd.R_types HO182.out BK175.out (by decide)) BK176.out (by decide)), tRm (Kd.R_types (Kd.R_types HO188.out BK175.out (by decide)) BK176.out (by decide)), zb⟩
  ·rw [if_neg c3] at H
   exact absurd H (by simp)
 ·rw [if_neg c2] at H
  exact absurd H (by simp)

mutual
def spec_RecordsMerge.j0 : Nat → List (S41) → List (S41) → List (S41) → Bool → Option ((List (S41)) × Bool)
 | 0, _, _, _, _ => none
 | k + 1, x0, x1, x6, x25 => if x25 = true then (some (x6, false)) else (spec_RecordsMerge.l0 k x0 x1 x6 0 0)
def spec_RecordsMerge.l0 : Nat → List (S41) → List (S41) → List (S41) → Int → Int → Option ((List (S41)) × Bool)
 | 0, _, _, _, _, _ => none
 | k + 1, x0, x1, x6, x7, x8 => if x7 < (x0.length : Int) then (spec_RecordsMerge.j2 k x0 x1 x6 x7 x8 true) else (spec_RecordsMerge.j2 k x0 x1 x6 x7 x8 (decide (x8 < (x1.length : Int))))
def spec_RecordsMerge.j2 : Nat → List (S41) → List (S41) → List (S41) → Int → Int → Bool → Option ((List (S41)) × Bool)
 | 0, _, _, _, _, _, _ => none
 | k + 1, x0, x1, x6, x7, x8, x36 => if x36 = true then (if x8 = (x1.length : Int) then (spec_RecordsMerge.j3 k x0 x1 x6 x7 x8 true) else (if x7 < (x0.length : Int) then (if 0 ≤ x7 then (if 0 ≤ x8 then (if x8 < (x1.length : Int) then (spec_RecordsMerge.j3 k x0 x1 x6 x7 x8 (decide (((rd_T41 x0 x7).f1) ≤ ((rd_T41 x1 x8).f1)))) else (none)) else (none)) else (none)) else (spec_RecordsMerge.j3 k x0 x1 x6 x7 x8 false))) else (some (x6, true))
def spec_RecordsMerge.j3 : Nat → List (S41) → List (S41) → List (S41) → Int → Int → Bool → Option ((List (S41)) × Bool)
 | 0, _, _, _, _, _, _ => none
 | k + 1, x0, x1, x6, x7, x8, x59 => if x59 = true then (if 0 ≤ x7 then (if x7 < (x0.length : Int) then ((spec_l12Copy.f ((rd_T41 x0 x7).f0) ((rd_T41 x0 x7).f1) ((rd_T41 x0 x7).f2) ((rd_T41 x0 x7).f3) ((rd_T41 x0 x7).f4) ((rd_T41 x0 x7).f5)).bind fun bt197 => (if x6.length < 1759218604441 then (spec_RecordsMerge.l0 k x0 x1 (x6 ++ [(⟨bt197.1, bt197.2.1, bt197.2.2.1, bt197.2.2.2.1, bt197.2.2.2.2.1, bt197.2.2.2.2.2⟩ : S41)]) (wrap64 (x7 + 1)) x8) else (none))) else (none)) else (none)) else (if 0 ≤ x8 then (if x8 < (x1.length : Int) then ((spec_l12Copy.f ((rd_T41 x1 x8).f0) ((rd_T41 x1 x8).f1) ((rd_T41 x1 x8).f2) ((rd_T41 x1 x8).f3) ((rd_T41 x1 x8).f4) ((rd_T41 x1 x8).f5)).bind fun bt211 => (if x6.length < 1759218604441 then (spec_RecordsMerge.l0 k x0 x1 (x6 ++ [(⟨bt211.1, bt211.2.1, bt211.2.2.1, bt211.2.2.2.1, bt211.2.2.2.2.1, bt211.2.2.2.2.2⟩ : S41)]) x7 (wrap64 (x8 + 1))) else (none))) else (none)) else (none))
end
def spec_RecordsMerge.f (k : Nat) (l0 : List (S41)) (l1 : List (S41)) : Option ((List (S41)) × Bool) := (some (([] : List (S41)) : List (S41))).bind fun y189 => ((spec_l42Rows.f k l0).bind fun t192 => (if t192 = true then ((spec_l42Rows.f k l1).bind fun t193 => (if t193 = true then (spec_RecordsMerge.j0 k l0 l1 y189 (decide ((wrap64 ((l0.length : Int) + (l1.length : Int))) > 30))) else (spec_RecordsMerge.j0 k l0 l1 y189 true))) else (spec_RecordsMerge.j0 k l0 l1 y189 true)))
set_option maxHeartbeats 8000000 in
set_option maxRecDepth 100000 in
theorem spec_RecordsMerge.calls (k : Nat) (A0 : Option Addr) (c0 : Nat) (l0 : List (S41)) (A1 : Option Addr) (c1 : Nat) (l1 : List (S41)) (r1 : List (S41)) (r2 : Bool) (w : World) (hr0 : Kd.C k41 w A0 l0.length l0) (hc0 : l0.length ≤ c0) (hr1 : Kd.C k41 w A1 l1.length l1) (hc1 : l1.length ≤ c1) (h : spec_RecordsMerge.f k l0 l1 = some (r1, r2)) :
  Calls Try.prog 34 #[.slice A0 l0.length c0, .slice A1 l1.length c1] w fun e w' => ∃ v0_ : Value, e = .returned (.tuple #[v0_, .bool r2]) ∧ Kd.S k41 41 w' w.heap.size (fun _ => True) v0_ r1 ∧ Below w.heap.size w w' := by
 have hu41 := Try.underlying41
 have HR0 := Aside0.mk hr0
 have HC0 := Aside0.mk hc0
 clear hr0 hc0
 have HR1 := Aside0.mk hr1
 have HC1 := Aside0.mk hc1
 clear hr1 hc1
 have HB := Aside0.mk (Below.refl w.heap.size w)
 have H : ((some (([] : List (S41)) : List (S41))).bind fun y189 => ((spec_l42Rows.f k l0).bind fun t192 => (if t192 = true then ((spec_l42Rows.f k l1).bind fun t193 => (if t193 = true then (spec_RecordsMerge.j0 k l0 l1 y189 (decide ((wrap64 ((l0.length : Int) + (l1.length : Int))) > 30))) else (spec_RecordsMerge.j0 k l0 l1 y189 true))) else (spec_RecordsMerge.j0 k l0 l1 y189 true)))) = some (r1, r2) := h
 clear h
 obtain ⟨y189, hy189⟩ : ∃ y_ : List (S41), y_ = (([] : List (S41))) := ⟨_, rfl⟩
 replace H : ((spec_l42Rows.f k l0).bind fun t192 => (if t192 = true then ((spec_l42Rows.f k l1).bind fun t193 => (if t193 = true then (spec_RecordsMerge.j0 k l0 l1 y189 (decide ((wrap64 ((l0.length : Int) + (l1.length : Int))) > 30))) else (spec_RecordsMerge.j0 k l0 l1 y189 true))) else (spec_RecordsMerge.j0 k l0 l1 y189 true))) = some (r1, r2) := by first | (rw [hy189]; with_reducible exact H) | (have H2_ := (Option.bind_some _ _).symm.trans H; rw [hy189]; with_reducible exact H2_) | (have H2_ := (Option.bind_some _ _).symm.trans H; with_reducible exact H2_) | with_reducible exact H | (rw [hy189]; exact H) | exact H
 have Ny189 := Aside0.mk hy189
 clear hy189
 have HC3 := Aside0.mk H
 clear H
 go_enter Try.func34, Try.ntmps34
 go_upto_region 2 with (first | ((with_reducible refine gate_dst (N := 9) rfl ?_); (try (refine gate_guard (by rfl) ?_; dsimp only)); refine Kd.S_lit k41 _ 41 ?hg (N := 9) ?hd (xs := ([] : List (S41))) (inner := []) (ok := fun _ => True) (okp := fun _ => True) ?hr ?hp (fun _ hk => hk) trivial (Below.refl _ _) (Nat.le_refl _) (by simp) ?_; (case hd => rfl); (case hg => rfl); (case hr => first | (go_simp; done) | (go_simp; rfl)); (case hp => exact (Reps.none _ _)); intro v190 w4 ho5 hb hg_ hnew_; clear hg_ hnew_; (first | rw [← Ny189.out] at ho5 | (simp only [Int.reduceToNat] at ho5; rw [← Ny189.out] at ho5)); have HO191 := tSl ho5 HB; replace HB := tBs HB hb; clear hb ho5))
 repeat (go_quiet (first | ((with_reducible refine gate_dst (N := 9) rfl ?_); (try (refine gate_guard (by rfl) ?_; dsimp only)); refine Kd.S_lit k41 _ 41 ?hg (N := 9) ?hd (xs := ([] : List (S41))) (inner := []) (ok := fun _ => True) (okp := fun _ => True) ?hr ?hp (fun _ hk => hk) trivial (Below.refl _ _) (Nat.le_refl _) (by simp) ?_; (case hd => rfl); (case hg => rfl); (case hr => first | (go_simp; done) | (go_simp; rfl)); (case hp => exact (Reps.none _ _)); intro v190 w4 ho5 hb hg_ hnew_; clear hg_ hnew_; (first | rw [← Ny189.out] at ho5 | (simp only [Int.reduceToNat] at ho5; rw [← Ny189.out] at ho5)); have HO191 := tSl ho5 HB; replace HB := tBs HB hb; clear hb ho5)); go_upto_region 2 with (first | ((with_reducible refine gate_dst (N := 9) rfl ?_); (try (refine gate_guard (by rfl) ?_; dsimp only)); refine Kd.S_lit k41 _ 41 ?hg (N := 9) ?hd (xs := ([] : List (S41))) (inner := []) (ok := fun _ => True) (okp := fun _ => True) ?hr ?hp (fun _ hk => hk) trivial (Below.refl _ _) (Nat.le_refl _) (by simp) ?_; (case hd => rfl); (case hg => rfl); (case hr => first | (go_simp; done) | (go_simp; rfl)); (case hp => exact (Reps.none _ _)); intro v190 w4 ho5 hb hg_ hnew_; clear hg_ hnew_; (first | rw [← Ny189.out] at ho5 | (simp only [Int.reduceToNat] at ho5; rw [← Ny189.out] at ho5)); have HO191 := tSl ho5 HB; replace HB := tBs HB hb; clear hb ho5)))
 (try simp only [Act.put, List.setIfInBounds_toArray, List.set_cons_zero, List.set_cons_succ])
 go_cut [25] (fun v25 wc => ∃ (kq : Nat) (x25_2 : Bool), v25 = .bool x25_2 ∧ Aside0 (spec_RecordsMerge.j0 kq l0 l1 y189 x25_2 = some (r1, r2)) ∧ Aside0 (kq ≤ k) ∧ Aside0 (Kd.S k41 41 wc w.heap.size (fun _ => True) v190 y189) ∧ Aside0 (Below w.heap.size w wc))
 case first =>
  have H := HC3.out
  clear HC3
  replace H := tbe H
  obtain ⟨t192, A6, H⟩ := H
  by_cases c7 : t192 = true
  ·subst c7
   rw [if_pos rfl] at H
   replace H := tbe H
   obtain ⟨t193, A8, H⟩ := H
   by_cases c9 : t193 = true
   ·subst c9
    rw [if_pos rfl] at H
    have H' := Aside0.mk H
    clear H
    go_wp2_with (first | (go_at_call 47; (with_reducible refine (spec_l42Rows.calls k _ _ l0 true _ ?side1 ?side2 A6.out).mono ?_); (case side1 => exact tC (Kd.C_below HR0.out HB.out)); (case side2 => exact HC0.out); rintro e w10 ⟨rfl, hb⟩; replace HO191 := tSb HO191 hb; replace HB := tBs HB hb; (try clear hb); (try clear hb2); (try clear hk); (try clear hi)) | (go_at_call 47; (with_reducible refine (spec_l42Rows.calls k _ _ l1 true _ ?side1 ?side2 A8.out).mono ?_); (case side1 => exact tC (Kd.C_below HR1.out HB.out)); (case side2 => exact HC1.out); rintro e w11 ⟨rfl, hb⟩; replace HO191 := tSb HO191 hb; replace HB := tBs HB hb; (try clear hb); (try clear hb2); (try clear hk); (try clear hi)))
    repeat (go_quiet (first | (go_at_call 47; (with_reducible refine (spec_l42Rows.calls k _ _ l0 true _ ?side1 ?side2 A6.out).mono ?_); (case side1 => exact tC (Kd.C_below HR0.out HB.out)); (case side2 => exact HC0.out); rintro e w10 ⟨rfl, hb⟩; replace HO191 := tSb HO191 hb; replace HB := tBs HB hb; (try clear hb); (try clear hb2); (try clear hk); (try clear hi)) | (go_at_call 47; (with_reducible refine (spec_l42Rows.calls k _ _ l1 true _ ?side1 ?side2 A8.out).mono ?_); (case side1 => exact tC (Kd.C_below HR1.out HB.out)); (case side2 => exact HC1.out); rintro e w11 ⟨rfl, hb⟩; replace HO191 := tSb HO191 hb; replace HB := tBs HB hb; (try clear hb); (try clear hb2); (try clear hk); (try clear hi))); try go_wp2_with (first | (go_at_call 47; (with_reducible refine (spec_l42Rows.calls k _ _ l0 true _ ?side1 ?side2 A6.out).mono ?_); (case side1 => exact tC (Kd.C_below HR0.out HB.out)); (case side2 => exact HC0.out); rintro e w10 ⟨rfl, hb⟩; replace HO191 := tSb HO191 hb; replace HB := tBs HB hb; (try clear hb); (try clear hb2); (try clear hk); (try clear hi)) | (go_at_call 47; (with_reducible refine (spec_l42Rows.calls k _ _ l1 true _ ?side1 ?side2 A8.out).mono ?_); (case side1 => exact tC (Kd.C_below HR1.out HB.out)); (case side2 => exact HC1.out); rintro e w11 ⟨rfl, hb⟩; replace HO191 := tSb HO191 hb; replace HB := tBs HB hb; (try clear hb); (try clear hb2); (try clear hk); (try clear hi))))
    go_meet
    case rel => exact ⟨_, (decide ((wrap64 ((l0.length : Int) + (l1.length : Int))) > 30)), tr, H', ⟨by first | omega | exact Nat.le_refl _⟩, ⟨tS HO191.out⟩, ⟨zb⟩⟩
   ·replace c9 := Bool.eq_false_iff.mpr c9
    subst c9
    rw [if_neg (show ¬ (false = true) by decide)] at H
    have H' := Aside0.mk H
    clear H
    go_wp2_with (first | (go_at_call 47; (with_reducible refine (spec_l42Rows.calls k _ _ l0 true _ ?side1 ?side2 A6.out).mono ?_); (case side1 => exact tC (Kd.C_below HR0.out HB.out)); (case side2 => exact HC0.out); rintro e w12 ⟨rfl, hb⟩; replace HO191 := tSb HO191 hb; replace HB := tBs HB hb; (try clear hb); (try clear hb2); (try clear hk); (try clear hi)) | (go_at_call 47; (with_reducible refine (spec_l42Rows.calls k _ _ l1 false _ ?side1 ?side2 A8.out).mono ?_); (case side1 => exact tC (Kd.C_below HR1.out HB.out)); (case side2 => exact HC1.out); rintro e w13 ⟨rfl, hb⟩; replace HO191 := tSb HO191 hb; replace HB := tBs HB hb; (try clear hb); (try clear hb2); (try clear hk); (try clear hi)))
    repeat (go_quiet (first | (go_at_call 47; (with_reducible refine (spec_l42Rows.calls k _ _ l0 true _ ?side1 ?side2 A6.out).mono ?_); (case side1 => exact tC (Kd.C_below HR0.out HB.out)); (case side2 => exact HC0.out); rintro e w12 ⟨rfl, hb⟩; replace HO191 := tSb HO191 hb; replace HB := tBs HB hb; (try clear hb); (try clear hb2); (try clear hk); (try clear hi)) | (go_at_call 47; (with_reducible refine (spec_l42Rows.calls k _ _ l1 false _ ?side1 ?side2 A8.out).mono ?_); (case side1 => exact tC (Kd.C_below HR1.out HB.out)); (case side2 => exact HC1.out); rintro e w13 ⟨rfl, hb⟩; replace HO191 := tSb HO191 hb; replace HB := tBs HB hb; (try clear hb); (try clear hb2); (try clear hk); (try clear hi))); try go_wp2_with (first | (go_at_call 47; (with_reducible refine (spec_l42Rows.calls k _ _ l0 true _ ?side1 ?side2 A6.out).mono ?_); (case side1 => exact tC (Kd.C_below HR0.out HB.out)); (case side2 => exact HC0.out); rintro e w12 ⟨rfl, hb⟩; replace HO191 := tSb HO191 hb; replace HB := tBs HB hb; (try clear hb); (try clear hb2); (try clear hk); (try clear hi)) | (go_at_call 47; (with_reducible refine (spec_l42Rows.calls k _ _ l1 false _ ?side1 ?side2 A8.out).mono ?_); (case side1 => exact tC (Kd.C_below HR1.out HB.out)); (case side2 => exact HC1.out); rintro e w13 ⟨rfl, hb⟩; replace HO191 := tSb HO191 hb; replace HB := tBs HB hb; (try clear hb); (try clear hb2); (try clear hk); (try clear hi))))
    go_meet
    case rel => exact ⟨_, (true), tr, H', ⟨by first | omega | exact Nat.le_refl _⟩, ⟨tS HO191.out⟩, ⟨zb⟩⟩
  ·replace c7 := Bool.eq_false_iff.mpr c7
   subst c7
   rw [if_neg (show ¬ (false = true) by decide)] at H
   have H' := Aside0.mk H
   clear H
   go_wp2_with (first | (go_at_call 47; (with_reducible refine (spec_l42Rows.calls k _ _ l0 false _ ?side1 ?side2 A6.out).mono ?_); (case side1 => exact tC (Kd.C_below HR0.out HB.out)); (case side2 => exact HC0.out); rintro e w14 ⟨rfl, hb⟩; replace HO191 := tSb HO191 hb; replace HB := tBs HB hb; (try clear hb); (try clear hb2); (try clear hk); (try clear hi)))
   repeat (go_quiet (first | (go_at_call 47; (with_reducible refine (spec_l42Rows.calls k _ _ l0 false _ ?side1 ?side2 A6.out).mono ?_); (case side1 => exact tC (Kd.C_below HR0.out HB.out)); (case side2 => exact HC0.out); rintro e w14 ⟨rfl, hb⟩; replace HO191 := tSb HO191 hb; replace HB := tBs HB hb; (try clear hb); (try clear hb2); (try clear hk); (try clear hi))); try go_wp2_with (first | (go_at_call 47; (with_reducible refine (spec_l42Rows.calls k _ _ l0 false _ ?side1 ?side2 A6.out).mono ?_); (case side1 => exact tC (Kd.C_below HR0.out HB.out)); (case side2 => exact HC0.out); rintro e w14 ⟨rfl, hb⟩; replace HO191 := tSb HO191 hb; replace HB := tBs HB hb; (try clear hb); (try clear hb2); (try clear hk); (try clear hi))))
   go_meet
   case rel => exact ⟨_, (true), tr, H', ⟨by first | omega | exact Nat.le_refl _⟩, ⟨tS HO191.out⟩, ⟨zb⟩⟩
 case rest =>
  clear HC3
  try clear c1
  obtain ⟨kq, x25_2, rfl, HA, HJ2, HO_6, HB⟩ := hcut
  cases kq with
  | zero => exact absurd HA.out (by simp [spec_RecordsMerge.j0])
  | succ kj2 =>
   have H := HA.out
   clear HA
   simp only [spec_RecordsMerge.j0] at H
   by_cases c15 : x25_2 = true
   ·subst c15
    rw [if_pos rfl] at H
    simp only [Option.some.injEq, Prod.mk.injEq] at H
    obtain ⟨rfl, rfl⟩ := H
    go_wp2
    repeat (go_quiet (fail); try go_wp2)
    go_ret2
    exact ⟨_, by first | rfl | (simp [errW_none, errW_some] <;> rfl) | (simp [*, errW_none, errW_some] <;> rfl), tS HO_6.out, zb⟩
   ·replace c15 := Bool.eq_false_iff.mpr c15
    subst c15
    rw [if_neg (show ¬ (false = true) by decide)] at H
    have H' := Aside0.mk H
    clear H
    go_wp2
    repeat (go_quiet (fail); try go_wp2)
    go_loopg [6, 7, 8] kj2 (fun kq v6 v7 v8 w' => ∃ (x6_2 : List (S41)) (x7_2 : Int) (x8_2 : Int), v7 = .int .i64 x7_2 ∧ v8 = .int .i64 x8_2 ∧ Aside0 (spec_RecordsMerge.l0 kq l0 l1 x6_2 x7_2 x8_2 = some (r1, r2)) ∧ Aside0 (kq ≤ kj2) ∧ Aside0 (Kd.S k41 41 w' w.heap.size (fun _ => True) v6 x6_2) ∧ Aside0 (Below w.heap.size w w'))
    case atStart => exact ⟨(y189), (0), (0), tr, tr, H', ⟨Nat.le_refl _⟩, ⟨tS HO_6.out⟩, ⟨zb⟩⟩
    case round =>
     clear H'
     try clear c1; try clear c15
     obtain ⟨x6_2, x7_2, x8_2, rfl, rfl, HA, HK2, HO_6, HB⟩ := hrel
     cases gk with
     | zero => exact absurd HA.out (by simp [spec_RecordsMerge.l0])
     | succ k2 =>
      have H := HA.out
      clear HA
      simp only [spec_RecordsMerge.l0] at H
      have HC16 := Aside0.mk H
      clear H
      go_upto_region 6 with (fail)
      repeat (go_quiet (fail); go_upto_region 6 with (fail))
      go_cut [36] (fun v36 wc => ∃ (kq : Nat) (x36_15 : Bool), v36 = .bool x36_15 ∧ Aside0 (spec_RecordsMerge.j2 kq l0 l1 x6_2 x7_2 x8_2 x36_15 = some (r1, r2)) ∧ Aside0 (kq ≤ k2) ∧ Aside0 (Kd.S k41 41 wc w.heap.size (fun _ => True) u6 x6_2) ∧ Aside0 (Below w.heap.size w wc))
      case first =>
       have H := HC16.out
       clear HC16
       by_cases c17 : x7_2 < (l0.length : Int)
       ·rw [if_pos c17] at H
        have c17b0 : decide (x7_2 < (l0.length : Int)) = true := decide_eq_true c17
        clear c17
        (first | rw [c17b0] | (simp only [i64_w, i32_w]; rw [c17b0]) | skip)
        have H' := Aside0.mk H
        clear H
        go_wp2
        repeat (go_quiet (fail); try go_wp2)
        go_meet
        case rel => exact ⟨_, (true), tr, H', ⟨by have := HJ2.out; have := HK2.out; first | omega | exact Nat.le_refl _⟩, ⟨tS HO_6.out⟩, ⟨zb⟩⟩
       ·rw [if_neg c17] at H
        have c17b0 : decide (x7_2 < (l0.length : Int)) = false := decide_eq_false c17
        clear c17
        (first | rw [c17b0] | (simp only [i64_w, i32_w]; rw [c17b0]) | skip)
        have H' := Aside0.mk H
        clear H
        go_wp2
        repeat (go_quiet (fail); try go_wp2)
        go_meet
        case rel => exact ⟨_, (decide (x8_2 < (l1.length : Int))), tr, H', ⟨by have := HJ2.out; have := HK2.out; first | omega | exact Nat.le_refl _⟩, ⟨tS HO_6.out⟩, ⟨zb⟩⟩
      case rest =>
       clear HC16
       try clear c1; try clear c15
       obtain ⟨kq, x36_15, rfl, HA, HJ15, HO_6, HB⟩ := hcut
       cases kq with
       | zero => exact absurd HA.out (by simp [spec_RecordsMerge.j2])
       | succ kj15 =>
        have H := HA.out
        clear HA
        simp only [spec_RecordsMerge.j2] at H
        by_cases c18 : x36_15 = true
        ·subst c18
         rw [if_pos rfl] at H
         have HC19 := Aside0.mk H
         clear H
         go_upto_region 7 with (fail)
         repeat (go_quiet (fail); go_upto_region 7 with (fail))
         go_cut [59] (fun v59 wc => ∃ (kq : Nat) (x59_18 : Bool), v59 = .bool x59_18 ∧ Aside0 (spec_RecordsMerge.j3 kq l0 l1 x6_2 x7_2 x8_2 x59_18 = some (r1, r2)) ∧ Aside0 (kq ≤ kj15) ∧ Aside0 (Kd.S k41 41 wc w.heap.size (fun _ => True) u6 x6_2) ∧ Aside0 (Below w.heap.size w wc))
         case first =>
          have H := HC19.out
          clear HC19
          by_cases c20 : x8_2 = (l1.length : Int)
          ·rw [if_pos c20] at H
           have c20b0 : (x8_2 == (l1.length : Int)) = true := beq_iff_eq.mpr c20
           have c20b1 : (x8_2 != (l1.length : Int)) = false := bne_eq_false_iff_eq.mpr c20
           clear c20
           (first | rw [c20b0] | (simp only [i64_w, i32_w]; rw [c20b0]) | skip)
           have H' := Aside0.mk H
           clear H
           go_wp2
           repeat (go_quiet (fail); try go_wp2)
           go_meet
           case rel => exact ⟨_, (true), tr, H', ⟨by have := HJ2.out; have := HK2.out; have := HJ15.out; first | omega | exact Nat.le_refl _⟩, ⟨tS HO_6.out⟩, ⟨zb⟩⟩
          ·rw [if_neg c20] at H
           have c20b0 : (x8_2 == (l1.length : Int)) = false := beq_eq_false_iff_ne.mpr c20
           have c20b1 : (x8_2 != (l1.length : Int)) = true := bne_iff_ne.mpr c20
           (first | rw [c20b0] | (simp only [i64_w, i32_w]; rw [c20b0]) | skip)
           by_cases c21 : x7_2 < (l0.length : Int)
           ·rw [if_pos c21] at H
            have c21b0 : decide (x7_2 < (l0.length : Int)) = true := decide_eq_true c21
            clear c21
            by_cases c22 : 0 ≤ x7_2
            ·rw [if_pos c22] at H
             have c22b0 : decide (0 ≤ x7_2) = true := decide_eq_true c22
             clear c22
             by_cases c23 : 0 ≤ x8_2
             ·rw [if_pos c23] at H
              have c23b0 : decide (0 ≤ x8_2) = true := decide_eq_true c23
              clear c23
              by_cases c24 : x8_2 < (l1.length : Int)
              ·rw [if_pos c24] at H
               have c24b0 : decide (x8_2 < (l1.length : Int)) = true := decide_eq_true c24
               clear c24
               have H' := Aside0.mk H
               clear H
               have p194 : 0 ≤ (x7_2 : Int) := td
               have q194 : x7_2 < (l0.length : Int) := td
               obtain ⟨ad194, A194_3, c194_3, A194_5, c194_5, e194, hx194_0, hx194_1, hx194_2, hx194_3, hx194_4, hx194_5, hl194_3, hi194_3, hl194_5, hi194_5⟩ := at_T41 HR0.out x7_2 p194 q194
               cases e194
               replace hx194_0 := tcl HB hx194_0
               replace hx194_1 := tcl HB hx194_1
               replace hx194_2 := tcl HB hx194_2
               replace hx194_3 := tcl HB hx194_3
               replace hx194_4 := tcl HB hx194_4
               replace hx194_5 := tcl HB hx194_5
               have HR194_3 := Aside0.mk hi194_3
               have HC194_3 := Aside0.mk hl194_3
               clear hi194_3 hl194_3
               have HR194_5 := Aside0.mk hi194_5
               have HC194_5 := Aside0.mk hl194_5
               clear hi194_5 hl194_5
               replace p194 := eq_true p194
               replace q194 := eq_true q194
               have p195 : 0 ≤ (x8_2 : Int) := td
               have q195 : x8_2 < (l1.length : Int) := td
               obtain ⟨ad195, A195_3, c195_3, A195_5, c195_5, e195, hx195_0, hx195_1, hx195_2, hx195_3, hx195_4, hx195_5, hl195_3, hi195_3, hl195_5, hi195_5⟩ := at_T41 HR1.out x8_2 p195 q195
               cases e195
               replace hx195_0 := tcl HB hx195_0
               replace hx195_1 := tcl HB hx195_1
               replace hx195_2 := tcl HB hx195_2
               replace hx195_3 := tcl HB hx195_3
               replace hx195_4 := tcl HB hx195_4
               replace hx195_5 := tcl HB hx195_5
               have HR195_3 := Aside0.mk hi195_3
               have HC195_3 := Aside0.mk hl195_3
               clear hi195_3 hl195_3
               have HR195_5 := Aside0.mk hi195_5
               have HC195_5 := Aside0.mk hl195_5
               clear hi195_5 hl195_5
               replace p195 := eq_true p195
               replace q195 := eq_true q195
               go_wp2
               repeat (go_quiet (fail); try go_wp2)
               go_meet
               case rel => exact ⟨_, (decide (((rd_T41 l0 x7_2).f1) ≤ ((rd_T41 l1 x8_2).f1))), tr, H', ⟨by have := HJ2.out; have := HK2.out; have := HJ15.out; first | omega | exact Nat.le_refl _⟩, ⟨tS HO_6.out⟩, ⟨zb⟩⟩
              ·rw [if_neg c24] at H
               exact absurd H (by simp)
             ·rw [if_neg c23] at H
              exact absurd H (by simp)
            ·rw [if_neg c22] at H
             exact absurd H (by simp)
           ·rw [if_neg c21] at H
            have c21b0 : decide (x7_2 < (l0.length : Int)) = false := decide_eq_false c21
            clear c21
            have H' := Aside0.mk H
            clear H
            go_wp2
            repeat (go_quiet (fail); try go_wp2)
            go_meet
            case rel => exact ⟨_, (false), tr, H', ⟨by have := HJ2.out; have := HK2.out; have := HJ15.out; first | omega | exact Nat.le_refl _⟩, ⟨tS HO_6.out⟩, ⟨zb⟩⟩
         case rest =>
          clear HC19
          try clear c1; try clear c15; try clear c18
          obtain ⟨kq, x59_18, rfl, HA, HJ18, HO_6, HB⟩ := hcut
          cases kq with
          | zero => exact absurd HA.out (by simp [spec_RecordsMerge.j3])
          | succ kj18 =>
           have H := HA.out
           clear HA
           simp only [spec_RecordsMerge.j3] at H
           by_cases c25 : x59_18 = true
           ·subst c25
            rw [if_pos rfl] at H
            by_cases c26 : 0 ≤ x7_2
            ·rw [if_pos c26] at H
             have c26b0 : decide (0 ≤ x7_2) = true := decide_eq_true c26
             clear c26
             by_cases c27 : x7_2 < (l0.length : Int)
             ·rw [if_pos c27] at H
              have c27b0 : decide (x7_2 < (l0.length : Int)) = true := decide_eq_true c27
              clear c27
              replace H := tbe H
              obtain ⟨⟨t197, t198, t199, t200, t203, t204⟩, A28, H⟩ := H
              dsimp only at H
              by_cases c29 : x6_2.length < 1759218604441
              ·rw [if_pos c29] at H
               have LMc29 := Aside0.mk c29
               clear c29
               obtain ⟨y207, hy207⟩ : ∃ y_ : List (S41), y_ = (x6_2 ++ [(⟨t197, t198, t199, t200, t203, t204⟩ : S41)]) := ⟨_, rfl⟩
               replace H : (spec_RecordsMerge.l0 kj18 l0 l1 y207 (wrap64 (x7_2 + 1)) x8_2) = some (r1, r2) := by first | (rw [hy207]; with_reducible exact H) | (have H2_ := (Option.bind_some _ _).symm.trans H; rw [hy207]; with_reducible exact H2_) | (have H2_ := (Option.bind_some _ _).symm.trans H; with_reducible exact H2_) | with_reducible exact H | (rw [hy207]; exact H) | exact H
               have Ny207 := Aside0.mk hy207
               clear hy207
               have H' := Aside0.mk H
               clear H
               have p196 : 0 ≤ (x7_2 : Int) := td
               have q196 : x7_2 < (l0.length : Int) := td
               obtain ⟨ad196, A196_3, c196_3, A196_5, c196_5, e196, hx196_0, hx196_1, hx196_2, hx196_3, hx196_4, hx196_5, hl196_3, hi196_3, hl196_5, hi196_5⟩ := at_T41 HR0.out x7_2 p196 q196
               cases e196
               replace hx196_0 := tcl HB hx196_0
               replace hx196_1 := tcl HB hx196_1
               replace hx196_2 := tcl HB hx196_2
               replace hx196_3 := tcl HB hx196_3
               replace hx196_4 := tcl HB hx196_4
               replace hx196_5 := tcl HB hx196_5
               have HR196_3 := Aside0.mk hi196_3
               have HC196_3 := Aside0.mk hl196_3
               clear hi196_3 hl196_3
               have HR196_5 := Aside0.mk hi196_5
               have HC196_5 := Aside0.mk hl196_5
               clear hi196_5 hl196_5
               replace p196 := eq_true p196
               replace q196 := eq_true q196
               go_wp2_with (first | (go_at_call 55; (with_reducible refine (spec_l12Copy.calls ((rd_T41 l0 x7_2).f0) ((rd_T41 l0 x7_2).f1) ((rd_T41 l0 x7_2).f2) _ _ ((rd_T41 l0 x7_2).f3) ((rd_T41 l0 x7_2).f4) _ _ ((rd_T41 l0 x7_2).f5) t197 t198 t199 t200 t203 t204 _ ?side1 ?side2 ?side3 ?side4 A28.out).mono ?_); (case side1 => exact tC (Kd.C_below HR196_3.out HB.out)); (case side2 => exact HC196_3.out); (case side3 => exact tC (Kd.C_below HR196_5.out HB.out)); (case side4 => exact HC196_5.out); rintro e w30 ⟨v201, v205, rfl, ho0, ho1, hb⟩; have u_v201 := tsv Try.prog v201 ho0; have u_v205 := tsv Try.prog v205 ho1; replace HO_6 := Aside0.mk (Kd.S_mono (Kd.S_told (Kd.S_told (Kd.S_old (tS HO_6.out) hb) (Kd.R_base ho0)) (Kd.R_base ho1)) (fun _ h_ => h_.1)); have HO202 := tRl ho0 HB; have HO206 := tRl ho1 HB; replace HB := tBs HB hb; (try clear hb); (try clear hb2); (try clear hk); (try clear hi); (try clear ho0); (try clear ho1); obtain ⟨Ao32, co32, eo32⟩ := Kd.R_slice HO202.out; subst eo32; obtain ⟨Ao33, co33, eo33⟩ := Kd.R_slice HO206.out; subst eo33) | ((with_reducible refine gate_builtin (b := .append) (xs := #[.tmp 60, .tmp 66]) rfl ?_); (try (refine gate_guard (by rfl) ?_; dsimp only)); at_builtin; refine Kd.S_append k41 (w0 := w) w.heap.size rfl (.tmp 60) (.tmp 66) 32 41 (.agg #[(.int .i64 0), (.int .i64 0), (.bool false), (.slice none 0 0), (.bool false), (.slice none 0 0)]) 80 rfl Try.underlying32 info41 rfl (by decide) (by omega) u6 x6_2 (⟨t197, t198, t199, t200, t203, t204⟩ : S41) [.int .i64 t197, .int .i64 t198, .bool t199, .slice Ao32 t200.length co32, .bool t203, .slice Ao33 t204.length co33] (fun _ => True) (fun k_ => some k_ = (.slice Ao32 t200.length co32 : Value).ownBlock ∨ some k_ = (.slice Ao33 t204.length co33 : Value).ownBlock) rfl rfl ?aP (fun k_ hk_ => hk_.elim (fun h_ => ((Kd.R_mono (ok' := fun k_ => ((fun _ => True)) k_ ∧ some k_ ≠ (u6 : Value).ownBlock) (Kd.R_apart' (HO202.out) (Kd.S_typed HO_6.out) (by decide)) (fun k_ hk => ⟨trivial, hk.2⟩))).1 k_ h_.symm) (fun h_ => ((Kd.R_mono (ok' := fun k_ => ((fun _ => True)) k_ ∧ some k_ ≠ (u6 : Value).ownBlock) (Kd.R_apart' (HO206.out) (Kd.S_typed HO_6.out) (by decide)) (fun k_ hk => ⟨trivial, hk.2⟩))).1 k_ h_.symm)) ?aF ?aO ?aB ?aS ?aL ?_; (case aP => exact k41_mkM _ _ _ (⟨t197, t198, t199, t200, t203, t204⟩ : S41) (Kd.R_mono (Kd.R_tight rfl (Kd.R_mono (ok' := fun k_ => ((fun _ => True)) k_ ∧ some k_ ≠ (u6 : Value).ownBlock) (Kd.R_apart' (HO202.out) (Kd.S_typed HO_6.out) (by decide)) (fun k_ hk => ⟨trivial, hk.2⟩))) (fun _ h_ => Or.inl h_)) (Kd.R_mono (Kd.R_tight rfl (Kd.R_mono (ok' := fun k_ => ((fun _ => True)) k_ ∧ some k_ ≠ (u6 : Value).ownBlock) (Kd.R_apart' (HO206.out) (Kd.S_typed HO_6.out) (by decide)) (fun k_ hk => ⟨trivial, hk.2⟩))) (fun _ h_ => Or.inr (h_)))); (case aB => exact zb); (case aF => exact (fun _ _ => trivial)); (case aO => exact (tSm HO_6.out)); (case aS => exact (below_size zb)); (case aL => have := LMc29.out; omega); intro v208 w31 ho hb hg hat; rw [← Ny207.out] at ho; replace HB := Aside0.mk (hb); have HO209 := Aside0.mk (ho); clear HO_6 HO202 HO206; clear ho hb hg hat))
               repeat (go_quiet (first | (go_at_call 55; (with_reducible refine (spec_l12Copy.calls ((rd_T41 l0 x7_2).f0) ((rd_T41 l0 x7_2).f1) ((rd_T41 l0 x7_2).f2) _ _ ((rd_T41 l0 x7_2).f3) ((rd_T41 l0 x7_2).f4) _ _ ((rd_T41 l0 x7_2).f5) t197 t198 t199 t200 t203 t204 _ ?side1 ?side2 ?side3 ?side4 A28.out).mono ?_); (case side1 => exact tC (Kd.C_below HR196_3.out HB.out)); (case side2 => exact HC196_3.out); (case side3 => exact tC (Kd.C_below HR196_5.out HB.out)); (case side4 => exact HC196_5.out); rintro e w30 ⟨v201, v205, rfl, ho0, ho1, hb⟩; have u_v201 := tsv Try.prog v201 ho0; have u_v205 := tsv Try.prog v205 ho1; replace HO_6 := Aside0.mk (Kd.S_mono (Kd.S_told (Kd.S_told (Kd.S_old (tS HO_6.out) hb) (Kd.R_base ho0)) (Kd.R_base ho1)) (fun _ h_ => h_.1)); have HO202 := tRl ho0 HB; have HO206 := tRl ho1 HB; replace HB := tBs HB hb; (try clear hb); (try clear hb2); (try clear hk); (try clear hi); (try clear ho0); (try clear ho1); obtain ⟨Ao32, co32, eo32⟩ := Kd.R_slice HO202.out; subst eo32; obtain ⟨Ao33, co33, eo33⟩ := Kd.R_slice HO206.out; subst eo33) | ((with_reducible refine gate_builtin (b := .append) (xs := #[.tmp 60, .tmp 66]) rfl ?_); (try (refine gate_guard (by rfl) ?_; dsimp only)); at_builtin; refine Kd.S_append k41 (w0 := w) w.heap.size rfl (.tmp 60) (.tmp 66) 32 41 (.agg #[(.int .i64 0), (.int .i64 0), (.bool false), (.slice none 0 0), (.bool false), (.slice none 0 0)]) 80 rfl Try.underlying32 info41 rfl (by decide) (by omega) u6 x6_2 (⟨t197, t198, t199, t200, t203, t204⟩ : S41) [.int .i64 t197, .int .i64 t198, .bool t199, .slice Ao32 t200.length co32, .bool t203, .slice Ao33 t204.length co33] (fun _ => True) (fun k_ => some k_ = (.slice Ao32 t200.length co32 : Value).ownBlock ∨ some k_ = (.slice Ao33 t204.length co33 : Value).ownBlock) rfl rfl ?aP (fun k_ hk_ => hk_.elim (fun h_ => ((Kd.R_mono (ok' := fun k_ => ((fun _ => True)) k_ ∧ some k_ ≠ (u6 : Value).ownBlock) (Kd.R_apart' (HO202.out) (Kd.S_typed HO_6.out) (by decide)) (fun k_ hk => ⟨trivial, hk.2⟩))).1 k_ h_.symm) (fun h_ => ((Kd.R_mono (ok' := fun k_ => ((fun _ => True)) k_ ∧ some k_ ≠ (u6 : Value).ownBlock) (Kd.R_apart' (HO206.out) (Kd.S_typed HO_6.out) (by decide)) (fun k_ hk => ⟨trivial, hk.2⟩))).1 k_ h_.symm)) ?aF ?aO ?aB ?aS ?aL ?_; (case aP => exact k41_mkM _ _ _ (⟨t197, t198, t199, t200, t203, t204⟩ : S41) (Kd.R_mono (Kd.R_tight rfl (Kd.R_mono (ok' := fun k_ => ((fun _ => True)) k_ ∧ some k_ ≠ (u6 : Value).ownBlock) (Kd.R_apart' (HO202.out) (Kd.S_typed HO_6.out) (by decide)) (fun k_ hk => ⟨trivial, hk.2⟩))) (fun _ h_ => Or.inl h_)) (Kd.R_mono (Kd.R_tight rfl (Kd.R_mono (ok' := fun k_ => ((fun _ => True)) k_ ∧ some k_ ≠ (u6 : Value).ownBlock) (Kd.R_apart' (HO206.out) (Kd.S_typed HO_6.out) (by decide)) (fun k_ hk => ⟨trivial, hk.2⟩))) (fun _ h_ => Or.inr (h_)))); (case aB => exact zb); (case aF => exact (fun _ _ => trivial)); (case aO => exact (tSm HO_6.out)); (case aS => exact (below_size zb)); (case aL => have := LMc29.out; omega); intro v208 w31 ho hb hg hat; rw [← Ny207.out] at ho; replace HB := Aside0.mk (hb); have HO209 := Aside0.mk (ho); clear HO_6 HO202 HO206; clear ho hb hg hat)); try go_wp2_with (first | (go_at_call 55; (with_reducible refine (spec_l12Copy.calls ((rd_T41 l0 x7_2).f0) ((rd_T41 l0 x7_2).f1) ((rd_T41 l0 x7_2).f2) _ _ ((rd_T41 l0 x7_2).f3) ((rd_T41 l0 x7_2).f4) _ _ ((rd_T41 l0 x7_2).f5) t197 t198 t199 t200 t203 t204 _ ?side1 ?side2 ?side3 ?side4 A28.out).mono ?_); (case side1 => exact tC (Kd.C_below HR196_3.out HB.out)); (case side2 => exact HC196_3.out); (case side3 => exact tC (Kd.C_below HR196_5.out HB.out)); (case side4 => exact HC196_5.out); rintro e w30 ⟨v201, v205, rfl, ho0, ho1, hb⟩; have u_v201 := tsv Try.prog v201 ho0; have u_v205 := tsv Try.prog v205 ho1; replace HO_6 := Aside0.mk (Kd.S_mono (Kd.S_told (Kd.S_told (Kd.S_old (tS HO_6.out) hb) (Kd.R_base ho0)) (Kd.R_base ho1)) (fun _ h_ => h_.1)); have HO202 := tRl ho0 HB; have HO206 := tRl ho1 HB; replace HB := tBs HB hb; (try clear hb); (try clear hb2); (try clear hk); (try clear hi); (try clear ho0); (try clear ho1); obtain ⟨Ao32, co32, eo32⟩ := Kd.R_slice HO202.out; subst eo32; obtain ⟨Ao33, co33, eo33⟩ := Kd.R_slice HO206.out; subst eo33) | ((with_reducible refine gate_builtin (b := .append) (xs := #[.tmp 60, .tmp 66]) rfl ?_); (try (refine gate_guard (by rfl) ?_; dsimp only)); at_builtin; refine Kd.S_append k41 (w0 := w) w.heap.size rfl (.tmp 60) (.tmp 66) 32 41 (.agg #[(.int .i64 0), (.int .i64 0), (.bool false), (.slice none 0 0), (.bool false), (.slice none 0 0)]) 80 rfl Try.underlying32 info41 rfl (by decide) (by omega) u6 x6_2 (⟨t197, t198, t199, t200, t203, t204⟩ : S41) [.int .i64 t197, .int .i64 t198, .bool t199, .slice Ao32 t200.length co32, .bool t203, .slice Ao33 t204.length co33] (fun _ => True) (fun k_ => some k_ = (.slice Ao32 t200.length co32 : Value).ownBlock ∨ some k_ = (.slice Ao33 t204.length co33 : Value).ownBlock) rfl rfl ?aP (fun k_ hk_ => hk_.elim (fun h_ => ((Kd.R_mono (ok' := fun k_ => ((fun _ => True)) k_ ∧ some k_ ≠ (u6 : Value).ownBlock) (Kd.R_apart' (HO202.out) (Kd.S_typed HO_6.out) (by decide)) (fun k_ hk => ⟨trivial, hk.2⟩))).1 k_ h_.symm) (fun h_ => ((Kd.R_mono (ok' := fun k_ => ((fun _ => True)) k_ ∧ some k_ ≠ (u6 : Value).ownBlock) (Kd.R_apart' (HO206.out) (Kd.S_typed HO_6.out) (by decide)) (fun k_ hk => ⟨trivial, hk.2⟩))).1 k_ h_.symm)) ?aF ?aO ?aB ?aS ?aL ?_; (case aP => exact k41_mkM _ _ _ (⟨t197, t198, t199, t200, t203, t204⟩ : S41) (Kd.R_mono (Kd.R_tight rfl (Kd.R_mono (ok' := fun k_ => ((fun _ => True)) k_ ∧ some k_ ≠ (u6 : Value).ownBlock) (Kd.R_apart' (HO202.out) (Kd.S_typed HO_6.out) (by decide)) (fun k_ hk => ⟨trivial, hk.2⟩))) (fun _ h_ => Or.inl h_)) (Kd.R_mono (Kd.R_tight rfl (Kd.R_mono (ok' := fun k_ => ((fun _ => True)) k_ ∧ some k_ ≠ (u6 : Value).ownBlock) (Kd.R_apart' (HO206.out) (Kd.S_typed HO_6.out) (by decide)) (fun k_ hk => ⟨trivial, hk.2⟩))) (fun _ h_ => Or.inr (h_)))); (case aB => exact zb); (case aF => exact (fun _ _ => trivial)); (case aO => exact (tSm HO_6.out)); (case aS => exact (below_size zb)); (case aL => have := LMc29.out; omega); intro v208 w31 ho hb hg hat; rw [← Ny207.out] at ho; replace HB := Aside0.mk (hb); have HO209 := Aside0.mk (ho); clear HO_6 HO202 HO206; clear ho hb hg hat)))
               go_roundg kj18
               case measure => have := HJ2.out; have := HK2.out; have := HJ15.out; have := HJ18.out; omega
               case rel => exact ⟨(y207), (wrap64 (x7_2 + 1)), (x8_2), tr, tr, H', ⟨by have := HJ2.out; have := HK2.out; have := HJ15.out; have := HJ18.out; omega⟩, ⟨tS HO209.out⟩, ⟨zb⟩⟩
              ·rw [if_neg c29] at H
               exact absurd H (by simp)
             ·rw [if_neg c27] at H
              exact absurd H (by simp)
            ·rw [if_neg c26] at H
             exact absurd H (by simp)
           ·replace c25 := Bool.eq_false_iff.mpr c25
            subst c25
            rw [if_neg (show ¬ (false = true) by decide)] at H
            by_cases c34 : 0 ≤ x8_2
            ·rw [if_pos c34] at H
             have c34b0 : decide (0 ≤ x8_2) = true := decide_eq_true c34
             clear c34
             by_cases c35 : x8_2 < (l1.length : Int)
             ·rw [if_pos c35] at H
              have c35b0 : decide (x8_2 < (l1.length : Int)) = true := decide_eq_true c35
              clear c35
              replace H := tbe H
              obtain ⟨⟨t211, t212, t213, t214, t217, t218⟩, A36, H⟩ := H
              dsimp only at H
              by_cases c37 : x6_2.length < 1759218604441
              ·rw [if_pos c37] at H
               have LMc37 := Aside0.mk c37
               clear c37
               obtain ⟨y221, hy221⟩ : ∃ y_ : List (S41), y_ = (x6_2 ++ [(⟨t211, t212, t213, t214, t217, t218⟩ : S41)]) := ⟨_, rfl⟩
               replace H : (spec_RecordsMerge.l0 kj18 l0 l1 y221 x7_2 (wrap64 (x8_2 + 1))) = some (r1, r2) := by first | (rw [hy221]; with_reducible exact H) | (have H2_ := (Option.bind_some _ _).symm.trans H; rw [hy221]; with_reducible exact H2_) | (have H2_ := (Option.bind_some _ _).symm.trans H; with_reducible exact H2_) | with_reducible exact H | (rw [hy221]; exact H) | exact H
               have Ny221 := Aside0.mk hy221
               clear hy221
               have H' := Aside0.mk H
               clear H
               have p210 : 0 ≤ (x8_2 : Int) := td
               have q210 : x8_2 < (l1.length : Int) := td
               obtain ⟨ad210, A210_3, c210_3, A210_5, c210_5, e210, hx210_0, hx210_1, hx210_2, hx210_3, hx210_4, hx210_5, hl210_3, hi210_3, hl210_5, hi210_5⟩ := at_T41 HR1.out x8_2 p210 q210
               cases e210
               replace hx210_0 := tcl HB hx210_0
               replace hx210_1 := tcl HB hx210_1
               replace hx210_2 := tcl HB hx210_2
               replace hx210_3 := tcl HB hx210_3
               replace hx210_4 := tcl HB hx210_4
               replace hx210_5 := tcl HB hx210_5
               have HR210_3 := Aside0.mk hi210_3
               have HC210_3 := Aside0.mk hl210_3
               clear hi210_3 hl210_3
               have HR210_5 := Aside0.mk hi210_5
               have HC210_5 := Aside0.mk hl210_5
               clear hi210_5 hl210_5
               replace p210 := eq_true p210
               replace q210 := eq_true q210
               go_wp2_with (first | (go_at_call 55; (with_reducible refine (spec_l12Copy.calls ((rd_T41 l1 x8_2).f0) ((rd_T41 l1 x8_2).f1) ((rd_T41 l1 x8_2).f2) _ _ ((rd_T41 l1 x8_2).f3) ((rd_T41 l1 x8_2).f4) _ _ ((rd_T41 l1 x8_2).f5) t211 t212 t213 t214 t217 t218 _ ?side1 ?side2 ?side3 ?side4 A36.out).mono ?_); (case side1 => exact tC (Kd.C_below HR210_3.out HB.out)); (case side2 => exact HC210_3.out); (case side3 => exact tC (Kd.C_below HR210_5.out HB.out)); (case side4 => exact HC210_5.out); rintro e w38 ⟨v215, v219, rfl, ho0, ho1, hb⟩; have u_v215 := tsv Try.prog v215 ho0; have u_v219 := tsv Try.prog v219 ho1; replace HO_6 := Aside0.mk (Kd.S_mono (Kd.S_told (Kd.S_told (Kd.S_old (tS HO_6.out) hb) (Kd.R_base ho0)) (Kd.R_base ho1)) (fun _ h_ => h_.1)); have HO216 := tRl ho0 HB; have HO220 := tRl ho1 HB; replace HB := tBs HB hb; (try clear hb); (try clear hb2); (try clear hk); (try clear hi); (try clear ho0); (try clear ho1); obtain ⟨Ao40, co40, eo40⟩ := Kd.R_slice HO216.out; subst eo40; obtain ⟨Ao41, co41, eo41⟩ := Kd.R_slice HO220.out; subst eo41) | ((with_reducible refine gate_builtin (b := .append) (xs := #[.tmp 70, .tmp 76]) rfl ?_); (try (refine gate_guard (by rfl) ?_; dsimp only)); at_builtin; refine Kd.S_append k41 (w0 := w) w.heap.size rfl (.tmp 70) (.tmp 76) 32 41 (.agg #[(.int .i64 0), (.int .i64 0), (.bool false), (.slice none 0 0), (.bool false), (.slice none 0 0)]) 80 rfl Try.underlying32 info41 rfl (by decide) (by omega) u6 x6_2 (⟨t211, t212, t213, t214, t217, t218⟩ : S41) [.int .i64 t211, .int .i64 t212, .bool t213, .slice Ao40 t214.length co40, .bool t217, .slice Ao41 t218.length co41] (fun _ => True) (fun k_ => some k_ = (.slice Ao40 t214.length co40 : Value).ownBlock ∨ some k_ = (.slice Ao41 t218.length co41 : Value).ownBlock) rfl rfl ?aP (fun k_ hk_ => hk_.elim (fun h_ => ((Kd.R_mono (ok' := fun k_ => ((fun _ => True)) k_ ∧ some k_ ≠ (u6 : Value).ownBlock) (Kd.R_apart' (HO216.out) (Kd.S_typed HO_6.out) (by decide)) (fun k_ hk => ⟨trivial, hk.2⟩))).1 k_ h_.symm) (fun h_ => ((Kd.R_mono (ok' := fun k_ => ((fun _ => True)) k_ ∧ some k_ ≠ (u6 : Value).ownBlock) (Kd.R_apart' (HO220.out) (Kd.S_typed HO_6.out) (by decide)) (fun k_ hk => ⟨trivial, hk.2⟩))).1 k_ h_.symm)) ?aF ?aO ?aB ?aS ?aL ?_; (case aP => exact k41_mkM _ _ _ (⟨t211, t212, t213, t214, t217, t218⟩ : S41) (Kd.R_mono (Kd.R_tight rfl (Kd.R_mono (ok' := fun k_ => ((fun _ => True)) k_ ∧ some k_ ≠ (u6 : Value).ownBlock) (Kd.R_apart' (HO216.out) (Kd.S_typed HO_6.out) (by decide)) (fun k_ hk => ⟨trivial, hk.2⟩))) (fun _ h_ => Or.inl h_)) (Kd.R_mono (Kd.R_tight rfl (Kd.R_mono (ok' := fun k_ => ((fun _ => True)) k_ ∧ some k_ ≠ (u6 : Value).ownBlock) (Kd.R_apart' (HO220.out) (Kd.S_typed HO_6.out) (by decide)) (fun k_ hk => ⟨trivial, hk.2⟩))) (fun _ h_ => Or.inr (h_)))); (case aB => exact zb); (case aF => exact (fun _ _ => trivial)); (case aO => exact (tSm HO_6.out)); (case aS => exact (below_size zb)); (case aL => have := LMc37.out; omega); intro v222 w39 ho hb hg hat; rw [← Ny221.out] at ho; replace HB := Aside0.mk (hb); have HO223 := Aside0.mk (ho); clear HO_6 HO216 HO220; clear ho hb hg hat))
               repeat (go_quiet (first | (go_at_call 55; (with_reducible refine (spec_l12Copy.calls ((rd_T41 l1 x8_2).f0) ((rd_T41 l1 x8_2).f1) ((rd_T41 l1 x8_2).f2) _ _ ((rd_T41 l1 x8_2).f3) ((rd_T41 l1 x8_2).f4) _ _ ((rd_T41 l1 x8_2).f5) t211 t212 t213 t214 t217 t218 _ ?side1 ?side2 ?side3 ?side4 A36.out).mono ?_); (case side1 => exact tC (Kd.C_below HR210_3.out HB.out)); (case side2 => exact HC210_3.out); (case side3 => exact tC (Kd.C_below HR210_5.out HB.out)); (case side4 => exact HC210_5.out); rintro e w38 ⟨v215, v219, rfl, ho0, ho1, hb⟩; have u_v215 := tsv Try.prog v215 ho0; have u_v219 := tsv Try.prog v219 ho1; replace HO_6 := Aside0.mk (Kd.S_mono (Kd.S_told (Kd.S_told (Kd.S_old (tS HO_6.out) hb) (Kd.R_base ho0)) (Kd.R_base ho1)) (fun _ h_ => h_.1)); have HO216 := tRl ho0 HB; have HO220 := tRl ho1 HB; replace HB := tBs HB hb; (try clear hb); (try clear hb2); (try clear hk); (try clear hi); (try clear ho0); (try clear ho1); obtain ⟨Ao40, co40, eo40⟩ := Kd.R_slice HO216.out; subst eo40; obtain ⟨Ao41, co41, eo41⟩ := Kd.R_slice HO220.out; subst eo41) | ((with_reducible refine gate_builtin (b := .append) (xs := #[.tmp 70, .tmp 76]) rfl ?_); (try (refine gate_guard (by rfl) ?_; dsimp only)); at_builtin; refine Kd.S_append k41 (w0 := w) w.heap.size rfl (.tmp 70) (.tmp 76) 32 41 (.agg #[(.int .i64 0), (.int .i64 0), (.bool false), (.slice none 0 0), (.bool false), (.slice none 0 0)]) 80 rfl Try.underlying32 info41 rfl (by decide) (by omega) u6 x6_2 (⟨t211, t212, t213, t214, t217, t218⟩ : S41) [.int .i64 t211, .int .i64 t212, .bool t213, .slice Ao40 t214.length co40, .bool t217, .slice Ao41 t218.length co41] (fun _ => True) (fun k_ => some k_ = (.slice Ao40 t214.length co40 : Value).ownBlock ∨ some k_ = (.slice Ao41 t218.length co41 : Value).ownBlock) rfl rfl ?aP (fun k_ hk_ => hk_.elim (fun h_ => ((Kd.R_mono (ok' := fun k_ => ((fun _ => True)) k_ ∧ some k_ ≠ (u6 : Value).ownBlock) (Kd.R_apart' (HO216.out) (Kd.S_typed HO_6.out) (by decide)) (fun k_ hk => ⟨trivial, hk.2⟩))).1 k_ h_.symm) (fun h_ => ((Kd.R_mono (ok' := fun k_ => ((fun _ => True)) k_ ∧ some k_ ≠ (u6 : Value).ownBlock) (Kd.R_apart' (HO220.out) (Kd.S_typed HO_6.out) (by decide)) (fun k_ hk => ⟨trivial, hk.2⟩))).1 k_ h_.symm)) ?aF ?aO ?aB ?aS ?aL ?_; (case aP => exact k41_mkM _ _ _ (⟨t211, t212, t213, t214, t217, t218⟩ : S41) (Kd.R_mono (Kd.R_tight rfl (Kd.R_mono (ok' := fun k_ => ((fun _ => True)) k_ ∧ some k_ ≠ (u6 : Value).ownBlock) (Kd.R_apart' (HO216.out) (Kd.S_typed HO_6.out) (by decide)) (fun k_ hk => ⟨trivial, hk.2⟩))) (fun _ h_ => Or.inl h_)) (Kd.R_mono (Kd.R_tight rfl (Kd.R_mono (ok' := fun k_ => ((fun _ => True)) k_ ∧ some k_ ≠ (u6 : Value).ownBlock) (Kd.R_apart' (HO220.out) (Kd.S_typed HO_6.out) (by decide)) (fun k_ hk => ⟨trivial, hk.2⟩))) (fun _ h_ => Or.inr (h_)))); (case aB => exact zb); (case aF => exact (fun _ _ => trivial)); (case aO => exact (tSm HO_6.out)); (case aS => exact (below_size zb)); (case aL => have := LMc37.out; omega); intro v222 w39 ho hb hg hat; rw [← Ny221.out] at ho; replace HB := Aside0.mk (hb); have HO223 := Aside0.mk (ho); clear HO_6 HO216 HO220; clear ho hb hg hat)); try go_wp2_with (first | (go_at_call 55; (with_reducible refine (spec_l12Copy.calls ((rd_T41 l1 x8_2).f0) ((rd_T41 l1 x8_2).f1) ((rd_T41 l1 x8_2).f2) _ _ ((rd_T41 l1 x8_2).f3) ((rd_T41 l1 x8_2).f4) _ _ ((rd_T41 l1 x8_2).f5) t211 t212 t213 t214 t217 t218 _ ?side1 ?side2 ?side3 ?side4 A36.out).mono ?_); (case side1 => exact tC (Kd.C_below HR210_3.out HB.out)); (case side2 => exact HC210_3.out); (case side3 => exact tC (Kd.C_below HR210_5.out HB.out)); (case side4 => exact HC210_5.out); rintro e w38 ⟨v215, v219, rfl, ho0, ho1, hb⟩; have u_v215 := tsv Try.prog v215 ho0; have u_v219 := tsv Try.prog v219 ho1; replace HO_6 := Aside0.mk (Kd.S_mono (Kd.S_told (Kd.S_told (Kd.S_old (tS HO_6.out) hb) (Kd.R_base ho0)) (Kd.R_base ho1)) (fun _ h_ => h_.1)); have HO216 := tRl ho0 HB; have HO220 := tRl ho1 HB; replace HB := tBs HB hb; (try clear hb); (try clear hb2); (try clear hk); (try clear hi); (try clear ho0); (try clear ho1); obtain ⟨Ao40, co40, eo40⟩ := Kd.R_slice HO216.out; subst eo40; obtain ⟨Ao41, co41, eo41⟩ := Kd.R_slice HO220.out; subst eo41) | ((with_reducible refine gate_builtin (b := .append) (xs := #[.tmp 70, .tmp 76]) rfl ?_); (try (refine gate_guard (by rfl) ?_; dsimp only)); at_builtin; refine Kd.S_append k41 (w0 := w) w.heap.size rfl (.tmp 70) (.tmp 76) 32 41 (.agg #[(.int .i64 0), (.int .i64 0), (.bool false), (.slice none 0 0), (.bool false), (.slice none 0 0)]) 80 rfl Try.underlying32 info41 rfl (by decide) (by omega) u6 x6_2 (⟨t211, t212, t213, t214, t217, t218⟩ : S41) [.int .i64 t211, .int .i64 t212, .bool t213, .slice Ao40 t214.length co40, .bool t217, .slice Ao41 t218.length co41] (fun _ => True) (fun k_ => some k_ = (.slice Ao40 t214.length co40 : Value).ownBlock ∨ some k_ = (.slice Ao41 t218.length co41 : Value).ownBlock) rfl rfl ?aP (fun k_ hk_ => hk_.elim (fun h_ => ((Kd.R_mono (ok' := fun k_ => ((fun _ => True)) k_ ∧ some k_ ≠ (u6 : Value).ownBlock) (Kd.R_apart' (HO216.out) (Kd.S_typed HO_6.out) (by decide)) (fun k_ hk => ⟨trivial, hk.2⟩))).1 k_ h_.symm) (fun h_ => ((Kd.R_mono (ok' := fun k_ => ((fun _ => True)) k_ ∧ some k_ ≠ (u6 : Value).ownBlock) (Kd.R_apart' (HO220.out) (Kd.S_typed HO_6.out) (by decide)) (fun k_ hk => ⟨trivial, hk.2⟩))).1 k_ h_.symm)) ?aF ?aO ?aB ?aS ?aL ?_; (case aP => exact k41_mkM _ _ _ (⟨t211, t212, t213, t214, t217, t218⟩ : S41) (Kd.R_mono (Kd.R_tight rfl (Kd.R_mono (ok' := fun k_ => ((fun _ => True)) k_ ∧ some k_ ≠ (u6 : Value).ownBlock) (Kd.R_apart' (HO216.out) (Kd.S_typed HO_6.out) (by decide)) (fun k_ hk => ⟨trivial, hk.2⟩))) (fun _ h_ => Or.inl h_)) (Kd.R_mono (Kd.R_tight rfl (Kd.R_mono (ok' := fun k_ => ((fun _ => True)) k_ ∧ some k_ ≠ (u6 : Value).ownBlock) (Kd.R_apart' (HO220.out) (Kd.S_typed HO_6.out) (by decide)) (fun k_ hk => ⟨trivial, hk.2⟩))) (fun _ h_ => Or.inr (h_)))); (case aB => exact zb); (case aF => exact (fun _ _ => trivial)); (case aO => exact (tSm HO_6.out)); (case aS => exact (below_size zb)); (case aL => have := LMc37.out; omega); intro v222 w39 ho hb hg hat; rw [← Ny221.out] at ho; replace HB := Aside0.mk (hb); have HO223 := Aside0.mk (ho); clear HO_6 HO216 HO220; clear ho hb hg hat)))
               go_roundg kj18
               case measure => have := HJ2.out; have := HK2.out; have := HJ15.out; have := HJ18.out; omega
               case rel => exact ⟨(y221), (x7_2), (wrap64 (x8_2 + 1)), tr, tr, H', ⟨by have := HJ2.out; have := HK2.out; have := HJ15.out; have := HJ18.out; omega⟩, ⟨tS HO223.out⟩, ⟨zb⟩⟩
              ·rw [if_neg c37] at H
               exact absurd H (by simp)
             ·rw [if_neg c35] at H
              exact absurd H (by simp)
            ·rw [if_neg c34] at H
             exact absurd H (by simp)
        ·replace c18 := Bool.eq_false_iff.mpr c18
         subst c18
         rw [if_neg (show ¬ (false = true) by decide)] at H
         simp only [Option.some.injEq, Prod.mk.injEq] at H
         obtain ⟨rfl, rfl⟩ := H
         go_wp2
         repeat (go_quiet (fail); try go_wp2)
         go_ret2
         exact ⟨_, by first | rfl | (simp [errW_none, errW_some] <;> rfl) | (simp [*, errW_none, errW_some] <;> rfl), tS HO_6.out, zb⟩

def laws_markIntS.l0 : Nat → List Int → Int → Int → Option (Int × List Int)
 | 0, _, _, _ => none
 | k + 1, x0, x1, x5 => if x5 < (x0.length : Int) then (if 0 ≤ x5 then (laws_markIntS.l0 k (x0.set (x5 : Int).toNat x1) (wrap64 (x1 + 1)) (wrap64 (x5 + 1))) else (none)) else (some (x1, x0))
def laws_markIntS.f (k : Nat) (l0 : List Int) (a1 : Int) : Option (Int × List Int) := laws_markIntS.l0 k l0 a1 0
set_option maxHeartbeats 8000000 in
set_option maxRecDepth 100000 in
theorem laws_markIntS.calls (k : Nat) (P0_ : Nat → Prop) (u9000_ : Value) (l0 : List Int) (a1 : Int) (r1 : Int) (r2 : List Int) (w0 w : World) (hB : Below w0.heap.size w0 w) (ho0 : Kd.R (Kd.int .i64) 3 w w0.heap.size P0_ u9000_ l0) (h : laws_markIntS.f k l0 a1 = some (r1, r2)) :
  Calls Try.prog 56 #[u9000_, .int .i64 a1] w fun e w' => e = .returned (.int .i64 r1) ∧ Kd.R (Kd.int .i64) 3 w' w0.heap.size (fun k_ => (P0_ k_ ∨ w.heap.size ≤ k_)) u9000_ r2 ∧ Below w0.heap.size w0 w' ∧ Kept w w' (fun k_ => P0_ k_) := by
 have HO0 := Aside0.mk (show Kd.R (Kd.int .i64) 3 w w0.heap.size (fun k_ => (P0_ k_ ∨ w.heap.size ≤ k_)) u9000_ l0 from Kd.R_mono ho0 (fun k_ hk => (.inl hk)))
 have HK := Aside0.mk (Kept.refl w (fun k_ => P0_ k_))
 have HW0 := Aside0.mk hB.size
 have HB := Aside0.mk hB
 clear hB
 have H : (laws_markIntS.l0 k l0 a1 0) = some (r1, r2) := h
 clear h
 have H' := Aside0.mk H
 clear H
 go_enter Try.func56, Try.ntmps56
 go_wp2
 go_loopg [1, 5] k (fun kq v1 v5 w' => ∃ (x0_1 : List Int) (x1_1 : Int) (x5_1 : Int), v1 = .int .i64 x1_1 ∧ v5 = .int .i64 x5_1 ∧ Aside0 (laws_markIntS.l0 kq x0_1 x1_1 x5_1 = some (r1, r2)) ∧ Aside0 (kq ≤ k) ∧ Aside0 (Kd.R (Kd.int .i64) 3 w' w0.heap.size (fun k_ => (P0_ k_ ∨ w.heap.size ≤ k_)) u9000_ x0_1) ∧ Aside0 (Kept w w' (fun k_ => P0_ k_)) ∧ Aside0 (Below w0.heap.size w0 w'))
 case atStart => exact ⟨(l0), (a1), (0), tr, tr, H', ⟨Nat.le_refl _⟩, ⟨tR HO0.out⟩, ⟨by repeat (first | (with_reducible first | exact HK.out | apply Kept.alloc | apply Kept.drewN | apply Kept.drew) | exact HK.out)⟩, ⟨zb⟩⟩
 case round =>
  clear H'
  obtain ⟨x0_1, x1_1, x5_1, rfl, rfl, HA, HK1, HO_0, HK, HB⟩ := hrel
  cases gk with
  | zero => exact absurd HA.out (by simp [laws_markIntS.l0])
  | succ k1 =>
   have H := HA.out
   clear HA
   simp only [laws_markIntS.l0] at H
   by_cases c3 : x5_1 < (x0_1.length : Int)
   ·rw [if_pos c3] at H
    have c3b0 : decide (x5_1 < (x0_1.length : Int)) = true := decide_eq_true c3
    clear c3
    by_cases c4 : 0 ≤ x5_1
    ·rw [if_pos c4] at H
     have c4b0 : decide (0 ≤ x5_1) = true := decide_eq_true c4
     clear c4
     obtain ⟨y224, hy224⟩ : ∃ y_ : List Int, y_ = (x0_1.set (x5_1 : Int).toNat x1_1) := ⟨_, rfl⟩
     replace H : (laws_markIntS.l0 k1 y224 (wrap64 (x1_1 + 1)) (wrap64 (x5_1 + 1))) = some (r1, r2) := by first | (rw [hy224]; with_reducible exact H) | (have H2_ := (Option.bind_some _ _).symm.trans H; rw [hy224]; with_reducible exact H2_) | (have H2_ := (Option.bind_some _ _).symm.trans H; with_reducible exact H2_) | with_reducible exact H | (rw [hy224]; exact H) | exact H
     have Ny224 := Aside0.mk hy224
     clear hy224
     have H' := Aside0.mk H
     clear H
     obtain ⟨Ao6, co6, eo6⟩ := Kd.R_slice HO_0.out
     subst eo6
     have p5 : 0 ≤ (x5_1 : Int) := td
     have q5 : (x5_1 : Int) < ((x0_1.length : Int) : Int) := td
     obtain ⟨go5, co5, eo5, gb5, gl5, cl5, HG5⟩ := Kd.R_form HO_0.out (by omega)
     (first | cases eo5 | (injection eo5 with ea_ en_ ec_; (first | subst ea_ | (injection ea_ with ea_; subst ea_)); subst ec_; clear en_))
     have GB5 := Aside0.mk gb5
     have GG5 := Aside0.mk HG5
     clear gb5 gl5 HG5
     have HMgo5 := Aside0.mk (show (P0_ go5 ∨ w.heap.size ≤ go5) from (HO_0.out.1 _ rfl))
     obtain ⟨hx5_0, hf5_0⟩ := Kd.R_celln 0 HO_0.out (x5_1 : Int) p5 q5
     replace p5 := eq_true p5
     replace q5 := eq_true q5
     have HP7 := Kd.R_putg HO_0.out (x5_1 : Int) x1_1
     go_wp2_with (first | ((with_reducible refine gate_store (t := 3) (p := 15) rfl ?_); refine store_event (t := 3) (p := 15) (v := ?vo_w8) (w1 := (wr.setCell ⟨go5, (x5_1 : Int).toNat, none⟩ (.int .i64 x1_1))) ?hg ?ho ?hn ?hr ?_; (case ho => rfl); (case hg => rfl); (case hn => rfl); (case hr => first | (go_simp; done) | (go_simp; rfl)); intro w8 hw; have hg : wr.grownBy w8 (some go5) := (by rw [hw]; exact HP7.2); have hp_ : Kd.R (Kd.int .i64) 3 w8 w0.heap.size (fun k_ => (P0_ k_ ∨ w.heap.size ≤ k_)) (.slice (some ⟨go5, 0, none⟩) x0_1.length co6) y224 := (by rw [hw, Ny224.out]; exact HP7.1); clear HP7; replace HB := Aside0.mk ((by rw [hw]; exact below_set (HB.out) GB5.out : Below w0.heap.size w0 w8)); replace HK := Aside0.mk (Kept.of_grown (S := (fun k_ => P0_ k_)) hg (by repeat (first | (with_reducible first | exact HK.out | apply Kept.alloc | apply Kept.drewN | apply Kept.drew) | exact HK.out)) (fun k_ e_ => (HO_0.out.1 k_ e_))); replace HO_0 := Aside0.mk (hp_); clear hg hw hp_))
     go_roundg k1
     case measure => have := HK1.out; omega
     case rel => exact ⟨(y224), (wrap64 (x1_1 + 1)), (wrap64 (x5_1 + 1)), tr, tr, H', ⟨by have := HK1.out; omega⟩, ⟨tR HO_0.out⟩, ⟨by repeat (first | (with_reducible first | exact HK.out | apply Kept.alloc | apply Kept.drewN | apply Kept.drew) | exact HK.out)⟩, ⟨zb⟩⟩
    ·rw [if_neg c4] at H
     exact absurd H (by simp)
   ·rw [if_neg c3] at H
    have c3b0 : decide (x5_1 < (x0_1.length : Int)) = false := decide_eq_false c3
    clear c3
    simp only [Option.some.injEq, Prod.mk.injEq] at H
    obtain ⟨rfl, rfl⟩ := H
    obtain ⟨Ao9, co9, eo9⟩ := Kd.R_slice HO_0.out
    subst eo9
    go_wp2
    go_ret
    exact ⟨by first | rfl | (simp [errW_none, errW_some] <;> rfl) | (simp [*, errW_none, errW_some] <;> rfl), tR HO_0.out, zb, by repeat (first | (with_reducible first | exact HK.out | apply Kept.alloc | apply Kept.drewN | apply Kept.drew) | exact HK.out)⟩

end Go.Proofs.Ythlnbbehcpdnfaa.G

namespace Go.Proofs.Ythlnbbehcpdnfaa.G
open Go.RowKit Go.Proofs.YthlnbbehcpdnfaaW.PrintWords Go.Proofs.YthlnbbehcpdnfaaW.PrintLast Go.Proofs.YthlnbbehcpdnfaaW.PrintMore
attribute [local go_sem] max2_int min2_int max_two min_two max_three min_three max_four min_four   -- for this text's walks alone
set_option linter.unusedVariables false
set_option linter.unusedSimpArgs false

def laws_heldIntS.l0 : Nat → List Int → Int → Int → Option (Int)
 | 0, _, _, _ => none
 | k + 1, x0, x1, x5 => if x5 < (x0.length : Int) then (if 0 ≤ x5 then (if (rd x0 x5) = x1 then (laws_heldIntS.l0 k x0 (wrap64 (x1 + 1)) (wrap64 (x5 + 1))) else (some (-1))) else (none)) else (some x1)
def laws_heldIntS.f (k : Nat) (l0 : List Int) (a1 : Int) : Option (Int) := laws_heldIntS.l0 k l0 a1 0
set_option maxHeartbeats 8000000 in
set_option maxRecDepth 100000 in
theorem laws_heldIntS.calls (k : Nat) (A0 : Option Addr) (c0 : Nat) (l0 : List Int) (a1 : Int) (r : Int) (w : World) (hr0 : Kd.C (Kd.int .i64) w A0 l0.length l0) (hc0 : l0.length ≤ c0) (h : laws_heldIntS.f k l0 a1 = some r) :
  Calls Try.prog 57 #[.slice A0 l0.length c0, .int .i64 a1] w fun e w' => e = .returned (.int .i64 r) ∧ Drawn0 w w' := by
 have HR0 := Aside0.mk hr0
 have HC0 := Aside0.mk hc0
 clear hr0 hc0
 have H : (laws_heldIntS.l0 k l0 a1 0) = some r := h
 clear h
 have H' := Aside0.mk H
 clear H
 go_enter Try.func57, Try.ntmps57
 go_wp2
 go_loopg [1, 5] k (fun kq v1 v5 w' => ∃ (x1_1 : Int) (x5_1 : Int), v1 = .int .i64 x1_1 ∧ v5 = .int .i64 x5_1 ∧ Aside0 (laws_heldIntS.l0 kq l0 x1_1 x5_1 = some r) ∧ Aside0 (kq ≤ k) ∧ Drawn0 w w')
 case atStart => exact ⟨(a1), (0), tr, tr, H', ⟨Nat.le_refl _⟩, by repeat (first | exact Drawn0.refl _ | apply Drawn0.step)⟩
 case round =>
  clear H'
  obtain ⟨x1_1, x5_1, rfl, rfl, HA, HK1, ⟨m1, rfl⟩⟩ := hrel
  cases gk with
  | zero => exact absurd HA.out (by simp [laws_heldIntS.l0])
  | succ k1 =>
   have H := HA.out
   clear HA
   simp only [laws_heldIntS.l0] at H
   by_cases c3 : x5_1 < (l0.length : Int)
   ·rw [if_pos c3] at H
    have c3b0 : decide (x5_1 < (l0.length : Int)) = true := decide_eq_true c3
    clear c3
    by_cases c4 : 0 ≤ x5_1
    ·rw [if_pos c4] at H
     have c4b0 : decide (0 ≤ x5_1) = true := decide_eq_true c4
     clear c4
     by_cases c5 : (rd l0 x5_1) = x1_1
     ·rw [if_pos c5] at H
      have c5b0 : ((rd l0 x5_1) == x1_1) = true := beq_iff_eq.mpr c5
      have c5b1 : ((rd l0 x5_1) != x1_1) = false := bne_eq_false_iff_eq.mpr c5
      clear c5
      have H' := Aside0.mk H
      clear H
      have p225 : 0 ≤ (x5_1 : Int) := td
      have q225 : x5_1 < (l0.length : Int) := td
      obtain ⟨ad225, e225, hx225_0⟩ := Kd.at_int HR0.out x5_1 p225 q225
      cases e225
      replace p225 := eq_true p225
      replace q225 := eq_true q225
      go_wp2
      go_roundg k1
      case measure => have := HK1.out; omega
      case rel => exact ⟨(wrap64 (x1_1 + 1)), (wrap64 (x5_1 + 1)), tr, tr, H', ⟨by have := HK1.out; omega⟩, by repeat (first | exact Drawn0.refl _ | apply Drawn0.step)⟩
     ·rw [if_neg c5] at H
      have c5b0 : ((rd l0 x5_1) == x1_1) = false := beq_eq_false_iff_ne.mpr c5
      have c5b1 : ((rd l0 x5_1) != x1_1) = true := bne_iff_ne.mpr c5
      obtain rfl := Option.some.inj H
      have p225 : 0 ≤ (x5_1 : Int) := td
      have q225 : x5_1 < (l0.length : Int) := td
      obtain ⟨ad225, e225, hx225_0⟩ := Kd.at_int HR0.out x5_1 p225 q225
      cases e225
      replace p225 := eq_true p225
      replace q225 := eq_true q225
      go_wp2
      go_ret
      exact ⟨by first | rfl | (simp; done) | (simp [*]; done), by repeat (first | exact Drawn0.refl _ | apply Drawn0.step)⟩
    ·rw [if_neg c4] at H
     exact absurd H (by simp)
   ·rw [if_neg c3] at H
    have c3b0 : decide (x5_1 < (l0.length : Int)) = false := decide_eq_false c3
    clear c3
    obtain rfl := Option.some.inj H
    go_wp2
    go_ret
    exact ⟨by first | rfl | (simp; done) | (simp [*]; done), by repeat (first | exact Drawn0.refl _ | apply Drawn0.step)⟩

def laws_heldRecordS.l0 : Nat → List (S41) → Int → Int → Option (Int)
 | 0, _, _, _ => none
 | k + 1, x0, x1, x5 => if x5 < (x0.length : Int) then (if 0 ≤ x5 then (if ((rd_T41 x0 x5).f0) = x1 then (if ((rd_T41 x0 x5).f1) = (wrap64 (x1 + 1)) then (if (((rd_T41 x0 x5).f2) != ((Int.tmod (wrap64 ((wrap64 (x1 + 1)) + 1)) 3) == 0)) = true then (some (-1)) else ((laws_heldIntS.f k ((rd_T41 x0 x5).f3) (wrap64 ((wrap64 ((wrap64 (x1 + 1)) + 1)) + 1))).bind fun t230 => (if t230 < 0 then (some (-1)) else (if (((rd_T41 x0 x5).f4) != ((Int.tmod t230 3) == 0)) = true then (some (-1)) else ((laws_heldIntS.f k ((rd_T41 x0 x5).f5) (wrap64 (t230 + 1))).bind fun t233 => (if t233 < 0 then (some (-1)) else (laws_heldRecordS.l0 k x0 t233 (wrap64 (x5 + 1))))))))) else (some (-1))) else (some (-1))) else (none)) else (some x1)
def laws_heldRecordS.f (k : Nat) (l0 : List (S41)) (a1 : Int) : Option (Int) := laws_heldRecordS.l0 k l0 a1 0
set_option maxHeartbeats 8000000 in
set_option maxRecDepth 100000 in
theorem laws_heldRecordS.calls (k : Nat) (A0 : Option Addr) (c0 : Nat) (l0 : List (S41)) (a1 : Int) (r : Int) (w : World) (hr0 : Kd.C k41 w A0 l0.length l0) (hc0 : l0.length ≤ c0) (h : laws_heldRecordS.f k l0 a1 = some r) :
  Calls Try.prog 36 #[.slice A0 l0.length c0, .int .i64 a1] w fun e w' => e = .returned (.int .i64 r) ∧ Drawn0 w w' := by
 have HR0 := Aside0.mk hr0
 have HC0 := Aside0.mk hc0
 clear hr0 hc0
 have H : (laws_heldRecordS.l0 k l0 a1 0) = some r := h
 clear h
 have H' := Aside0.mk H
 clear H
 go_enter Try.func36, Try.ntmps36
 go_wp2
 go_loopg [1, 5] k (fun kq v1 v5 w' => ∃ (x1_1 : Int) (x5_1 : Int), v1 = .int .i64 x1_1 ∧ v5 = .int .i64 x5_1 ∧ Aside0 (laws_heldRecordS.l0 kq l0 x1_1 x5_1 = some r) ∧ Aside0 (kq ≤ k) ∧ Drawn0 w w')
 case atStart => exact ⟨(a1), (0), tr, tr, H', ⟨Nat.le_refl _⟩, by repeat (first | exact Drawn0.refl _ | apply Drawn0.step)⟩
 case round =>
  clear H'
  obtain ⟨x1_1, x5_1, rfl, rfl, HA, HK1, ⟨m1, rfl⟩⟩ := hrel
  cases gk with
  | zero => exact absurd HA.out (by simp [laws_heldRecordS.l0])
  | succ k1 =>
   have H := HA.out
   clear HA
   simp only [laws_heldRecordS.l0] at H
   by_cases c3 : x5_1 < (l0.length : Int)
   ·rw [if_pos c3] at H
    have c3b0 : decide (x5_1 < (l0.length : Int)) = true := decide_eq_true c3
    clear c3
    by_cases c4 : 0 ≤ x5_1
    ·rw [if_pos c4] at H
     have c4b0 : decide (0 ≤ x5_1) = true := decide_eq_true c4
     clear c4
     by_cases c5 : ((rd_T41 l0 x5_1).f0) = x1_1
     ·rw [if_pos c5] at H
      have c5b0 : (((rd_T41 l0 x5_1).f0) == x1_1) = true := beq_iff_eq.mpr c5
      have c5b1 : (((rd_T41 l0 x5_1).f0) != x1_1) = false := bne_eq_false_iff_eq.mpr c5
      clear c5
      by_cases c6 : ((rd_T41 l0 x5_1).f1) = (wrap64 (x1_1 + 1))
      ·rw [if_pos c6] at H
       have c6b0 : (((rd_T41 l0 x5_1).f1) == (wrap64 (x1_1 + 1))) = true := beq_iff_eq.mpr c6
       have c6b1 : (((rd_T41 l0 x5_1).f1) != (wrap64 (x1_1 + 1))) = false := bne_eq_false_iff_eq.mpr c6
       clear c6
       by_cases c7 : (((rd_T41 l0 x5_1).f2) != ((Int.tmod (wrap64 ((wrap64 (x1_1 + 1)) + 1)) 3) == 0)) = true
       ·rw [if_pos c7] at H
        have c7b0 : (((rd_T41 l0 x5_1).f2) != ((Int.tmod (wrap64 ((wrap64 (x1_1 + 1)) + 1)) 3) == 0)) = true := c7
        (try (have c7b1 : decide (((rd_T41 l0 x5_1).f2) = ((Int.tmod (wrap64 ((wrap64 (x1_1 + 1)) + 1)) 3) == 0)) = false := by simpa using c7))
        (try (have c7b2 : (((rd_T41 l0 x5_1).f2) == ((Int.tmod (wrap64 ((wrap64 (x1_1 + 1)) + 1)) 3) == 0)) = false := by simpa using c7))
        (try (have c7b3 : ¬ (((rd_T41 l0 x5_1).f2) = ((Int.tmod (wrap64 ((wrap64 (x1_1 + 1)) + 1)) 3) == 0)) := by simpa using c7))
        clear c7
        obtain rfl := Option.some.inj H
        have p226 : 0 ≤ (x5_1 : Int) := td
        have q226 : x5_1 < (l0.length : Int) := td
        obtain ⟨ad226, A226_3, c226_3, A226_5, c226_5, e226, hx226_0, hx226_1, hx226_2, hx226_3, hx226_4, hx226_5, hl226_3, hi226_3, hl226_5, hi226_5⟩ := at_T41 HR0.out x5_1 p226 q226
        cases e226
        have HR226_3 := Aside0.mk hi226_3
        have HC226_3 := Aside0.mk hl226_3
        clear hi226_3 hl226_3
        have HR226_5 := Aside0.mk hi226_5
        have HC226_5 := Aside0.mk hl226_5
        clear hi226_5 hl226_5
        replace p226 := eq_true p226
        replace q226 := eq_true q226
        have p227 : 0 ≤ (x5_1 : Int) := td
        have q227 : x5_1 < (l0.length : Int) := td
        obtain ⟨ad227, A227_3, c227_3, A227_5, c227_5, e227, hx227_0, hx227_1, hx227_2, hx227_3, hx227_4, hx227_5, hl227_3, hi227_3, hl227_5, hi227_5⟩ := at_T41 HR0.out x5_1 p227 q227
        obtain rfl : ad226 = ad227 := (by injection e227)
        have HR227_3 := Aside0.mk hi227_3
        have HC227_3 := Aside0.mk hl227_3
        clear hi227_3 hl227_3
        have HR227_5 := Aside0.mk hi227_5
        have HC227_5 := Aside0.mk hl227_5
        clear hi227_5 hl227_5
        replace p227 := eq_true p227
        replace q227 := eq_true q227
        have ea_ := Option.some.inj (hx226_3.symm.trans hx227_3)
        injection ea_ with ea_ en_ ec_
        subst ea_
        subst ec_
        clear en_
        have ea_ := Option.some.inj (hx226_5.symm.trans hx227_5)
        injection ea_ with ea_ en_ ec_
        subst ea_
        subst ec_
        clear en_
        have p228 : 0 ≤ (x5_1 : Int) := td
        have q228 : x5_1 < (l0.length : Int) := td
        obtain ⟨ad228, A228_3, c228_3, A228_5, c228_5, e228, hx228_0, hx228_1, hx228_2, hx228_3, hx228_4, hx228_5, hl228_3, hi228_3, hl228_5, hi228_5⟩ := at_T41 HR0.out x5_1 p228 q228
        obtain rfl : ad226 = ad228 := (by injection e228)
        have HR228_3 := Aside0.mk hi228_3
        have HC228_3 := Aside0.mk hl228_3
        clear hi228_3 hl228_3
        have HR228_5 := Aside0.mk hi228_5
        have HC228_5 := Aside0.mk hl228_5
        clear hi228_5 hl228_5
        replace p228 := eq_true p228
        replace q228 := eq_true q228
        have ea_ := Option.some.inj (hx226_3.symm.trans hx228_3)
        injection ea_ with ea_ en_ ec_
        subst ea_
        subst ec_
        clear en_
        have ea_ := Option.some.inj (hx226_5.symm.trans hx228_5)
        injection ea_ with ea_ en_ ec_
        subst ea_
        subst ec_
        clear en_
        go_wp2
        go_ret
        exact ⟨by first | rfl | (simp; done) | (simp [*]; done), by repeat (first | exact Drawn0.refl _ | apply Drawn0.step)⟩
       ·rw [if_neg c7] at H
        have c7b0 : (((rd_T41 l0 x5_1).f2) != ((Int.tmod (wrap64 ((wrap64 (x1_1 + 1)) + 1)) 3) == 0)) = false := by simpa using c7
        (try (have c7b1 : decide (((rd_T41 l0 x5_1).f2) = ((Int.tmod (wrap64 ((wrap64 (x1_1 + 1)) + 1)) 3) == 0)) = true := by simpa using c7))
        (try (have c7b2 : (((rd_T41 l0 x5_1).f2) == ((Int.tmod (wrap64 ((wrap64 (x1_1 + 1)) + 1)) 3) == 0)) = true := by simpa using c7))
        clear c7
        replace H := tbe H
        obtain ⟨t230, A8, H⟩ := H
        by_cases c9 : t230 < 0
        ·rw [if_pos c9] at H
         have c9b0 : decide (t230 < 0) = true := decide_eq_true c9
         clear c9
         obtain rfl := Option.some.inj H
         have p226 : 0 ≤ (x5_1 : Int) := td
         have q226 : x5_1 < (l0.length : Int) := td
         obtain ⟨ad226, A226_3, c226_3, A226_5, c226_5, e226, hx226_0, hx226_1, hx226_2, hx226_3, hx226_4, hx226_5, hl226_3, hi226_3, hl226_5, hi226_5⟩ := at_T41 HR0.out x5_1 p226 q226
         cases e226
         have HR226_3 := Aside0.mk hi226_3
         have HC226_3 := Aside0.mk hl226_3
         clear hi226_3 hl226_3
         have HR226_5 := Aside0.mk hi226_5
         have HC226_5 := Aside0.mk hl226_5
         clear hi226_5 hl226_5
         replace p226 := eq_true p226
         replace q226 := eq_true q226
         have p227 : 0 ≤ (x5_1 : Int) := td
         have q227 : x5_1 < (l0.length : Int) := td
         obtain ⟨ad227, A227_3, c227_3, A227_5, c227_5, e227, hx227_0, hx227_1, hx227_2, hx227_3, hx227_4, hx227_5, hl227_3, hi227_3, hl227_5, hi227_5⟩ := at_T41 HR0.out x5_1 p227 q227
         obtain rfl : ad226 = ad227 := (by injection e227)
         have HR227_3 := Aside0.mk hi227_3
         have HC227_3 := Aside0.mk hl227_3
         clear hi227_3 hl227_3
         have HR227_5 := Aside0.mk hi227_5
         have HC227_5 := Aside0.mk hl227_5
         clear hi227_5 hl227_5
         replace p227 := eq_true p227
         replace q227 := eq_true q227
         have ea_ := Option.some.inj (hx226_3.symm.trans hx227_3)
         injection ea_ with ea_ en_ ec_
         subst ea_
         subst ec_
         clear en_
         have ea_ := Option.some.inj (hx226_5.symm.trans hx227_5)
         injection ea_ with ea_ en_ ec_
         subst ea_
         subst ec_
         clear en_
         have p228 : 0 ≤ (x5_1 : Int) := td
         have q228 : x5_1 < (l0.length : Int) := td
         obtain ⟨ad228, A228_3, c228_3, A228_5, c228_5, e228, hx228_0, hx228_1, hx228_2, hx228_3, hx228_4, hx228_5, hl228_3, hi228_3, hl228_5, hi228_5⟩ := at_T41 HR0.out x5_1 p228 q228
         obtain rfl : ad226 = ad228 := (by injection e228)
         have HR228_3 := Aside0.mk hi228_3
         have HC228_3 := Aside0.mk hl228_3
         clear hi228_3 hl228_3
         have HR228_5 := Aside0.mk hi228_5
         have HC228_5 := Aside0.mk hl228_5
         clear hi228_5 hl228_5
         replace p228 := eq_true p228
         replace q228 := eq_true q228
         have ea_ := Option.some.inj (hx226_3.symm.trans hx228_3)
         injection ea_ with ea_ en_ ec_
         subst ea_
         subst ec_
         clear en_
         have ea_ := Option.some.inj (hx226_5.symm.trans hx228_5)
         injection ea_ with ea_ en_ ec_
         subst ea_
         subst ec_
         clear en_
         have p229 : 0 ≤ (x5_1 : Int) := td
         have q229 : x5_1 < (l0.length : Int) := td
         obtain ⟨ad229, A229_3, c229_3, A229_5, c229_5, e229, hx229_0, hx229_1, hx229_2, hx229_3, hx229_4, hx229_5, hl229_3, hi229_3, hl229_5, hi229_5⟩ := at_T41 HR0.out x5_1 p229 q229
         obtain rfl : ad226 = ad229 := (by injection e229)
         have HR229_3 := Aside0.mk hi229_3
         have HC229_3 := Aside0.mk hl229_3
         clear hi229_3 hl229_3
         have HR229_5 := Aside0.mk hi229_5
         have HC229_5 := Aside0.mk hl229_5
         clear hi229_5 hl229_5
         replace p229 := eq_true p229
         replace q229 := eq_true q229
         have ea_ := Option.some.inj (hx226_3.symm.trans hx229_3)
         injection ea_ with ea_ en_ ec_
         subst ea_
         subst ec_
         clear en_
         have ea_ := Option.some.inj (hx226_5.symm.trans hx229_5)
         injection ea_ with ea_ en_ ec_
         subst ea_
         subst ec_
         clear en_
         go_wp2_with (first | ((with_reducible refine gate_callee (f := 57) rfl ?_); refine goesL_ (some 47) rfl rfl Try.func57 (by kernel_rfl) rfl #[.slice A226_3 ((rd_T41 l0 x5_1).f3).length c226_3, .int .i64 (wrap64 ((wrap64 ((wrap64 (x1_1 + 1)) + 1)) + 1))] rfl tq ?_; (with_reducible refine (laws_heldIntS.calls k1 _ _ ((rd_T41 l0 x5_1).f3) (wrap64 ((wrap64 ((wrap64 (x1_1 + 1)) + 1)) + 1)) t230 _ ?side1 ?side2 A8.out).mono ?_); (case side1 => exact tC HR229_3.out); (case side2 => exact HC229_3.out); rintro e w' ⟨rfl, ⟨nd, rfl⟩⟩; refine ⟨_, rfl, ?_⟩))
         go_ret
         exact ⟨by first | rfl | (simp; done) | (simp [*]; done), by repeat (first | exact Drawn0.refl _ | apply Drawn0.step)⟩
        ·rw [if_neg c9] at H
         have c9b0 : decide (t230 < 0) = false := decide_eq_false c9
         clear c9
         by_cases c10 : (((rd_T41 l0 x5_1).f4) != ((Int.tmod t230 3) == 0)) = true
         ·rw [if_pos c10] at H
          have c10b0 : (((rd_T41 l0 x5_1).f4) != ((Int.tmod t230 3) == 0)) = true := c10
          (try (have c10b1 : decide (((rd_T41 l0 x5_1).f4) = ((Int.tmod t230 3) == 0)) = false := by simpa using c10))
          (try (have c10b2 : (((rd_T41 l0 x5_1).f4) == ((Int.tmod t230 3) == 0)) = false := by simpa using c10))
          (try (have c10b3 : ¬ (((rd_T41 l0 x5_1).f4) = ((Int.tmod t230 3) == 0)) := by simpa using c10))
          clear c10
          obtain rfl := Option.some.inj H
          have p226 : 0 ≤ (x5_1 : Int) := td
          have q226 : x5_1 < (l0.length : Int) := td
          obtain ⟨ad226, A226_3, c226_3, A226_5, c226_5, e226, hx226_0, hx226_1, hx226_2, hx226_3, hx226_4, hx226_5, hl226_3, hi226_3, hl226_5, hi226_5⟩ := at_T41 HR0.out x5_1 p226 q226
          cases e226
          have HR226_3 := Aside0.mk hi226_3
          have HC226_3 := Aside0.mk hl226_3
          clear hi226_3 hl226_3
          have HR226_5 := Aside0.mk hi226_5
          have HC226_5 := Aside0.mk hl226_5
          clear hi226_5 hl226_5
          replace p226 := eq_true p226
          replace q226 := eq_true q226
          have p227 : 0 ≤ (x5_1 : Int) := td
          have q227 : x5_1 < (l0.length : Int) := td
          obtain ⟨ad227, A227_3, c227_3, A227_5, c227_5, e227, hx227_0, hx227_1, hx227_2, hx227_3, hx227_4, hx227_5, hl227_3, hi227_3, hl227_5, hi227_5⟩ := at_T41 HR0.out x5_1 p227 q227
          obtain rfl : ad226 = ad227 := (by injection e227)
          have HR227_3 := Aside0.mk hi227_3
          have HC227_3 := Aside0.mk hl227_3
          clear hi227_3 hl227_3
          have HR227_5 := Aside0.mk hi227_5
          have HC227_5 := Aside0.mk hl227_5
          clear hi227_5 hl227_5
          replace p227 := eq_true p227
          replace q227 := eq_true q227
          have ea_ := Option.some.inj (hx226_3.symm.trans hx227_3)
          injection ea_ with ea_ en_ ec_
          subst ea_
          subst ec_
          clear en_
          have ea_ := Option.some.inj (hx226_5.symm.trans hx227_5)
          injection ea_ with ea_ en_ ec_
          subst ea_
          subst ec_
          clear en_
          have p228 : 0 ≤ (x5_1 : Int) := td
          have q228 : x5_1 < (l0.length : Int) := td
          obtain ⟨ad228, A228_3, c228_3, A228_5, c228_5, e228, hx228_0, hx228_1, hx228_2, hx228_3, hx228_4, hx228_5, hl228_3, hi228_3, hl228_5, hi228_5⟩ := at_T41 HR0.out x5_1 p228 q228
          obtain rfl : ad226 = ad228 := (by injection e228)
          have HR228_3 := Aside0.mk hi228_3
          have HC228_3 := Aside0.mk hl228_3
          clear hi228_3 hl228_3
          have HR228_5 := Aside0.mk hi228_5
          have HC228_5 := Aside0.mk hl228_5
          clear hi228_5 hl228_5
          replace p228 := eq_true p228
          replace q228 := eq_true q228
          have ea_ := Option.some.inj (hx226_3.symm.trans hx228_3)
          injection ea_ with ea_ en_ ec_
          subst ea_
          subst ec_
          clear en_
          have ea_ := Option.some.inj (hx226_5.symm.trans hx228_5)
          injection ea_ with ea_ en_ ec_
          subst ea_
          subst ec_
          clear en_
          have p229 : 0 ≤ (x5_1 : Int) := td
          have q229 : x5_1 < (l0.length : Int) := td
          obtain ⟨ad229, A229_3, c229_3, A229_5, c229_5, e229, hx229_0, hx229_1, hx229_2, hx229_3, hx229_4, hx229_5, hl229_3, hi229_3, hl229_5, hi229_5⟩ := at_T41 HR0.out x5_1 p229 q229
          obtain rfl : ad226 = ad229 := (by injection e229)
          have HR229_3 := Aside0.mk hi229_3
          have HC229_3 := Aside0.mk hl229_3
          clear hi229_3 hl229_3
          have HR229_5 := Aside0.mk hi229_5
          have HC229_5 := Aside0.mk hl229_5
          clear hi229_5 hl229_5
          replace p229 := eq_true p229
          replace q229 := eq_true q229
          have ea_ := Option.some.inj (hx226_3.symm.trans hx229_3)
          injection ea_ with ea_ en_ ec_
          subst ea_
          subst ec_
          clear en_
          have ea_ := Option.some.inj (hx226_5.symm.trans hx229_5)
          injection ea_ with ea_ en_ ec_
          subst ea_
          subst ec_
          clear en_
          go_wp2_with (first | ((with_reducible refine gate_callee (f := 57) rfl ?_); refine goesL_ (some 47) rfl rfl Try.func57 (by kernel_rfl) rfl #[.slice A226_3 ((rd_T41 l0 x5_1).f3).length c226_3, .int .i64 (wrap64 ((wrap64 ((wrap64 (x1_1 + 1)) + 1)) + 1))] rfl tq ?_; (with_reducible refine (laws_heldIntS.calls k1 _ _ ((rd_T41 l0 x5_1).f3) (wrap64 ((wrap64 ((wrap64 (x1_1 + 1)) + 1)) + 1)) t230 _ ?side1 ?side2 A8.out).mono ?_); (case side1 => exact tC HR229_3.out); (case side2 => exact HC229_3.out); rintro e w' ⟨rfl, ⟨nd, rfl⟩⟩; refine ⟨_, rfl, ?_⟩; have p231 : 0 ≤ (x5_1 : Int) := td; have q231 : x5_1 < (l0.length : Int) := td; obtain ⟨ad231, A231_3, c231_3, A231_5, c231_5, e231, hx231_0, hx231_1, hx231_2, hx231_3, hx231_4, hx231_5, hl231_3, hi231_3, hl231_5, hi231_5⟩ := at_T41 HR0.out x5_1 p231 q231; obtain rfl : ad226 = ad231 := (by injection e231); have HR231_3 := Aside0.mk hi231_3; have HC231_3 := Aside0.mk hl231_3; clear hi231_3 hl231_3; have HR231_5 := Aside0.mk hi231_5; have HC231_5 := Aside0.mk hl231_5; clear hi231_5 hl231_5; replace p231 := eq_true p231; replace q231 := eq_true q231; have ea_ := Option.some.inj (hx226_3.symm.trans hx231_3); injection ea_ with ea_ en_ ec_; subst ea_; subst ec_; clear en_; have ea_ := Option.some.inj (hx226_5.symm.trans hx231_5); injection ea_ with ea_ en_ ec_; subst ea_; subst ec_; clear en_))
          go_ret
          exact ⟨by first | rfl | (simp; done) | (simp [*]; done), by repeat (first | exact Drawn0.refl _ | apply Drawn0.step)⟩
         ·rw [if_neg c10] at H
          have c10b0 : (((rd_T41 l0 x5_1).f4) != ((Int.tmod t230 3) == 0)) = false := by simpa using c10
          (try (have c10b1 : decide (((rd_T41 l0 x5_1).f4) = ((Int.tmod t230 3) == 0)) = true := by simpa using c10))
          (try (have c10b2 : (((rd_T41 l0 x5_1).f4) == ((Int.tmod t230 3) == 0)) = true := by simpa using c10))
          clear c10
          replace H := tbe H
          obtain ⟨t233, A11, H⟩ := H
          by_cases c12 : t233 < 0
          ·rw [if_pos c12] at H
           have c12b0 : decide (t233 < 0) = true := decide_eq_true c12
           clear c12
           obtain rfl := Option.some.inj H
           have p226 : 0 ≤ (x5_1 : Int) := td
           have q226 : x5_1 < (l0.length : Int) := td
           obtain ⟨ad226, A226_3, c226_3, A226_5, c226_5, e226, hx226_0, hx226_1, hx226_2, hx226_3, hx226_4, hx226_5, hl226_3, hi226_3, hl226_5, hi226_5⟩ := at_T41 HR0.out x5_1 p226 q226
           cases e226
           have HR226_3 := Aside0.mk hi226_3
           have HC226_3 := Aside0.mk hl226_3
           clear hi226_3 hl226_3
           have HR226_5 := Aside0.mk hi226_5
           have HC226_5 := Aside0.mk hl226_5
           clear hi226_5 hl226_5
           replace p226 := eq_true p226
           replace q226 := eq_true q226
           have p227 : 0 ≤ (x5_1 : Int) := td
           have q227 : x5_1 < (l0.length : Int) := td
           obtain ⟨ad227, A227_3, c227_3, A227_5, c227_5, e227, hx227_0, hx227_1, hx227_2, hx227_3, hx227_4, hx227_5, hl227_3, hi227_3, hl227_5, hi227_5⟩ := at_T41 HR0.out x5_1 p227 q227
           obtain rfl : ad226 = ad227 := (by injection e227)
           have HR227_3 := Aside0.mk hi227_3
           have HC227_3 := Aside0.mk hl227_3
           clear hi227_3 hl227_3
           have HR227_5 := Aside0.mk hi227_5
           have HC227_5 := Aside0.mk hl227_5
           clear hi227_5 hl227_5
           replace p227 := eq_true p227
           replace q227 := eq_true q227
           have ea_ := Option.some.inj (hx226_3.symm.trans hx227_3)
           injection ea_ with ea_ en_ ec_
           subst ea_
           subst ec_
           clear en_
           have ea_ := Option.some.inj (hx226_5.symm.trans hx227_5)
           injection ea_ with ea_ en_ ec_
           subst ea_
           subst ec_
           clear en_
           have p228 : 0 ≤ (x5_1 : Int) := td
           have q228 : x5_1 < (l0.length : Int) := td
           obtain ⟨ad228, A228_3, c228_3, A228_5, c228_5, e228, hx228_0, hx228_1, hx228_2, hx228_3, hx228_4, hx228_5, hl228_3, hi228_3, hl228_5, hi228_5⟩ := at_T41 HR0.out x5_1 p228 q228
           obtain rfl : ad226 = ad228 := (by injection e228)
           have HR228_3 := Aside0.mk hi228_3
           have HC228_3 := Aside0.mk hl228_3
           clear hi228_3 hl228_3
           have HR228_5 := Aside0.mk hi228_5
           have HC228_5 := Aside0.mk hl228_5
           clear hi228_5 hl228_5
           replace p228 := eq_true p228
           replace q228 := eq_true q228
           have ea_ := Option.some.inj (hx226_3.symm.trans hx228_3)
           injection ea_ with ea_ en_ ec_
           subst ea_
           subst ec_
           clear en_
           have ea_ := Option.some.inj (hx226_5.symm.trans hx228_5)
           injection ea_ with ea_ en_ ec_
           subst ea_
           subst ec_
           clear en_
           have p229 : 0 ≤ (x5_1 : Int) := td
           have q229 : x5_1 < (l0.length : Int) := td
           obtain ⟨ad229, A229_3, c229_3, A229_5, c229_5, e229, hx229_0, hx229_1, hx229_2, hx229_3, hx229_4, hx229_5, hl229_3, hi229_3, hl229_5, hi229_5⟩ := at_T41 HR0.out x5_1 p229 q229
           obtain rfl : ad226 = ad229 := (by injection e229)
           have HR229_3 := Aside0.mk hi229_3
           have HC229_3 := Aside0.mk hl229_3
           clear hi229_3 hl229_3
           have HR229_5 := Aside0.mk hi229_5
           have HC229_5 := Aside0.mk hl229_5
           clear hi229_5 hl229_5
           replace p229 := eq_true p229
           replace q229 := eq_true q229
           have ea_ := Option.some.inj (hx226_3.symm.trans hx229_3)
           injection ea_ with ea_ en_ ec_
           subst ea_
           subst ec_
           clear en_
           have ea_ := Option.some.inj (hx226_5.symm.trans hx229_5)
           injection ea_ with ea_ en_ ec_
           subst ea_
           subst ec_
           clear en_
           go_wp2_with (first | ((with_reducible refine gate_callee (f := 57) rfl ?_); refine goesL_ (some 47) rfl rfl Try.func57 (by kernel_rfl) rfl #[.slice A226_3 ((rd_T41 l0 x5_1).f3).length c226_3, .int .i64 (wrap64 ((wrap64 ((wrap64 (x1_1 + 1)) + 1)) + 1))] rfl tq ?_; (with_reducible refine (laws_heldIntS.calls k1 _ _ ((rd_T41 l0 x5_1).f3) (wrap64 ((wrap64 ((wrap64 (x1_1 + 1)) + 1)) + 1)) t230 _ ?side1 ?side2 A8.out).mono ?_); (case side1 => exact tC HR229_3.out); (case side2 => exact HC229_3.out); rintro e w' ⟨rfl, ⟨nd, rfl⟩⟩; refine ⟨_, rfl, ?_⟩; have p231 : 0 ≤ (x5_1 : Int) := td; have q231 : x5_1 < (l0.length : Int) := td; obtain ⟨ad231, A231_3, c231_3, A231_5, c231_5, e231, hx231_0, hx231_1, hx231_2, hx231_3, hx231_4, hx231_5, hl231_3, hi231_3, hl231_5, hi231_5⟩ := at_T41 HR0.out x5_1 p231 q231; obtain rfl : ad226 = ad231 := (by injection e231); have HR231_3 := Aside0.mk hi231_3; have HC231_3 := Aside0.mk hl231_3; clear hi231_3 hl231_3; have HR231_5 := Aside0.mk hi231_5; have HC231_5 := Aside0.mk hl231_5; clear hi231_5 hl231_5; replace p231 := eq_true p231; replace q231 := eq_true q231; have ea_ := Option.some.inj (hx226_3.symm.trans hx231_3); injection ea_ with ea_ en_ ec_; subst ea_; subst ec_; clear en_; have ea_ := Option.some.inj (hx226_5.symm.trans hx231_5); injection ea_ with ea_ en_ ec_; subst ea_; subst ec_; clear en_; have p232 : 0 ≤ (x5_1 : Int) := td; have q232 : x5_1 < (l0.length : Int) := td; obtain ⟨ad232, A232_3, c232_3, A232_5, c232_5, e232, hx232_0, hx232_1, hx232_2, hx232_3, hx232_4, hx232_5, hl232_3, hi232_3, hl232_5, hi232_5⟩ := at_T41 HR0.out x5_1 p232 q232; obtain rfl : ad226 = ad232 := (by injection e232); have HR232_3 := Aside0.mk hi232_3; have HC232_3 := Aside0.mk hl232_3; clear hi232_3 hl232_3; have HR232_5 := Aside0.mk hi232_5; have HC232_5 := Aside0.mk hl232_5; clear hi232_5 hl232_5; replace p232 := eq_true p232; replace q232 := eq_true q232; have ea_ := Option.some.inj (hx226_3.symm.trans hx232_3); injection ea_ with ea_ en_ ec_; subst ea_; subst ec_; clear en_; have ea_ := Option.some.inj (hx226_5.symm.trans hx232_5); injection ea_ with ea_ en_ ec_; subst ea_; subst ec_; clear en_) | ((with_reducible refine gate_callee (f := 57) rfl ?_); refine goesL_ (some 67) rfl rfl Try.func57 (by kernel_rfl) rfl #[.slice A226_5 ((rd_T41 l0 x5_1).f5).length c226_5, .int .i64 (wrap64 (t230 + 1))] rfl tq ?_; (with_reducible refine (laws_heldIntS.calls k1 _ _ ((rd_T41 l0 x5_1).f5) (wrap64 (t230 + 1)) t233 _ ?side1 ?side2 A11.out).mono ?_); (case side1 => exact tC HR232_5.out); (case side2 => exact HC232_5.out); rintro e w' ⟨rfl, ⟨nd, rfl⟩⟩; refine ⟨_, rfl, ?_⟩))
           go_ret
           exact ⟨by first | rfl | (simp; done) | (simp [*]; done), by repeat (first | exact Drawn0.refl _ | apply Drawn0.step)⟩
          ·rw [if_neg c12] at H
           have c12b0 : decide (t233 < 0) = false := decide_eq_false c12
           clear c12
           have H' := Aside0.mk H
           clear H
           have p226 : 0 ≤ (x5_1 : Int) := td
           have q226 : x5_1 < (l0.length : Int) := td
           obtain ⟨ad226, A226_3, c226_3, A226_5, c226_5, e226, hx226_0, hx226_1, hx226_2, hx226_3, hx226_4, hx226_5, hl226_3, hi226_3, hl226_5, hi226_5⟩ := at_T41 HR0.out x5_1 p226 q226
           cases e226
           have HR226_3 := Aside0.mk hi226_3
           have HC226_3 := Aside0.mk hl226_3
           clear hi226_3 hl226_3
           have HR226_5 := Aside0.mk hi226_5
           have HC226_5 := Aside0.mk hl226_5
           clear hi226_5 hl226_5
           replace p226 := eq_true p226
           replace q226 := eq_true q226
           have p227 : 0 ≤ (x5_1 : Int) := td
           have q227 : x5_1 < (l0.length : Int) := td
           obtain ⟨ad227, A227_3, c227_3, A227_5, c227_5, e227, hx227_0, hx227_1, hx227_2, hx227_3, hx227_4, hx227_5, hl227_3, hi227_3, hl227_5, hi227_5⟩ := at_T41 HR0.out x5_1 p227 q227
           obtain rfl : ad226 = ad227 := (by injection e227)
           have HR227_3 := Aside0.mk hi227_3
           have HC227_3 := Aside0.mk hl227_3
           clear hi227_3 hl227_3
           have HR227_5 := Aside0.mk hi227_5
           have HC227_5 := Aside0.mk hl227_5
           clear hi227_5 hl227_5
           replace p227 := eq_true p227
           replace q227 := eq_true q227
           have ea_ := Option.some.inj (hx226_3.symm.trans hx227_3)
           injection ea_ with ea_ en_ ec_
           subst ea_
           subst ec_
           clear en_
           have ea_ := Option.some.inj (hx226_5.symm.trans hx227_5)
           injection ea_ with ea_ en_ ec_
           subst ea_
           subst ec_
           clear en_
           have p228 : 0 ≤ (x5_1 : Int) := td
           have q228 : x5_1 < (l0.length : Int) := td
           obtain ⟨ad228, A228_3, c228_3, A228_5, c228_5, e228, hx228_0, hx228_1, hx228_2, hx228_3, hx228_4, hx228_5, hl228_3, hi228_3, hl228_5, hi228_5⟩ := at_T41 HR0.out x5_1 p228 q228
           obtain rfl : ad226 = ad228 := (by injection e228)
           have HR228_3 := Aside0.mk hi228_3
           have HC228_3 := Aside0.mk hl228_3
           clear hi228_3 hl228_3
           have HR228_5 := Aside0.mk hi228_5
           have HC228_5 := Aside0.mk hl228_5
           clear hi228_5 hl228_5
           replace p228 := eq_true p228
           replace q228 := eq_true q228
           have ea_ := Option.some.inj (hx226_3.symm.trans hx228_3)
           injection ea_ with ea_ en_ ec_
           subst ea_
           subst ec_
           clear en_
           have ea_ := Option.some.inj (hx226_5.symm.trans hx228_5)
           injection ea_ with ea_ en_ ec_
           subst ea_
           subst ec_
           clear en_
           have p229 : 0 ≤ (x5_1 : Int) := td
           have q229 : x5_1 < (l0.length : Int) := td
           obtain ⟨ad229, A229_3, c229_3, A229_5, c229_5, e229, hx229_0, hx229_1, hx229_2, hx229_3, hx229_4, hx229_5, hl229_3, hi229_3, hl229_5, hi229_5⟩ := at_T41 HR0.out x5_1 p229 q229
           obtain rfl : ad226 = ad229 := (by injection e229)
           have HR229_3 := Aside0.mk hi229_3
           have HC229_3 := Aside0.mk hl229_3
           clear hi229_3 hl229_3
           have HR229_5 := Aside0.mk hi229_5
           have HC229_5 := Aside0.mk hl229_5
           clear hi229_5 hl229_5
           replace p229 := eq_true p229
           replace q229 := eq_true q229
           have ea_ := Option.some.inj (hx226_3.symm.trans hx229_3)
           injection ea_ with ea_ en_ ec_
           subst ea_
           subst ec_
           clear en_
           have ea_ := Option.some.inj (hx226_5.symm.trans hx229_5)
           injection ea_ with ea_ en_ ec_
           subst ea_
           subst ec_
           clear en_
           go_wp2_with (first | ((with_reducible refine gate_callee (f := 57) rfl ?_); refine goesL_ (some 47) rfl rfl Try.func57 (by kernel_rfl) rfl #[.slice A226_3 ((rd_T41 l0 x5_1).f3).length c226_3, .int .i64 (wrap64 ((wrap64 ((wrap64 (x1_1 + 1)) + 1)) + 1))] rfl tq ?_; (with_reducible refine (laws_heldIntS.calls k1 _ _ ((rd_T41 l0 x5_1).f3) (wrap64 ((wrap64 ((wrap64 (x1_1 + 1)) + 1)) + 1)) t230 _ ?side1 ?side2 A8.out).mono ?_); (case side1 => exact tC HR229_3.out); (case side2 => exact HC229_3.out); rintro e w' ⟨rfl, ⟨nd, rfl⟩⟩; refine ⟨_, rfl, ?_⟩; have p231 : 0 ≤ (x5_1 : Int) := td; have q231 : x5_1 < (l0.length : Int) := td; obtain ⟨ad231, A231_3, c231_3, A231_5, c231_5, e231, hx231_0, hx231_1, hx231_2, hx231_3, hx231_4, hx231_5, hl231_3, hi231_3, hl231_5, hi231_5⟩ := at_T41 HR0.out x5_1 p231 q231; obtain rfl : ad226 = ad231 := (by injection e231); have HR231_3 := Aside0.mk hi231_3; have HC231_3 := Aside0.mk hl231_3; clear hi231_3 hl231_3; have HR231_5 := Aside0.mk hi231_5; have HC231_5 := Aside0.mk hl231_5; clear hi231_5 hl231_5; replace p231 := eq_true p231; replace q231 := eq_true q231; have ea_ := Option.some.inj (hx226_3.symm.trans hx231_3); injection ea_ with ea_ en_ ec_; subst ea_; subst ec_; clear en_; have ea_ := Option.some.inj (hx226_5.symm.trans hx231_5); injection ea_ with ea_ en_ ec_; subst ea_; subst ec_; clear en_; have p232 : 0 ≤ (x5_1 : Int) := td; have q232 : x5_1 < (l0.length : Int) := td; obtain ⟨ad232, A232_3, c232_3, A232_5, c232_5, e232, hx232_0, hx232_1, hx232_2, hx232_3, hx232_4, hx232_5, hl232_3, hi232_3, hl232_5, hi232_5⟩ := at_T41 HR0.out x5_1 p232 q232; obtain rfl : ad226 = ad232 := (by injection e232); have HR232_3 := Aside0.mk hi232_3; have HC232_3 := Aside0.mk hl232_3; clear hi232_3 hl232_3; have HR232_5 := Aside0.mk hi232_5; have HC232_5 := Aside0.mk hl232_5; clear hi232_5 hl232_5; replace p232 := eq_true p232; replace q232 := eq_true q232; have ea_ := Option.some.inj (hx226_3.symm.trans hx232_3); injection ea_ with ea_ en_ ec_; subst ea_; subst ec_; clear en_; have ea_ := Option.some.inj (hx226_5.symm.trans hx232_5); injection ea_ with ea_ en_ ec_; subst ea_; subst ec_; clear en_) | ((with_reducible refine gate_callee (f := 57) rfl ?_); refine goesL_ (some 67) rfl rfl Try.func57 (by kernel_rfl) rfl #[.slice A226_5 ((rd_T41 l0 x5_1).f5).length c226_5, .int .i64 (wrap64 (t230 + 1))] rfl tq ?_; (with_reducible refine (laws_heldIntS.calls k1 _ _ ((rd_T41 l0 x5_1).f5) (wrap64 (t230 + 1)) t233 _ ?side1 ?side2 A11.out).mono ?_); (case side1 => exact tC HR232_5.out); (case side2 => exact HC232_5.out); rintro e w' ⟨rfl, ⟨nd, rfl⟩⟩; refine ⟨_, rfl, ?_⟩))
           go_roundg k1
           case measure => have := HK1.out; omega
           case rel => exact ⟨(t233), (wrap64 (x5_1 + 1)), tr, tr, H', ⟨by have := HK1.out; omega⟩, by repeat (first | exact Drawn0.refl _ | apply Drawn0.step)⟩
      ·rw [if_neg c6] at H
       have c6b0 : (((rd_T41 l0 x5_1).f1) == (wrap64 (x1_1 + 1))) = false := beq_eq_false_iff_ne.mpr c6
       have c6b1 : (((rd_T41 l0 x5_1).f1) != (wrap64 (x1_1 + 1))) = true := bne_iff_ne.mpr c6
       obtain rfl := Option.some.inj H
       have p226 : 0 ≤ (x5_1 : Int) := td
       have q226 : x5_1 < (l0.length : Int) := td
       obtain ⟨ad226, A226_3, c226_3, A226_5, c226_5, e226, hx226_0, hx226_1, hx226_2, hx226_3, hx226_4, hx226_5, hl226_3, hi226_3, hl226_5, hi226_5⟩ := at_T41 HR0.out x5_1 p226 q226
       cases e226
       have HR226_3 := Aside0.mk hi226_3
       have HC226_3 := Aside0.mk hl226_3
       clear hi226_3 hl226_3
       have HR226_5 := Aside0.mk hi226_5
       have HC226_5 := Aside0.mk hl226_5
       clear hi226_5 hl226_5
       replace p226 := eq_true p226
       replace q226 := eq_true q226
       have p227 : 0 ≤ (x5_1 : Int) := td
       have q227 : x5_1 < (l0.length : Int) := td
       obtain ⟨ad227, A227_3, c227_3, A227_5, c227_5, e227, hx227_0, hx227_1, hx227_2, hx227_3, hx227_4, hx227_5, hl227_3, hi227_3, hl227_5, hi227_5⟩ := at_T41 HR0.out x5_1 p227 q227
       obtain rfl : ad226 = ad227 := (by injection e227)
       have HR227_3 := Aside0.mk hi227_3
       have HC227_3 := Aside0.mk hl227_3
       clear hi227_3 hl227_3
       have HR227_5 := Aside0.mk hi227_5
       have HC227_5 := Aside0.mk hl227_5
       clear hi227_5 hl227_5
       replace p227 := eq_true p227
       replace q227 := eq_true q227
       have ea_ := Option.some.inj (hx226_3.symm.trans hx227_3)
       injection ea_ with ea_ en_ ec_
       subst ea_
       subst ec_
       clear en_
       have ea_ := Option.some.inj (hx226_5.symm.trans hx227_5)
       injection ea_ with ea_ en_ ec_
       subst ea_
       subst ec_
       clear en_
       go_wp2
       go_ret
       exact ⟨by first | rfl | (simp; done) | (simp [*]; done), by repeat (first | exact Drawn0.refl _ | apply Drawn0.step)⟩
     ·rw [if_neg c5] at H
      have c5b0 : (((rd_T41 l0 x5_1).f0) == x1_1) = false := beq_eq_false_iff_ne.mpr c5
      have c5b1 : (((rd_T41 l0 x5_1).f0) != x1_1) = true := bne_iff_ne.mpr c5
      obtain rfl := Option.some.inj H
      have p226 : 0 ≤ (x5_1 : Int) := td
      have q226 : x5_1 < (l0.length : Int) := td
      obtain ⟨ad226, A226_3, c226_3, A226_5, c226_5, e226, hx226_0, hx226_1, hx226_2, hx226_3, hx226_4, hx226_5, hl226_3, hi226_3, hl226_5, hi226_5⟩ := at_T41 HR0.out x5_1 p226 q226
      cases e226
      have HR226_3 := Aside0.mk hi226_3
      have HC226_3 := Aside0.mk hl226_3
      clear hi226_3 hl226_3
      have HR226_5 := Aside0.mk hi226_5
      have HC226_5 := Aside0.mk hl226_5
      clear hi226_5 hl226_5
      replace p226 := eq_true p226
      replace q226 := eq_true q226
      go_wp2
      go_ret
      exact ⟨by first | rfl | (simp; done) | (simp [*]; done), by repeat (first | exact Drawn0.refl _ | apply Drawn0.step)⟩
    ·rw [if_neg c4] at H
     exact absurd H (by simp)
   ·rw [if_neg c3] at H
    have c3b0 : decide (x5_1 < (l0.length : Int)) = false := decide_eq_false c3
    clear c3
    obtain rfl := Option.some.inj H
    go_wp2
    go_ret
    exact ⟨by first | rfl | (simp; done) | (simp [*]; done), by repeat (first | exact Drawn0.refl _ | apply Drawn0.step)⟩

end Go.Proofs.Ythlnbbehcpdnfaa.G

namespace Go.Proofs.Ythlnbbehcpdnfaa.Pu
open Go.RowKit Go.Proofs.YthlnbbehcpdnfaaW.PrintWords Go.Proofs.YthlnbbehcpdnfaaW.PrintLast Go.Proofs.Ythlnbbehcpdnfaa.G
set_option linter.unusedVariables false
set_option linter.unusedSimpArgs false
def marks (a : Int) (n : Nat) : List Int := (List.range n).map fun (i : Nat) => a + (i : Int)
theorem marks_len (a : Int) (n : Nat) : (marks a n).length = n := by simp [marks]
theorem marks_at (a : Int) (n i : Nat) (h : i < n) : rd (marks a n) (i : Int) = a + i := by
  rw [rdi_nat _ _ (by rw [marks_len]; exact h)]
  simp [marks]
theorem marks_succ (a : Int) (n : Nat) : marks a (n + 1) = marks a n ++ [a + (n : Int)] := by
  unfold marks
  rw [List.range_succ, List.map_append]
  rfl
theorem marks_set (a : Int) (l : List Int) (i : Nat) (h : i < l.length) : (marks a i ++ l.drop i).set i (a + (i : Int)) = marks a (i + 1) ++ l.drop (i + 1) := by
  rw [List.drop_eq_getElem_cons h, List.set_append_right _ _ (by rw [marks_len]; omega), marks_len, Nat.sub_self, List.set_cons_zero, marks_succ, List.append_assoc]
  rfl
theorem mark_loop (l : List Int) (a : Int) (hl : l.length ≤ 4000000000000000000) (h0 : 0 ≤ a) (h1 : a ≤ 4000000000000000000) : ∀ d i, l.length - i = d → i ≤ l.length → Ev (fun k => laws_markIntS.l0 k (marks a i ++ l.drop i) (a + (i : Int)) (i : Int)) (a + (l.length : Int), marks a l.length) := by
  intro d
  induction d with
  | zero =>
    intro i hd hi
    obtain rfl : i = l.length := by omega
    refine Ev.step (fun k => by rw [laws_markIntS.l0]) ?_
    rw [List.drop_length, List.append_nil, marks_len]
    simp only [if_neg (show ¬ ((l.length : Int) < (l.length : Int)) by omega)]
    exact Ev.now _
  | succ d ih =>
    intro i hd hi
    have hlt : i < l.length := by omega
    refine Ev.step (fun k => by rw [laws_markIntS.l0]) ?_
    have hlen : (marks a i ++ l.drop i).length = l.length := by rw [List.length_append, marks_len, List.length_drop]; omega
    simp only [hlen, if_pos (show (i : Int) < (l.length : Int) by omega), if_pos (show (0 : Int) ≤ (i : Int) by omega), Int.toNat_natCast, marks_set a l i hlt, w64 (a := a + (i : Int) + 1) (by omega) (by omega), w64 (a := (i : Int) + 1) (by omega) (by omega)]
    have := ih (i + 1) (by omega) (by omega)
    rw [show a + ((i + 1 : Nat) : Int) = a + (i : Int) + 1 by omega, show ((i + 1 : Nat) : Int) = (i : Int) + 1 by omega] at this
    exact this
theorem markIntS_ev (l : List Int) (a : Int) (hl : l.length ≤ 4000000000000000000) (h0 : 0 ≤ a) (h1 : a ≤ 4000000000000000000) : Ev (fun k => laws_markIntS.f k l a) (a + (l.length : Int), marks a l.length) := by
  unfold laws_markIntS.f
  have := mark_loop l a hl h0 h1 l.length 0 (by omega) (by omega)
  simpa [marks] using this
theorem held_loop (a : Int) (n : Nat) (hl : n ≤ 4000000000000000000) (h0 : 0 ≤ a) (h1 : a ≤ 4000000000000000000) : ∀ d i, n - i = d → i ≤ n → Ev (fun k => laws_heldIntS.l0 k (marks a n) (a + (i : Int)) (i : Int)) (a + (n : Int)) := by
  intro d
  induction d with
  | zero =>
    intro i hd hi
    obtain rfl : i = n := by omega
    refine Ev.step (fun k => by rw [laws_heldIntS.l0]) ?_
    rw [marks_len]
    simp only [if_neg (show ¬ ((i : Int) < (i : Int)) by omega)]
    exact Ev.now _
  | succ d ih =>
    intro i hd hi
    have hlt : i < n := by omega
    refine Ev.step (fun k => by rw [laws_heldIntS.l0]) ?_
    rw [marks_len, marks_at a n i hlt]
    simp only [if_pos (show (i : Int) < (n : Int) by omega), if_pos (show (0 : Int) ≤ (i : Int) by omega), if_true, w64 (a := a + (i : Int) + 1) (by omega) (by omega), w64 (a := (i : Int) + 1) (by omega) (by omega)]
    have := ih (i + 1) (by omega) (by omega)
    rw [show a + ((i + 1 : Nat) : Int) = a + (i : Int) + 1 by omega, show ((i + 1 : Nat) : Int) = (i : Int) + 1 by omega] at this
    exact this
theorem heldIntS_ev (a : Int) (n : Nat) (hl : n ≤ 4000000000000000000) (h0 : 0 ≤ a) (h1 : a ≤ 4000000000000000000) : Ev (fun k => laws_heldIntS.f k (marks a n) a) (a + (n : Int)) := by
  unfold laws_heldIntS.f
  have := held_loop a n hl h0 h1 n 0 (by omega) (by omega)
  simpa using this
end Go.Proofs.Ythlnbbehcpdnfaa.Pu

namespace Go.Proofs.Ythlnbbehcpdnfaa.G
open Go.RowKit Go.Proofs.YthlnbbehcpdnfaaW.PrintWords Go.Proofs.YthlnbbehcpdnfaaW.PrintLast Go.Proofs.YthlnbbehcpdnfaaW.PrintMore
set_option linter.unusedVariables false
set_option linter.unusedSimpArgs false
section
variable {α : Type} {d : Kd α} {e g n cap base : Nat} {W : World} {ok oki : Nat → Prop} {xs : List α} {i : Int} {c : List Value}
theorem H_at (h : Kd.H d e W base ok (.slice (some ⟨g, 0, none⟩) n cap) xs i oki c) (h0 : 0 ≤ i) (h1 : i < n) (j : Nat) (u : Value) (hu : c[j]? = some u) :
    W.cell? ⟨g, i.toNat * d.sz + j, none⟩ = some u ∧ W.frozen? ⟨g, i.toNat * d.sz + j, none⟩ = false := by
  obtain ⟨rows, hl, hraw, _, _, hcc, _⟩ := Kd.H_raw h h0 h1
  obtain ⟨_, _, _, _, hfr⟩ := Kd.R_elem hraw [] i h0 h1
  exact ⟨hcc j u hu, hfr j⟩
theorem H_put (h : Kd.H d e W base ok (.slice (some ⟨g, 0, none⟩) n cap) xs i oki c) (h0 : 0 ≤ i) (h1 : i < n) (j : Nat) (u : Value) (hj : j < c.length) (hc : c.length = d.sz) (hu : u.oneCell' = true) :
    Kd.H d e (W.setCell ⟨g, i.toNat * d.sz + j, none⟩ u) base ok (.slice (some ⟨g, 0, none⟩) n cap) xs i oki (c.set j u) ∧ W.grownBy (W.setCell ⟨g, i.toNat * d.sz + j, none⟩ u) (some g) := by
  have := Kd.H_seg h h0 h1 (seg := [u]) (j := j) (by rw [← hc]; exact hj) (fun q hq => by rw [List.mem_singleton.1 hq]; exact hu)
  have e2 : c.take j ++ [u] ++ c.drop (j + [u].length) = c.set j u := by
    rw [List.set_eq_take_append_cons_drop, if_pos hj]
    simp
  rw [e2] at this
  exact this
end
/-- The marks of a record, and of a row of records. -/
def mkRec (a : Int) (x : S41) : S41 := ⟨a, a + 1, Int.tmod (a + 2) 3 == 0, Pu.marks (a + 3) x.f3.length, Int.tmod (a + 3 + x.f3.length) 3 == 0, Pu.marks (a + 4 + x.f3.length) x.f5.length⟩
def cntR (x : S41) : Nat := 4 + x.f3.length + x.f5.length
def totR : List S41 → Nat
  | [] => 0
  | x :: l => cntR x + totR l
def mkRow : Int → List S41 → List S41
  | _, [] => []
  | a, x :: l => mkRec a x :: mkRow (a + (cntR x : Int)) l
theorem mkRow_len : ∀ (l : List S41) (a : Int), (mkRow a l).length = l.length
  | [], _ => rfl
  | x :: l, a => by simp [mkRow, mkRow_len l]
theorem totR_append : ∀ (l m : List S41), totR (l ++ m) = totR l + totR m
  | [], m => by simp [totR]
  | x :: l, m => by simp [totR, totR_append l m, Nat.add_assoc]
theorem mkRow_append : ∀ (l m : List S41) (a : Int), mkRow a (l ++ m) = mkRow a l ++ mkRow (a + (totR l : Int)) m
  | [], m, a => by simp [mkRow, totR]
  | x :: l, m, a => by
    simp only [List.cons_append, mkRow, totR, mkRow_append l m]
    rw [show a + (cntR x : Int) + (totR l : Int) = a + ((cntR x + totR l : Nat) : Int) by omega]
theorem totR_take {l : List S41} {i : Nat} (h : i < l.length) : totR (l.take (i + 1)) = totR (l.take i) + cntR l[i] := by
  rw [← List.take_append_getElem h, totR_append]
  simp [totR]
theorem totR_le (l : List S41) (i : Nat) : totR (l.take i) ≤ totR l := by
  have := totR_append (l.take i) (l.drop i)
  rw [List.take_append_drop] at this
  omega
theorem cntR_le {l : List S41} {i : Nat} (h : i < l.length) : totR (l.take i) + cntR l[i] ≤ totR l := by
  rw [← totR_take h]
  exact totR_le l _
theorem mkRow_set (a : Int) (l : List S41) (i : Nat) (h : i < l.length) : (mkRow a (l.take i) ++ l.drop i).set i (mkRec (a + (totR (l.take i) : Int)) l[i]) = mkRow a (l.take (i + 1)) ++ l.drop (i + 1) := by
  have hl : (mkRow a (l.take i)).length = i := by rw [mkRow_len, List.length_take]; omega
  rw [List.drop_eq_getElem_cons h, List.set_append_right _ _ (by omega), hl, Nat.sub_self, List.set_cons_zero, ← List.take_append_getElem h, mkRow_append]
  simp [mkRow]
theorem mkRow_at (a : Int) (l : List S41) (i : Nat) (h : i < l.length) (z : S41) : (mkRow a (l.take i) ++ l.drop i).getD i z = l[i] := by
  have hl : (mkRow a (l.take i)).length = i := by rw [mkRow_len, List.length_take]; omega
  rw [List.getD_eq_getElem?_getD, List.getElem?_append_right (by omega), hl, Nat.sub_self, List.getElem?_drop]
  simp [h]
theorem mkRow_len2 (a : Int) (l : List S41) (i : Nat) (h : i ≤ l.length) : (mkRow a (l.take i) ++ l.drop i).length = l.length := by
  rw [List.length_append, mkRow_len, List.length_take, List.length_drop]
  omega
theorem markI (u : Value) (l : List Int) (a : Int) (w0 w : World) (hB : Below w0.heap.size w0 w) (ho : Kd.R (Kd.int .i64) 3 w w0.heap.size (fun k => some k = u.ownBlock) u l) (hl : l.length ≤ 4000000000000000000) (h0 : 0 ≤ a) (h1 : a ≤ 4000000000000000000) :
    Calls Try.prog 56 #[u, .int .i64 a] w fun e w' => e = .returned (.int .i64 (a + (l.length : Int))) ∧ Kd.R (Kd.int .i64) 3 w' w0.heap.size (fun k => some k = u.ownBlock) u (Pu.marks a l.length) ∧ Below w0.heap.size w0 w' ∧ Kept w w' (fun k => some k = u.ownBlock) := by
  obtain ⟨K, hK⟩ := Pu.markIntS_ev l a hl h0 h1
  refine (laws_markIntS.calls K (fun k => some k = u.ownBlock) u l a _ _ w0 w hB ho (hK K (Nat.le_refl _))).mono ?_
  rintro e w' ⟨rfl, h2, h3, h4⟩
  exact ⟨rfl, Kd.R_reok rfl h2 (fun k hk => hk.symm), h3, h4⟩
/-- A round's state: the row with the element lent (its cells c), and the element's two rows. -/
def MkS (w0 w : World) (P0 oki : Nat → Prop) (g n cap : Nat) (ys : List S41) (i : Nat) (v3 : Value) (l3 : List Int) (v5 : Value) (l5 : List Int) (c : List Value) (W : World) : Prop :=
  Kd.H k41 41 W w0.heap.size P0 (.slice (some ⟨g, 0, none⟩) n cap) ys i oki c ∧ Below w0.heap.size w0 W ∧ Kept w W P0 ∧ Kd.R (Kd.int .i64) 3 W w0.heap.size oki v3 l3 ∧ Kd.R (Kd.int .i64) 3 W w0.heap.size oki v5 l5 ∧ (∀ k, oki k → P0 k ∧ k ≠ g) ∧ w0.heap.size ≤ g ∧ P0 g ∧ i < n ∧ KV v3 v5
section
variable {w0 w W : World} {P0 oki : Nat → Prop} {g n cap i : Nat} {ys : List S41} {v3 v5 : Value} {l3 l5 : List Int} {c : List Value}
theorem MkS.at_ (h : MkS w0 w P0 oki g n cap ys i v3 l3 v5 l5 c W) (j : Nat) (u : Value) (hu : c[j]? = some u) : W.cell? ⟨g, i * 6 + j, none⟩ = some u ∧ W.frozen? ⟨g, i * 6 + j, none⟩ = false := H_at h.1 (by omega) (by have := h.2.2.2.2.2.2.2.2.1; omega) j u hu
theorem MkS.below (h : MkS w0 w P0 oki g n cap ys i v3 l3 v5 l5 c W) : Below w0.heap.size w0 W := h.2.1
theorem MkS.r3 (h : MkS w0 w P0 oki g n cap ys i v3 l3 v5 l5 c W) : Kd.R (Kd.int .i64) 3 W w0.heap.size (fun k => some k = v3.ownBlock) v3 l3 := Kd.R_tight rfl h.2.2.2.1
theorem MkS.r5 (h : MkS w0 w P0 oki g n cap ys i v3 l3 v5 l5 c W) : Kd.R (Kd.int .i64) 3 W w0.heap.size (fun k => some k = v5.ownBlock) v5 l5 := Kd.R_tight rfl h.2.2.2.2.1
theorem MkS.put (h : MkS w0 w P0 oki g n cap ys i v3 l3 v5 l5 c W) (hc : c.length = 6) (j : Nat) (hj : j < 6) (u : Value) (hu : u.oneCell' = true) {W' : World} (hw : W' = W.setCell ⟨g, i * 6 + j, none⟩ u) : MkS w0 w P0 oki g n cap ys i v3 l3 v5 l5 (c.set j u) W' := by
  obtain ⟨h1, h2, h3, h4, h5, h6, h7, h8, h9, h10⟩ := h
  obtain ⟨p1, p2⟩ := H_put h1 (by omega) (by omega) j u (by omega) hc hu
  have e : (W.setCell ⟨g, (i : Int).toNat * (k41).sz + j, none⟩ u) = W' := hw.symm
  rw [e] at p1 p2
  have hn : ∀ k, oki k → some k ≠ some g := fun k hk he => (h6 k hk).2 (by injection he)
  exact ⟨p1, by rw [hw]; exact below_set h2 h7, Kept.of_grown p2 h3 (fun k he => by injection he with he; subst he; exact .inl h8), Kd.R_grown h4 p2 hn, Kd.R_grown h5 p2 hn, h6, h7, h8, h9, h10⟩
/-- The key's row has been marked. -/
theorem MkS.key {W' : World} {l3' : List Int} (h : MkS w0 w P0 oki g n cap ys i v3 l3 v5 l5 c W) (hr : Kd.R (Kd.int .i64) 3 W' w0.heap.size (fun k => some k = v3.ownBlock) v3 l3') (hb : Below w0.heap.size w0 W') (hk : Kept W W' (fun k => some k = v3.ownBlock)) : MkS w0 w P0 oki g n cap ys i v3 l3' v5 l5 c W' := by
  obtain ⟨h1, h2, h3, h4, h5, h6, h7, h8, h9, h10⟩ := h
  have hin : ∀ k, some k = v3.ownBlock → oki k := fun k hk => h4.1 k hk.symm
  refine ⟨Kd.H_step h1 (fun k _ hn hlt => hk.2 k hlt (fun he => hn (hin k he))), hb, h3.then_ hk (fun k he => .inl (h6 k (hin k he)).1), Kd.R_mono hr hin, ?_, h6, h7, h8, h9, h10⟩
  refine Kd.R_reok rfl (Kd.R_move (Kd.R_tight rfl h5) (fun k he => hk.2 k (Kd.R_lt h5 k he.symm) (fun he2 => h10 k he2.symm he.symm))) (fun k he => h5.1 k he)
theorem MkS.val {W' : World} {l5' : List Int} (h : MkS w0 w P0 oki g n cap ys i v3 l3 v5 l5 c W) (hr : Kd.R (Kd.int .i64) 3 W' w0.heap.size (fun k => some k = v5.ownBlock) v5 l5') (hb : Below w0.heap.size w0 W') (hk : Kept W W' (fun k => some k = v5.ownBlock)) : MkS w0 w P0 oki g n cap ys i v3 l3 v5 l5' c W' := by
  obtain ⟨h1, h2, h3, h4, h5, h6, h7, h8, h9, h10⟩ := h
  have hin : ∀ k, some k = v5.ownBlock → oki k := fun k hk => h5.1 k hk.symm
  refine ⟨Kd.H_step h1 (fun k _ hn hlt => hk.2 k hlt (fun he => hn (hin k he))), hb, h3.then_ hk (fun k he => .inl (h6 k (hin k he)).1), ?_, Kd.R_mono hr hin, h6, h7, h8, h9, h10⟩
  refine Kd.R_reok rfl (Kd.R_move (Kd.R_tight rfl h4) (fun k he => hk.2 k (Kd.R_lt h4 k he.symm) (fun he2 => h10 k he.symm he2.symm))) (fun k he => h4.1 k he)
theorem MkS.done (h : MkS w0 w P0 oki g n cap ys i v3 l3 v5 l5 c W) (x' : S41) (hc : c = [.int .i64 x'.f0, .int .i64 x'.f1, .bool x'.f2, v3, .bool x'.f4, v5]) (e3 : x'.f3 = l3) (e5 : x'.f5 = l5) : Kd.S k41 41 W w0.heap.size P0 (.slice (some ⟨g, 0, none⟩) n cap) (ys.set i x') ∧ Below w0.heap.size w0 W ∧ Kept w W P0 := by
  obtain ⟨h1, h2, h3, h4, h5, h6, h7, h8, h9, h10⟩ := h
  subst hc
  exact ⟨Kd.H_back h1 (k41_mkM _ _ _ x' (by rw [e3]; exact h4) (by rw [e5]; exact h5) h10) (fun _ hk => hk), h2, h3⟩
end
set_option maxHeartbeats 4000000 in
set_option maxRecDepth 100000 in
theorem laws_markRecordS.callsA (P0 : Nat → Prop) (u : Value) (l : List S41) (a : Int) (w0 w : World) (hB : Below w0.heap.size w0 w) (ho : Kd.S k41 41 w w0.heap.size P0 u l) (h0 : 0 ≤ a) (h1 : a + (totR l : Int) ≤ 4000000000000000000) :
    Calls Try.prog 35 #[u, .int .i64 a] w fun e w' => e = .returned (.int .i64 (a + (totR l : Int))) ∧ Kd.S k41 41 w' w0.heap.size P0 u (mkRow a l) ∧ Below w0.heap.size w0 w' ∧ Kept w w' P0 := by
  obtain ⟨A, cap, rfl⟩ := Kd.S_slice ho
  have HN := Aside0.mk h0
  have HT := Aside0.mk h1
  have HS0 := Aside0.mk ho
  have HB0 := Aside0.mk hB
  have hmax : l.length ≤ 9223372036854775807 := by
    have := (Kd.S_reads' ho).2.2.2.1
    exact this
  clear h0 h1 ho hB
  go_enter Try.func35, Try.ntmps35
  go_wp2
  go_loopw [1, 5] (fun v1 v5 wr => ∃ i : Nat, v5 = .int .i64 i ∧ v1 = .int .i64 (a + (totR (l.take i) : Int)) ∧ i ≤ l.length ∧ Aside0 (Kd.S k41 41 wr w0.heap.size P0 (.slice A l.length cap) (mkRow a (l.take i) ++ l.drop i)) ∧ Aside0 (Below w0.heap.size w0 wr) ∧ Aside0 (Kept w wr P0)) (fun _ v5 _ => l.length - (intOf v5).toNat)
  case atStart => exact ⟨0, rfl, by simp [totR], Nat.zero_le _, by simpa [mkRow] using HS0, HB0, ⟨Kept.refl _ _⟩⟩
  case round =>
    obtain ⟨i, rfl, rfl, hi, HS, HB, HK⟩ := hrel
    by_cases hlt : i < l.length
    · have hx := mkRow_at a l i hlt z41
      have hset := Aside0.mk (mkRow_set a l i hlt)
      have htk := Aside0.mk (totR_take hlt)
      have hle := cntR_le hlt
      have hlen := Aside0.mk (mkRow_len2 a l i hi)
      have hT := HT.out
      have hN := HN.out
      have hx1b : 0 ≤ a + (totR (l.take i) : Int) := by omega
      have hx1c : a + (totR (l.take i) : Int) + (cntR l[i] : Int) ≤ 4000000000000000000 := by omega
      have HNX := Aside0.mk (show a + (totR (l.take (i + 1)) : Int) = (a + (totR (l.take i) : Int)) + (cntR l[i] : Int) by rw [htk.out]; omega)
      clear hT hN hle htk
      generalize a + (totR (l.take i) : Int) = x1 at *
      generalize mkRow a (l.take i) ++ l.drop i = ys at *
      generalize l[i] = x at *
      have hcx : (cntR x : Int) = 4 + x.f3.length + x.f5.length := by simp [cntR]
      obtain ⟨g, cap', e0, hgb, hgl, cells, hgc⟩ := Kd.S_form HS.out (by rw [hlen.out]; omega)
      injection e0 with e1 e2 e3
      subst e1
      subst e3
      clear e2
      obtain ⟨oki, c, hcl, hM, hcc, hfr, hoki, hH⟩ := Kd.S_elem HS.out z41 (i : Int) (by omega) (by omega)
      rw [Int.toNat_natCast, hx] at hM
      have hkv := k41_kv hM
      obtain ⟨v3, v5, rfl, g3, g5⟩ := k41_openM hM
      have hkv' : KV v3 v5 := hkv
      have hPg : P0 g := (Kd.S_R HS.out).1 g rfl
      obtain ⟨A3, c3, rfl⟩ := Kd.R_slice g3
      obtain ⟨A5, c5, rfl⟩ := Kd.R_slice g5
      have HH := Aside0.mk (show MkS w0 w P0 oki g l.length cap ys i (.slice A3 x.f3.length c3) x.f3 (.slice A5 x.f5.length c5) x.f5 _ wr from ⟨hH, HB.out, HK.out, g3, g5, hoki, hgb, hPg, hlt, hkv'⟩)
      have d0 := HH.out.at_ 0 _ rfl
      have hwA : wrap64 (x1 + 1) = x1 + 1 := by simp only [wrap64]; omega
      have hwB : wrap64 (x1 + 1 + 1) = x1 + 2 := by simp only [wrap64]; omega
      have hwC : wrap64 (x1 + 2 + 1) = x1 + 3 := by simp only [wrap64]; omega
      have hwD : wrap64 (x1 + 3 + (x.f3.length : Int) + 1) = x1 + 4 + x.f3.length := by simp only [wrap64]; omega
      have HX1 := Aside0.mk hx1b
      have HX2 := Aside0.mk (And.intro hx1c hcx)
      clear hkv hcc hfr hcl hM hH g3 g5 hkv' hoki hgc hgl hgb hx hPg HB HK HS hx1b hx1c hcx
      rw [Nat.add_zero] at d0
      obtain ⟨hd, hf⟩ := d0
      go_wp2_with (first
        | ((with_reducible refine gate_store (t := 3) (p := 16) rfl ?_); refine store_event (t := 3) (p := 16) (v := ?v1) (w1 := (wr.setCell ⟨g, i * 6, none⟩ (.int .i64 x1))) ?hg ?ho ?hn ?hr ?_; (case ho => rfl); (case hg => rfl); (case hn => rfl); (case hr => first | (go_simp; done) | (go_simp; rfl)); intro w1 hw; replace HH := Aside0.mk (HH.out.put rfl 0 (by decide) _ rfl hw); clear hw hd hf; obtain ⟨hd, hf⟩ := HH.out.at_ 1 _ rfl)
        | ((with_reducible refine gate_store (t := 3) (p := 23) rfl ?_); refine store_event (t := 3) (p := 23) (v := ?v2) (w1 := (w1.setCell ⟨g, i * 6 + 1, none⟩ (.int .i64 (x1 + 1)))) ?hg ?ho ?hn ?hr ?_; (case ho => rfl); (case hg => rfl); (case hn => rfl); (case hr => first | (go_simp; done) | (go_simp; rfl)); intro w2 hw; replace HH := Aside0.mk (HH.out.put rfl 1 (by decide) _ rfl hw); clear hw hd hf; obtain ⟨hd, hf⟩ := HH.out.at_ 2 _ rfl)
        | ((with_reducible refine gate_store (t := 4) (p := 32) rfl ?_); refine store_event (t := 4) (p := 32) (v := ?v3) (w1 := (w2.setCell ⟨g, i * 6 + 2, none⟩ (.bool (Int.tmod (x1 + 2) 3 == 0)))) ?hg ?ho ?hn ?hr ?_; (case ho => rfl); (case hg => rfl); (case hn => rfl); (case hr => first | (go_simp; done) | (go_simp; rfl)); intro w3 hw; replace HH := Aside0.mk (HH.out.put rfl 2 (by decide) _ rfl hw); clear hw hd hf; obtain ⟨hd, hf⟩ := HH.out.at_ 3 _ rfl)
        | (go_at_call 56; with_reducible refine (markI (.slice A3 x.f3.length c3) x.f3 (x1 + 3) w0 w3 HH.out.below HH.out.r3 (by have := HX1.out; have := HX2.out; omega) (by have := HX1.out; omega) (by have := HX2.out; omega)).mono ?_; rintro e w4 ⟨rfl, m1, m2, m3⟩; replace HH := Aside0.mk (HH.out.key m1 m2 m3); clear m1 m2 m3 hd hf; obtain ⟨hd, hf⟩ := HH.out.at_ 4 _ rfl)
        | ((with_reducible refine gate_store (t := 4) (p := 48) rfl ?_); refine store_event (t := 4) (p := 48) (v := ?v4) (w1 := (w4.setCell ⟨g, i * 6 + 4, none⟩ (.bool (Int.tmod (x1 + 3 + (x.f3.length : Int)) 3 == 0)))) ?hg ?ho ?hn ?hr ?_; (case ho => rfl); (case hg => rfl); (case hn => rfl); (case hr => first | (go_simp; done) | (go_simp; rfl)); intro w5 hw; replace HH := Aside0.mk (HH.out.put rfl 4 (by decide) _ rfl hw); clear hw hd hf; obtain ⟨hd, hf⟩ := HH.out.at_ 5 _ rfl)
        | (go_at_call 56; with_reducible refine (markI (.slice A5 x.f5.length c5) x.f5 (x1 + 4 + (x.f3.length : Int)) w0 w5 HH.out.below HH.out.r5 (by have := HX1.out; have := HX2.out; omega) (by have := HX1.out; omega) (by have := HX2.out; omega)).mono ?_; rintro e w6 ⟨rfl, m1, m2, m3⟩; replace HH := Aside0.mk (HH.out.val m1 m2 m3); clear m1 m2 m3 hd hf))
      have HD := HH.out.done (mkRec x1 x) rfl rfl rfl
      rw [hset.out] at HD
      go_roundw
      case measure => simp only [intOf]; omega
      case rel => exact ⟨i + 1, by simp, by rw [HNX.out]; have := HX2.out.2; congr 1; omega, by omega, ⟨HD.1⟩, ⟨HD.2.1⟩, ⟨HD.2.2⟩⟩
    · have hil : i = l.length := by omega
      subst hil
      go_wp2
      go_ret
      rw [List.take_length, List.drop_length, List.append_nil] at HS
      exact ⟨by simp, HS.out, HB.out, HK.out⟩
end Go.Proofs.Ythlnbbehcpdnfaa.G

