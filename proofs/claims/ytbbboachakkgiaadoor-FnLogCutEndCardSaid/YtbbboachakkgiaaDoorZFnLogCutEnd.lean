/- A text of seat YtbbboachakkgiaaDoor: what the law FnLogCutEnd needs of this repo's texts (by pack.py). Not trusted: Lean checks it. -/
import Derived.Test.YtbbboachakkgiaaDoorKFnLogCutEnd10
import Derived.Test.YtbbboachakkgiaaDoorRows
import Derived.Test.YtbbboachakkgiaaDoorCards
import Derived.Test.YtbbboachakkgiaaDoorTie
import Derived.SevenTiedAt
import Derived.WalkSmall
import Derived.ChangeVars
import Derived.JoinedOf
import Derived.LaidLaws
import Derived.LaidHandle
import Derived.Stop.LaidErr
import Derived.Stop.LaidTwo
import Derived.Stop.Joined
import Derived.RowKitTokens
import Derived.WalkKit
import Derived.ProofKit
import Derived.OpenShut
import Derived.ShutString
import Derived.ChangeOld
import Derived.Below
import Derived.SizedLaws
import Derived.Lib.SmallJoins
import Derived.Laws.StructEq
import Derived.ChangeSlices
namespace Go.Proofs.YtbbboachakkgiaaDoor.Pu
open Go.RowKit Go.Proofs.YtbbboachakkgiaaDoorW.PrintWords Go.Proofs.YtbbboachakkgiaaDoorW.PrintLast Go.Proofs.YtbbboachakkgiaaDoorW.PrintMore Go.Proofs.YtbbboachakkgiaaDoor.G
set_option linter.unusedVariables false
set_option linter.unusedSimpArgs false
def DrL (l : List S47) : Prop := l.length ≤ 9 ∧ ∀ x ∈ l, BatS x.f5
theorem DrL.rowB {l : List S47} (h : DrL l) : RowB l := ⟨by have := h.1; omega, fun x hx => (h.2 x hx).rowR⟩
theorem log_loop {b : List Int} (hb : CodeOk b) (n : Int) (hn : n ≤ 9) : ∀ d (i : Nat) (l : List S47) (o p : Int), 9 - i = d → l.length = i → i ≤ 9 → (∀ x ∈ l, BatS x.f5) → 0 ≤ p → p ≤ 400000000 + 2000 * (i : Int) →
    EndsIn (fun k => spec_l92Log.l0 k l n o (i : Int) b p) (fun r => DrL r.1 ∧ p ≤ r.2 ∧ r.2 ≤ p + 2000 * (9 - (i : Int)) + 10) := by
  have stop : ∀ (i : Nat) (l : List S47) (o p : Int), l.length = i → i ≤ 9 → (∀ x ∈ l, BatS x.f5) → 0 ≤ p → p ≤ 400000000 + 2000 * (i : Int) → ¬ (i : Int) < n →
      EndsIn (fun k => spec_l92Log.l0 k l n o (i : Int) b p) (fun r => DrL r.1 ∧ p ≤ r.2 ∧ r.2 ≤ p + 2000 * (9 - (i : Int)) + 10) := by
    intro i l o p hl hi hs p0 p1 h
    refine EndsIn.step (fun k => by rw [spec_l92Log.l0]) ?_
    simp only [if_neg h]
    by_cases h1 : n > 1
    · simp only [if_pos h1]
      refine EndsIn.bind (pick_ends hb p 30 p0 (by omega) (by omega)) fun q hq => ?_
      rw [hq.1]
      by_cases e0 : q.1 = 0
      · simp only [if_pos e0, if_pos (show (0 : Int) < (l.length : Int) by omega), if_pos (show (1 : Int) < (l.length : Int) by omega)]
        refine EndsIn.now _ ⟨⟨by rw [List.length_set]; omega, fun x hx => ?_⟩, by show p ≤ p + 1; omega, by show p + 1 ≤ _; omega⟩
        rcases List.mem_or_eq_of_mem_set hx with hx | rfl
        · exact hs x hx
        · have := hs _ (List.getElem_mem (show 0 < l.length by omega))
          rw [← rdB_nat l 0 (by omega)] at this
          exact this
      · simp only [if_neg e0]
        exact EndsIn.now _ ⟨⟨by show l.length ≤ 9; omega, hs⟩, by show p ≤ p + 1; omega, by show p + 1 ≤ _; omega⟩
    · simp only [if_neg h1]
      exact EndsIn.now _ ⟨⟨by show l.length ≤ 9; omega, hs⟩, by show p ≤ p; omega, by show p ≤ _; omega⟩
  intro d
  induction d with
  | zero =>
    intro i l o p hd hl hi hs p0 p1
    exact stop i l o p hl hi hs p0 p1 (by omega)
  | succ d ih =>
    intro i l o p hd hl hi hs p0 p1
    by_cases h : (i : Int) < n
    · refine EndsIn.step (fun k => by rw [spec_l92Log.l0]) ?_
      simp only [if_pos h]
      refine EndsIn.bind (bat_ends hb p o p0 (by omega)) fun x hx => ?_
      obtain ⟨x1, x2, x3⟩ := hx
      refine EndsIn.bind (pick_ends hb x.2.2.2.2.2.2 20 (by omega) (by omega) (by omega)) fun q hq => ?_
      have q2 := hq.1
      have nx : ∀ (y : S47) (o' v : Int), BatS y.f5 → p ≤ v → v ≤ p + 2000 → EndsIn (fun k => spec_l92Log.l0 k (l ++ [y]) n o' ((i : Int) + 1) b v) (fun r => DrL r.1 ∧ p ≤ r.2 ∧ r.2 ≤ p + 2000 * (9 - (i : Int)) + 10) := by
        intro y o' v hy v0 v1
        have := ih (i + 1) (l ++ [y]) o' v (by omega) (by rw [List.length_append, hl]; rfl) (by omega) (fun r hr => by
          rcases List.mem_append.1 hr with hr | hr
          · exact hs r hr
          · rw [List.mem_singleton] at hr
            rw [hr]
            exact hy) (by omega) (by omega)
        exact this.mono fun r hr => ⟨hr.1, by omega, by omega⟩
      have st : ∀ (c : Bool), EndsIn (fun k => spec_l92Log.j2 k l n o (i : Int) c b q.2 x.1 x.2.1 x.2.2.1 x.2.2.2.1 x.2.2.2.2.1 x.2.2.2.2.2.1) (fun r => DrL r.1 ∧ p ≤ r.2 ∧ r.2 ≤ p + 2000 * (9 - (i : Int)) + 10) := by
        intro c
        refine EndsIn.step (fun k => by rw [spec_l92Log.j2]) ?_
        cases c
        · obtain ⟨y1, y2, y3⟩ := x1
          simp only [Bool.false_eq_true, if_false, if_pos (show l.length < 2513169434916 by omega), w64 (a := (x.2.2.2.2.2.1.length : Int) - 1) (by omega) (by omega), if_pos (show (0 : Int) ≤ (x.2.2.2.2.2.1.length : Int) - 1 by omega), if_pos (show (x.2.2.2.2.2.1.length : Int) - 1 < (x.2.2.2.2.2.1.length : Int) by omega)]
          refine EndsIn.bind (pick_ends hb q.2 4 (by omega) (by omega) (by omega)) fun z hz => ?_
          rw [hz.1, w64 (a := (i : Int) + 1) (by omega) (by omega)]
          exact nx _ _ _ ⟨y1, y2, y3⟩ (by omega) (by omega)
        · simp only [if_true]
          refine EndsIn.bind (recs_ends hb q.2 o 2 (by omega) (by omega) (by omega) (by omega)) fun s hs => ?_
          obtain ⟨s1, s2, s3, s4, s5⟩ := hs
          simp only [if_pos (show l.length < 2513169434916 by omega), w64 (a := (s.1.length : Int) - 1) (by omega) (by omega), if_pos (show (0 : Int) ≤ (s.1.length : Int) - 1 by omega), if_pos (show (s.1.length : Int) - 1 < (s.1.length : Int) by omega)]
          refine EndsIn.bind (pick_ends hb s.2 4 (by omega) (by omega) (by omega)) fun z hz => ?_
          rw [hz.1, w64 (a := (i : Int) + 1) (by omega) (by omega)]
          exact nx _ _ _ ⟨s1, s2, by show s.1.length ≤ 7; omega⟩ (by omega) (by omega)
      by_cases e0 : q.1 > 0
      · simp only [if_pos e0]
        refine EndsIn.bind (P := fun _ => True) ⟨_, sBatchValid_ev ⟨x.1, x.2.1, x.2.2.1, x.2.2.2.1, x.2.2.2.2.1, x.2.2.2.2.2.1⟩ x1.rowR, trivial⟩ fun t _ => ?_
        exact st _
      · simp only [if_neg e0]
        exact st _
    · exact stop i l o p hl hi hs p0 p1 h
theorem drawLog_ends {b : List Int} (hb : CodeOk b) (p : Int) (h0 : 0 ≤ p) (h1 : p ≤ 300000000) : EndsIn (fun k => spec_l92Log.f k b p) (fun r => DrL r.1 ∧ p ≤ r.2 ∧ r.2 ≤ p + 20000) := by
  have st : ∀ (n q : Int), n ≤ 9 → p ≤ q → q ≤ p + 10 → EndsIn (fun k => spec_l92Log.j0 k [] n b q) (fun r => DrL r.1 ∧ p ≤ r.2 ∧ r.2 ≤ p + 20000) := by
    intro n q hn hq0 hq1
    refine EndsIn.step (fun k => by rw [spec_l92Log.j0]) ?_
    refine EndsIn.bind (pick_ends hb q 10 (by omega) (by omega) (by omega)) fun t ht => ?_
    rw [ht.1]
    have := log_loop hb n hn 9 0 [] t.1 (q + 1) (by omega) rfl (by omega) (by simp) (by omega) (by omega)
    exact this.mono fun r hr => ⟨hr.1, by omega, by omega⟩
  unfold spec_l92Log.f
  simp only [bindS]
  refine EndsIn.bind (pick_ends hb p 5 h0 (by omega) (by omega)) fun q hq => ?_
  obtain ⟨q2, q3, q4, _⟩ := hq
  have q5 := q4 (by omega)
  rw [q2]
  refine EndsIn.bind (pick_ends hb (p + 1) 16 (by omega) (by omega) (by omega)) fun s hs => ?_
  rw [hs.1]
  by_cases hz : s.1 = 0
  · simp only [if_pos hz]
    refine EndsIn.bind (pick_ends hb (p + 1 + 1) 3 (by omega) (by omega) (by omega)) fun u hu => ?_
    obtain ⟨u2, u3, u4, _⟩ := hu
    have u5 := u4 (by omega)
    simp only [if_pos u3, if_pos (show u.1 < (([0, 8, 9] : List Int).length : Int) by simpa using u5)]
    rw [u2]
    refine st _ _ ?_ (by omega) (by omega)
    have : u.1 = 0 ∨ u.1 = 1 ∨ u.1 = 2 := by omega
    rcases this with e | e | e <;> (rw [e]; decide)
  · simp only [if_neg hz, w64 (a := 1 + q.1) (by omega) (by omega)]
    exact st _ _ (by omega) (by omega) (by omega)
end Go.Proofs.YtbbboachakkgiaaDoor.Pu

namespace Go.Proofs.YtbbboachakkgiaaDoor.Pu
open Go.RowKit Go.Proofs.YtbbboachakkgiaaDoorW.PrintWords Go.Proofs.YtbbboachakkgiaaDoorW.PrintLast Go.Proofs.YtbbboachakkgiaaDoor.G
set_option linter.unusedVariables false
set_option linter.unusedSimpArgs false
theorem open_some (l0 : List Int) (hr : ∀ x ∈ l0, 0 ≤ x ∧ x ≤ 255) : ∃ b, spec_l6Open.f l0 = some (b, 0) ∧ CodeOk b := by
  unfold spec_l6Open.f
  by_cases h : (l0.length : Int) > 2000
  · rw [if_pos h, if_pos (by omega)]
    exact ⟨_, rfl, by rw [List.length_take]; omega, fun x hx => hr x (List.mem_of_mem_take hx)⟩
  · rw [if_neg h]
    exact ⟨_, rfl, by omega, hr⟩
end Go.Proofs.YtbbboachakkgiaaDoor.Pu

namespace Go.Proofs.YtbbboachakkgiaaDoor.Pu
open Go.RowKit Go.Proofs.YtbbboachakkgiaaDoorW.PrintWords Go.Proofs.YtbbboachakkgiaaDoorW.PrintLast Go.Proofs.YtbbboachakkgiaaDoorW.PrintMore Go.Proofs.YtbbboachakkgiaaDoor.G
set_option linter.unusedVariables false
set_option linter.unusedSimpArgs false
theorem lcut_all (o : Int) (P : BT → Prop) : ∀ (l acc : List BT), (∀ b ∈ acc, P b) → (∀ b ∈ l, lastOf b < o → P b) → (∀ b ∈ l, cutGood b o = true → P (aheadB b o)) → ∀ b ∈ (lcut o l acc).1, P b
  | [], acc, ha, _, _ => ha
  | x :: l, acc, ha, h1, h2 => by
    have k1 : ∀ b ∈ l, lastOf b < o → P b := fun b hb => h1 b (List.mem_cons_of_mem _ hb)
    have k2 : ∀ b ∈ l, cutGood b o = true → P (aheadB b o) := fun b hb => h2 b (List.mem_cons_of_mem _ hb)
    have app : ∀ y, P y → ∀ b ∈ acc ++ [y], P b := fun y hy b hb => by
      rcases List.mem_append.1 hb with hb | hb
      · exact ha b hb
      · rw [List.mem_singleton] at hb
        rw [hb]
        exact hy
    rw [lcut]
    by_cases c1 : lastOf x < o
    · rw [if_pos c1]
      exact lcut_all o P l _ (app _ (h1 x List.mem_cons_self c1)) k1 k2
    · rw [if_neg c1]
      by_cases c2 : firstOf x < o
      · rw [if_pos c2]
        by_cases c3 : cutGood x o = true
        · rw [if_pos c3]
          exact lcut_all o P l _ (app _ (h2 x List.mem_cons_self c3)) k1 k2
        · rw [if_neg c3]
          intro b hb
          simp at hb
      · rw [if_neg c2]
        exact lcut_all o P l _ ha k1 k2
theorem lcut_len (o : Int) : ∀ (l acc : List BT), (lcut o l acc).1.length ≤ acc.length + l.length
  | [], acc => by simp [lcut]
  | x :: l, acc => by
    rw [lcut]
    by_cases c1 : lastOf x < o
    · rw [if_pos c1]
      have := lcut_len o l (acc ++ [x])
      simp only [List.length_append, List.length_cons, List.length_nil] at this ⊢
      omega
    · rw [if_neg c1]
      by_cases c2 : firstOf x < o
      · rw [if_pos c2]
        by_cases c3 : cutGood x o = true
        · rw [if_pos c3]
          have := lcut_len o l (acc ++ [aheadB x o])
          simp only [List.length_append, List.length_cons, List.length_nil] at this ⊢
          omega
        · rw [if_neg c3]
          simp
      · rw [if_neg c2]
        have := lcut_len o l acc
        simp only [List.length_cons]
        omega
theorem ahead_row {b : BT} {o : Int} (h : RowR b.f5) : RowR (aheadB b o).f5 :=
  ⟨Nat.le_trans (List.length_filter_le _ _) h.1, fun r hr => h.2 r (List.mem_filter.1 hr).1⟩
theorem ahead_last {b : BT} {o : Int} (h : cutGood b o = true) : lastOf (aheadB b o) < o := by
  unfold cutGood at h
  simp only [Bool.and_eq_true, Bool.not_eq_true'] at h
  have hne : aheadL b.f5 o ≠ [] := fun e => by rw [e] at h; simp at h
  have hpos := List.length_pos_iff.2 hne
  unfold lastOf aheadB
  simp only
  rw [show ((aheadL b.f5 o).length : Int) - 1 = (((aheadL b.f5 o).length - 1 : Nat) : Int) by omega, rdR_nat _ _ (by omega)]
  have := (List.mem_filter.1 (List.getElem_mem (l := aheadL b.f5 o) (n := (aheadL b.f5 o).length - 1) (by omega))).2
  simpa using this
theorem logCut_row {l : List BT} (o : Int) (h : RowB l) : RowB (logCutV l o).1 := by
  unfold logCutV
  by_cases hv : logOk l = true
  · rw [if_pos hv]
    refine ⟨?_, lcut_all o (fun b => RowR b.f5) l [] (fun b hb => by simp at hb) (fun b hb _ => h.2 b hb) (fun b hb _ => ahead_row (h.2 b hb))⟩
    have := lcut_len o l []
    have h1 := h.1
    simp only [List.length_nil] at this
    omega
  · rw [if_neg hv]
    exact ⟨by simp, fun b hb => by simp at hb⟩
theorem logCut_last (l : List BT) (o : Int) : ∀ b ∈ (logCutV l o).1, lastOf b < o := by
  unfold logCutV
  by_cases hv : logOk l = true
  · rw [if_pos hv]
    exact lcut_all o (fun b => lastOf b < o) l [] (fun b hb => by simp at hb) (fun b hb h => h) (fun b hb h => ahead_last h)
  · rw [if_neg hv]
    intro b hb
    simp at hb
theorem readEnd_le (l : List BT) (o : Int) (h0 : 0 ≤ o) (h1 : o ≤ 1000) (hl : ∀ b ∈ l, lastOf b < o) : EndsIn (fun k => impl_ReadEnd.f k l) (fun n => n ≤ o ∨ n = 0) := by
  unfold impl_ReadEnd.f
  simp only [impl_LogValid.f, bindS]
  by_cases hv : logOk l = true
  · simp only [if_pos hv]
    have hn := logOk_len hv
    by_cases hz : l.length = 0
    · simp only [if_pos (show (l.length : Int) = 0 by omega)]
      exact EndsIn.now _ (.inr rfl)
    · have hlt : l.length - 1 < l.length := by omega
      have hb := logOk_bat hv _ hlt
      have hnb := batOk_len hb
      have hlo : 0 ≤ lastOf l[l.length - 1] := by
        have := batOk_rec hb (l[l.length - 1].f5.length - 1) (by omega)
        rw [lastOf_eq (by omega)]
        unfold recOk rng at this
        simp only [Bool.and_eq_true, decide_eq_true_eq] at this
        omega
      have hup := hl _ (List.getElem_mem hlt)
      simp only [if_neg (show ¬ (l.length : Int) = 0 by omega), w64 (a := (l.length : Int) - 1) (by omega) (by omega), if_pos (show (0 : Int) ≤ (l.length : Int) - 1 by omega), if_pos (show (l.length : Int) - 1 < (l.length : Int) by omega)]
      rw [show (l.length : Int) - 1 = ((l.length - 1 : Nat) : Int) by omega, rdB_nat l _ hlt, last_ev _ hnb]
      simp only [bindS]
      rw [w64 (by omega) (by omega)]
      exact EndsIn.now _ (.inl (by omega))
  · simp only [if_neg hv]
    exact EndsIn.now _ (.inl (by omega))
theorem drawLC_ends {b : List Int} (hb : CodeOk b) : EndsIn (fun k => (spec_l92Log.f k b 0).bind fun bt272 => ((spec_l6Rd_pick.f k b bt272.2 26).bind fun bt276 => (some (bt272.1, bt276.1)))) (fun r => DrL r.1 ∧ 0 ≤ r.2 ∧ r.2 < 26) := by
  refine EndsIn.bind (drawLog_ends hb 0 (by omega) (by omega)) fun r hr => ?_
  refine EndsIn.bind (pick_ends hb r.2 26 (by omega) (by omega) (by omega)) fun s hs => ?_
  refine EndsIn.now _ ⟨hr.1, ?_⟩
  have := hs
  simp only at this ⊢
  omega
end Go.Proofs.YtbbboachakkgiaaDoor.Pu

namespace Go.Proofs.YtbbboachakkgiaaDoor.Pure
open Go.RowKit Go.Proofs.YtbbboachakkgiaaDoor.G Go.Proofs.YtbbboachakkgiaaDoorW.PrintWords Go.Proofs.YtbbboachakkgiaaDoorW.PrintLast Go.Proofs.YtbbboachakkgiaaDoorW.PrintMore Go.Proofs.YtbbboachakkgiaaDoor.Pu
set_option linter.unusedSimpArgs false
set_option linter.unusedVariables false
theorem FnLogCutEnd : OFnLogCutEnd.Pure := by
  intro l0 hl0 ho0
  refine EndsIn.rounds ?_
  unfold laws_FnLogCutEnd.f
  have hr := fun x hx => u8_range (ho0 x hx)
  by_cases h : (l0.length : Int) > 1048576
  · simp only [if_pos h]
    exact EndsIn.now _ rfl
  · simp only [if_neg h]
    obtain ⟨c, hc, hok⟩ := open_some l0 hr
    unfold spec_DrawLogCut.f
    simp only [hc, bindS]
    refine EndsIn.bind (P := fun r => DrL r.1 ∧ 0 ≤ r.2 ∧ r.2 < 26) (drawLC_ends hok) fun q hq => ?_
    obtain ⟨l, o⟩ := q
    obtain ⟨dl, h0, h1⟩ := hq
    simp only at h0 h1
    have hB := logCut_row o (DrL.rowB dl)
    refine EndsIn.bind (P := fun r => r = logCutV l o) ⟨_, LogCut_ev l o, rfl⟩ fun r hr1 => ?_
    subst hr1
    refine EndsIn.bind (P := fun r => r = logCutV l o) ⟨_, sLogCut_ev l o, rfl⟩ fun r hr2 => ?_
    subst hr2
    simp only [bne_self_eq_false, Bool.false_eq_true, if_false]
    refine EndsIn.bind (P := fun r => r = true) ⟨_, selfLog _ hB, rfl⟩ fun r hr3 => ?_
    subst hr3
    simp only [if_true]
    refine EndsIn.step (fun k => by rw [laws_FnLogCutEnd.j0]) ?_
    cases hk : (logCutV l o).2
    · simp only [Bool.not_false, if_true, beq_self_eq_true]
      refine EndsIn.bind (P := fun r => r = true) ⟨_, selfLog _ hB, rfl⟩ fun r hr4 => ?_
      subst hr4
      exact EndsIn.now _ rfl
    · simp only [Bool.not_true, Bool.false_eq_true, if_false]
      refine EndsIn.bind (readEnd_le _ o h0 (by omega) (logCut_last l o)) fun n hn => ?_
      by_cases hle : n ≤ o
      · simp only [if_pos hle]
        exact EndsIn.now _ rfl
      · simp only [if_neg hle]
        have : n = 0 := hn.resolve_left hle
        subst this
        exact EndsIn.now _ rfl
end Go.Proofs.YtbbboachakkgiaaDoor.Pure

namespace Go.Proofs.YtbbboachakkgiaaDoor.fnLogCutEnd
open Go.ChangeShapes Go.WideShapes Go.ChangeAt Go.RowKit Go.Proofs.YtbbboachakkgiaaDoor.OFnLogCutEnd Go.Proofs.YtbbboachakkgiaaDoor.G Go.Joins
open Go.ChangeMaps (open_string shut_string)
set_option linter.unusedVariables false
theorem own : ownKnob Tryd.prog.godebug = none := by kernel_rfl
theorem laidOut : laidOutB Tryd.prog = true := by kernel_rfl
theorem star : "*" ++ "errors.errorString" = "*errors.errorString" := by decide
theorem cellsE : Tryd.prog.cellsOf 174 = 1 := by kernel_rfl
theorem cellsS : Tryd.prog.cellsOf 9 = 1 := by kernel_rfl
theorem g0 : Tryd.prog.globalNamed "loop.example/recordbatches/impl.errNoCut" = some 1 := by kernel_rfl
theorem gT0 : (Tryd.prog.globals[1]?).map (·.type) = some 71 := by kernel_rfl
abbrev text0 : ByteArray := { data := #[110, 111, 32, 99, 117, 116] }
theorem rowE (u : TypeId) (h : Tryd.prog.typeName? 3 u = some "*errors.errorString") : u = 151 :=
  typeName_ptr_named (nm := "errors.errorString") (by rw [star]; kernel_rfl) (by kernel_rfl) (by decide) u (by rw [star]; exact h)
noncomputable def low : Nat := (World.holding Tryd.prog default ⟨#[], #[], []⟩).heap.size
noncomputable def laidWorld (os : Os) : World :=
  let w0 := World.holding Tryd.prog os ⟨#[.cells #[.string text0] 174], #[], []⟩
  { w0 with heap := (w0.heap.modify 1 fun | .cells _ t frozen => .cells #[.iface 151 (.pointer (some ⟨low + 0, 0, none⟩))] t frozen | o => o) }
theorem laid_met (os : Os) (args : Array Value) : laidMetH Tryd.prog Rows.fnLogCutEndRow.laid ((laidWorld os).forCall (fun _ _ => 0) ⟨#[], args, []⟩).memory :=
  laidMetH_of_parts (laidMet_of_run (ps := [.cell 1 0, .cell (low + 0) 0]) 8 (by kernel_rfl) (by kernel_rfl) (by kernel_rfl)) (by kernel_rfl)
set_option maxRecDepth 100000 in
theorem lifted (os : Os) (started : os.Started) (H : Type) (enc : TypeId × Value → H) :
    ReturnsInHanded {} Tryd.checked os 4 .any (fun w args => (Rows.fnLogCutEndSpec.pre enc Tryd.prog Tryd.f4 Rows.fnLogCutEndRow.domain false w args ∧ laidMetH Tryd.prog Rows.fnLogCutEndRow.laid w) ∧ sizedMet enc Tryd.prog Tryd.f4 (OpenSpec.ofChange Rows.fnLogCutEndSpec) false w args) (Rows.fnLogCutEndSpec.post enc Tryd.prog Tryd.f4 false true false false) := by
  refine returnsInHanded_of_change_and (C := Tryd.checked) (X := fun w _ => laidMetH Tryd.prog Rows.fnLogCutEndRow.laid w) (fun _ _ _ hh h => h.of_heap hh) own started (by kernel_rfl) Tryd.func4
    (ChangeSpec.witness_at (enc := enc) (C := Tryd.checked) (os := os) (X := fun w _ => laidMetH Tryd.prog Rows.fnLogCutEndRow.laid w) false (laidWorld os) #[.slice none 0 0] 8 rfl (by kernel_rfl) (by kernel_rfl) (by kernel_rfl) (by kernel_rfl) (by kernel_rfl) (laid_met os _)) ?_
  intro W base args ds gs before hval0 hW hcnd hsz0 hLL _
  have hsz : (DataW.weightsEach Tryd.prog (Tryd.f4.params.toList ++ Rows.fnLogCutEndSpec.plain.varTypes Tryd.prog) (ds ++ gs)).all (· ≤ reachBytes) = true := hsz0
  have hval : ∀ (j : Nat) t v, Tryd.f4.params[j]? = some t → args[j]? = some v → Value.okWide Tryd.prog W .any base t v := hval0
  have hW' := hW
  obtain ⟨p, q, hA0, hV, rfl, hfz, hnd⟩ := hW
  have hA : DataW.TrodAll enc Tryd.prog W 0 (fun _ => true) true Tryd.f4.params.toList args.toList ds p := hA0
  rw [Tryd.params4] at hA hval hsz
  obtain ⟨v0, vs0, d0, ds0, p0, q0, hargs, rfl, rfl, h0, r0⟩ := trodAll_cons hA
  obtain ⟨rfl, rfl, rfl⟩ := trodAll_nil r0
  obtain rfl : args = #[v0] := by cases args; simp_all
  have hL : laidMet Tryd.prog Rows.fnLogCutEndRow.laid W := hLL
  obtain ⟨b0, s0, hv0, hc0, hs0, hz0⟩ := laid_sentinel hL g0 gT0 Tryd.underlying71 rowE Tryd.underlying151 Tryd.underlying174 rfl rfl Tryd.underlying9 cellsE cellsS
  obtain ⟨rfl, rfl⟩ := hV.unique (vars_read1 enc g0 gT0 Tryd.underlying71 hv0 trivial _)
  have hg0 : W.cell? ⟨1, 0, none⟩ = some (.iface 151 (.pointer (some b0))) := by simpa using World.var?_cell g0 hv0 0
  obtain ⟨a0, len0, cap0, rfl⟩ := okWide_slice Tryd.underlying22 (hval 0 22 v0 rfl rfl)
  have k0 := h0
  have lt0 : ∀ x ∈ p0, x.block < W.heap.size := by obtain ⟨m, hm⟩ := k0; exact DataW.trod_lt m _ _ _ hm
  obtain ⟨fuel0, hf0⟩ := h0
  obtain ⟨A0, c0, l0, hcs0, hlc0, hm0, hC0, ho0⟩ := Rd.opens_row Tryd.underlying22 (Rd.opens_int Tryd.underlying5 (by kernel_rfl)) hf0
  simp [Value.cells] at hcs0
  obtain ⟨rfl, rfl, rfl⟩ := hcs0
  clear hA0 hval0 hsz0 hsz
  obtain ⟨k, h⟩ := Pure.FnLogCutEnd l0 (Nat.le_trans hlc0 hm0) ho0
  letI : ErrA := ⟨fun n => b0⟩
  have hE : ErrOk [1] W := fun g hg => by
    have hg' : g = 1 := by simpa using hg
    rcases hg' with rfl
    · exact hg0
  refine (laws_FnLogCutEnd.calls k _ _ l0 true W hE hC0 hlc0 h).mono fun e W' ⟨he, bel0⟩ => ?_
  subst he
  have bel : Below W.heap.size W W' := bel0
  have hw0 : W'.var? Tryd.prog "loop.example/recordbatches/impl.errNoCut" = some #[.iface 151 (.pointer (some b0))] := var?_below bel g0 (World.block_lt_of_cell? W _ hg0) hv0
  exact ⟨_, rfl, _, _, _, [], _, _, hW', trodAll_mk1 (shut_bool Tryd.underlying4 _), (trodAll_cons_mk (Below.trod laidOut (by kernel_rfl) (of_decide_eq_true (by kernel_rfl)) k0 bel lt0) trodAll_mk0), vars_read1 enc g0 gT0 Tryd.underlying71 hw0 trivial _, bel.frame _, fun h => by cases h⟩
theorem over : Rows.fnLogCutEndRow.holds Tryd.pinned (OpenSpec.ofChange Rows.fnLogCutEndSpec) :=
  OpenClaim.holds_of_wide 4 Tryd.f4 rfl rfl rfl rfl rfl rfl rfl ⟨rfl, rfl, rfl, rfl, rfl⟩ rfl rfl rfl rfl rfl (by kernel_rfl) Tryd.func4 (by kernel_rfl)
    (of_decide_eq_true (by kernel_rfl)) (by unfold Func.isWrapper; first | (rw [if_pos (by decide +kernel)]; kernel_rfl) | (rw [if_neg (by decide +kernel)]; exact ⟨rfl, rfl⟩))
    (fun os started H enc _ => lifted os started H enc)
theorem proved : Rows.FnLogCutEndSaid := over
#print axioms proved
end Go.Proofs.YtbbboachakkgiaaDoor.fnLogCutEnd
namespace Go.Proofs.YtbbboachakkgiaaDoor
/-- The row, under a short name, for the claim. -/
theorem fnLogCutEnd_holds : Rows.FnLogCutEndSaid := fnLogCutEnd.proved
theorem fnLogCutEnd_card : Rows.FnLogCutEndCardSaid :=
  Claim7.holds_tied_plain_at .later [] [.sentinel] true (true, "2e05aa95766e6917fe95301784a47f45e0e7b4b4973cc25155ec255d9f160fba") true
    fnLogCutEnd_holds (fun _ h => by cases h) (by kernel_rfl) (fun _ h => by cases h) fnLogCutEnd_row_tie rfl ⟨rfl, rfl⟩ (by kernel_rfl) rfl
    (fun f fn hf hfn => by
      obtain rfl : f = 4 := Option.some.inj ((show Tryd.prog.funcNamed "loop.example/recordbatches/laws.FnLogCutEnd" = some 4 by kernel_rfl).symm.trans hf) |>.symm
      obtain rfl : fn = Tryd.f4 := (Option.some.inj (Tryd.func4.symm.trans hfn)).symm
      exact ⟨by kernel_rfl, fun j t ht => by
        rw [Tryd.params4] at ht
        have h3 : t = 22 := by
          rcases j with _ | j
          · have h_ := ht.symm; simp at h_; simp [h_]
          · simp at ht
        rcases h3 with rfl
        · exact (show Tryd.prog.wantsStandIn 22 = false by kernel_rfl)⟩)
    (by kernel_rfl)
#print axioms fnLogCutEnd_card
end Go.Proofs.YtbbboachakkgiaaDoor

