/- A text of seat YtbbboachakkgiaaDoor: what the law FnEvenTwice needs of this repo's texts (by pack.py). Not trusted: Lean checks it. -/
import Derived.Test.YtbbboachakkgiaaDoorKFnEvenTwice14
import Derived.Test.YtbbboachakkgiaaDoorRows
import Derived.Test.YtbbboachakkgiaaDoorCards
import Derived.Test.YtbbboachakkgiaaDoorTie
import Derived.SevenTiedAt
import Derived.WalkSmall
import Derived.ChangeVars
import Derived.JoinedOf
import Derived.LaidLaws
import Derived.LaidHandle
import Derived.Stop.LaidErr
import Derived.Stop.LaidTwo
import Derived.Stop.Joined
import Derived.RowKitTokens
import Derived.WalkKit
import Derived.ProofKit
import Derived.OpenShut
import Derived.ShutString
import Derived.ChangeOld
import Derived.Below
import Derived.SizedLaws
import Derived.Lib.SmallJoins
import Derived.Laws.StructEq
import Derived.ChangeSlices
namespace Go.Proofs.YtbbboachakkgiaaDoor.Pu
open Go.RowKit Go.Proofs.YtbbboachakkgiaaDoorW.PrintWords Go.Proofs.YtbbboachakkgiaaDoorW.PrintLast Go.Proofs.YtbbboachakkgiaaDoorW.PrintMore Go.Proofs.YtbbboachakkgiaaDoor.G
set_option linter.unusedVariables false
set_option linter.unusedSimpArgs false
def DrL (l : List S47) : Prop := l.length ≤ 9 ∧ ∀ x ∈ l, BatS x.f5
theorem DrL.rowB {l : List S47} (h : DrL l) : RowB l := ⟨by have := h.1; omega, fun x hx => (h.2 x hx).rowR⟩
theorem log_loop {b : List Int} (hb : CodeOk b) (n : Int) (hn : n ≤ 9) : ∀ d (i : Nat) (l : List S47) (o p : Int), 9 - i = d → l.length = i → i ≤ 9 → (∀ x ∈ l, BatS x.f5) → 0 ≤ p → p ≤ 400000000 + 2000 * (i : Int) →
    EndsIn (fun k => spec_l92Log.l0 k l n o (i : Int) b p) (fun r => DrL r.1 ∧ p ≤ r.2 ∧ r.2 ≤ p + 2000 * (9 - (i : Int)) + 10) := by
  have stop : ∀ (i : Nat) (l : List S47) (o p : Int), l.length = i → i ≤ 9 → (∀ x ∈ l, BatS x.f5) → 0 ≤ p → p ≤ 400000000 + 2000 * (i : Int) → ¬ (i : Int) < n →
      EndsIn (fun k => spec_l92Log.l0 k l n o (i : Int) b p) (fun r => DrL r.1 ∧ p ≤ r.2 ∧ r.2 ≤ p + 2000 * (9 - (i : Int)) + 10) := by
    intro i l o p hl hi hs p0 p1 h
    refine EndsIn.step (fun k => by rw [spec_l92Log.l0]) ?_
    simp only [if_neg h]
    by_cases h1 : n > 1
    · simp only [if_pos h1]
      refine EndsIn.bind (pick_ends hb p 30 p0 (by omega) (by omega)) fun q hq => ?_
      rw [hq.1]
      by_cases e0 : q.1 = 0
      · simp only [if_pos e0, if_pos (show (0 : Int) < (l.length : Int) by omega), if_pos (show (1 : Int) < (l.length : Int) by omega)]
        refine EndsIn.now _ ⟨⟨by rw [List.length_set]; omega, fun x hx => ?_⟩, by show p ≤ p + 1; omega, by show p + 1 ≤ _; omega⟩
        rcases List.mem_or_eq_of_mem_set hx with hx | rfl
        · exact hs x hx
        · have := hs _ (List.getElem_mem (show 0 < l.length by omega))
          rw [← rdB_nat l 0 (by omega)] at this
          exact this
      · simp only [if_neg e0]
        exact EndsIn.now _ ⟨⟨by show l.length ≤ 9; omega, hs⟩, by show p ≤ p + 1; omega, by show p + 1 ≤ _; omega⟩
    · simp only [if_neg h1]
      exact EndsIn.now _ ⟨⟨by show l.length ≤ 9; omega, hs⟩, by show p ≤ p; omega, by show p ≤ _; omega⟩
  intro d
  induction d with
  | zero =>
    intro i l o p hd hl hi hs p0 p1
    exact stop i l o p hl hi hs p0 p1 (by omega)
  | succ d ih =>
    intro i l o p hd hl hi hs p0 p1
    by_cases h : (i : Int) < n
    · refine EndsIn.step (fun k => by rw [spec_l92Log.l0]) ?_
      simp only [if_pos h]
      refine EndsIn.bind (bat_ends hb p o p0 (by omega)) fun x hx => ?_
      obtain ⟨x1, x2, x3⟩ := hx
      refine EndsIn.bind (pick_ends hb x.2.2.2.2.2.2 20 (by omega) (by omega) (by omega)) fun q hq => ?_
      have q2 := hq.1
      have nx : ∀ (y : S47) (o' v : Int), BatS y.f5 → p ≤ v → v ≤ p + 2000 → EndsIn (fun k => spec_l92Log.l0 k (l ++ [y]) n o' ((i : Int) + 1) b v) (fun r => DrL r.1 ∧ p ≤ r.2 ∧ r.2 ≤ p + 2000 * (9 - (i : Int)) + 10) := by
        intro y o' v hy v0 v1
        have := ih (i + 1) (l ++ [y]) o' v (by omega) (by rw [List.length_append, hl]; rfl) (by omega) (fun r hr => by
          rcases List.mem_append.1 hr with hr | hr
          · exact hs r hr
          · rw [List.mem_singleton] at hr
            rw [hr]
            exact hy) (by omega) (by omega)
        exact this.mono fun r hr => ⟨hr.1, by omega, by omega⟩
      have st : ∀ (c : Bool), EndsIn (fun k => spec_l92Log.j2 k l n o (i : Int) c b q.2 x.1 x.2.1 x.2.2.1 x.2.2.2.1 x.2.2.2.2.1 x.2.2.2.2.2.1) (fun r => DrL r.1 ∧ p ≤ r.2 ∧ r.2 ≤ p + 2000 * (9 - (i : Int)) + 10) := by
        intro c
        refine EndsIn.step (fun k => by rw [spec_l92Log.j2]) ?_
        cases c
        · obtain ⟨y1, y2, y3⟩ := x1
          simp only [Bool.false_eq_true, if_false, if_pos (show l.length < 2513169434916 by omega), w64 (a := (x.2.2.2.2.2.1.length : Int) - 1) (by omega) (by omega), if_pos (show (0 : Int) ≤ (x.2.2.2.2.2.1.length : Int) - 1 by omega), if_pos (show (x.2.2.2.2.2.1.length : Int) - 1 < (x.2.2.2.2.2.1.length : Int) by omega)]
          refine EndsIn.bind (pick_ends hb q.2 4 (by omega) (by omega) (by omega)) fun z hz => ?_
          rw [hz.1, w64 (a := (i : Int) + 1) (by omega) (by omega)]
          exact nx _ _ _ ⟨y1, y2, y3⟩ (by omega) (by omega)
        · simp only [if_true]
          refine EndsIn.bind (recs_ends hb q.2 o 2 (by omega) (by omega) (by omega) (by omega)) fun s hs => ?_
          obtain ⟨s1, s2, s3, s4, s5⟩ := hs
          simp only [if_pos (show l.length < 2513169434916 by omega), w64 (a := (s.1.length : Int) - 1) (by omega) (by omega), if_pos (show (0 : Int) ≤ (s.1.length : Int) - 1 by omega), if_pos (show (s.1.length : Int) - 1 < (s.1.length : Int) by omega)]
          refine EndsIn.bind (pick_ends hb s.2 4 (by omega) (by omega) (by omega)) fun z hz => ?_
          rw [hz.1, w64 (a := (i : Int) + 1) (by omega) (by omega)]
          exact nx _ _ _ ⟨s1, s2, by show s.1.length ≤ 7; omega⟩ (by omega) (by omega)
      by_cases e0 : q.1 > 0
      · simp only [if_pos e0]
        refine EndsIn.bind (P := fun _ => True) ⟨_, sBatchValid_ev ⟨x.1, x.2.1, x.2.2.1, x.2.2.2.1, x.2.2.2.2.1, x.2.2.2.2.2.1⟩ x1.rowR, trivial⟩ fun t _ => ?_
        exact st _
      · simp only [if_neg e0]
        exact st _
    · exact stop i l o p hl hi hs p0 p1 h
theorem drawLog_ends {b : List Int} (hb : CodeOk b) (p : Int) (h0 : 0 ≤ p) (h1 : p ≤ 300000000) : EndsIn (fun k => spec_l92Log.f k b p) (fun r => DrL r.1 ∧ p ≤ r.2 ∧ r.2 ≤ p + 20000) := by
  have st : ∀ (n q : Int), n ≤ 9 → p ≤ q → q ≤ p + 10 → EndsIn (fun k => spec_l92Log.j0 k [] n b q) (fun r => DrL r.1 ∧ p ≤ r.2 ∧ r.2 ≤ p + 20000) := by
    intro n q hn hq0 hq1
    refine EndsIn.step (fun k => by rw [spec_l92Log.j0]) ?_
    refine EndsIn.bind (pick_ends hb q 10 (by omega) (by omega) (by omega)) fun t ht => ?_
    rw [ht.1]
    have := log_loop hb n hn 9 0 [] t.1 (q + 1) (by omega) rfl (by omega) (by simp) (by omega) (by omega)
    exact this.mono fun r hr => ⟨hr.1, by omega, by omega⟩
  unfold spec_l92Log.f
  simp only [bindS]
  refine EndsIn.bind (pick_ends hb p 5 h0 (by omega) (by omega)) fun q hq => ?_
  obtain ⟨q2, q3, q4, _⟩ := hq
  have q5 := q4 (by omega)
  rw [q2]
  refine EndsIn.bind (pick_ends hb (p + 1) 16 (by omega) (by omega) (by omega)) fun s hs => ?_
  rw [hs.1]
  by_cases hz : s.1 = 0
  · simp only [if_pos hz]
    refine EndsIn.bind (pick_ends hb (p + 1 + 1) 3 (by omega) (by omega) (by omega)) fun u hu => ?_
    obtain ⟨u2, u3, u4, _⟩ := hu
    have u5 := u4 (by omega)
    simp only [if_pos u3, if_pos (show u.1 < (([0, 8, 9] : List Int).length : Int) by simpa using u5)]
    rw [u2]
    refine st _ _ ?_ (by omega) (by omega)
    have : u.1 = 0 ∨ u.1 = 1 ∨ u.1 = 2 := by omega
    rcases this with e | e | e <;> (rw [e]; decide)
  · simp only [if_neg hz, w64 (a := 1 + q.1) (by omega) (by omega)]
    exact st _ _ (by omega) (by omega) (by omega)
end Go.Proofs.YtbbboachakkgiaaDoor.Pu

namespace Go.Proofs.YtbbboachakkgiaaDoor.Pu
open Go.RowKit Go.Proofs.YtbbboachakkgiaaDoorW.PrintWords Go.Proofs.YtbbboachakkgiaaDoorW.PrintLast Go.Proofs.YtbbboachakkgiaaDoor.G
set_option linter.unusedVariables false
set_option linter.unusedSimpArgs false
theorem open_some (l0 : List Int) (hr : ∀ x ∈ l0, 0 ≤ x ∧ x ≤ 255) : ∃ b, spec_l6Open.f l0 = some (b, 0) ∧ CodeOk b := by
  unfold spec_l6Open.f
  by_cases h : (l0.length : Int) > 2000
  · rw [if_pos h, if_pos (by omega)]
    exact ⟨_, rfl, by rw [List.length_take]; omega, fun x hx => hr x (List.mem_of_mem_take hx)⟩
  · rw [if_neg h]
    exact ⟨_, rfl, by omega, hr⟩
end Go.Proofs.YtbbboachakkgiaaDoor.Pu

namespace Go.Proofs.YtbbboachakkgiaaDoor.Pu
open Go.RowKit Go.Proofs.YtbbboachakkgiaaDoorW.PrintWords Go.Proofs.YtbbboachakkgiaaDoorW.PrintLast Go.Proofs.YtbbboachakkgiaaDoorW.PrintMore Go.Proofs.YtbbboachakkgiaaDoor.G
set_option linter.unusedVariables false
set_option linter.unusedSimpArgs false
theorem drawE_loop {b : List Int} (hb : CodeOk b) : ∀ d (i : Nat) (l : List S47) (p : Int), l.length - i = d → i ≤ l.length → DrL l → 0 ≤ p → p ≤ 100000 + 2 * (i : Int) →
    EndsIn (fun k => spec_DrawLogEven.l0 k l (i : Int) b p) DrL := by
  intro d
  induction d with
  | zero =>
    intro i l p hd hi hl h0 h1
    refine EndsIn.step (fun k => by rw [spec_DrawLogEven.l0]) ?_
    simp only [if_neg (show ¬ (i : Int) < (l.length : Int) by omega)]
    exact EndsIn.now _ hl
  | succ d ih =>
    intro i l p hd hi hl h0 h1
    have hlt : i < l.length := by omega
    have h9 := hl.1
    have hw : wrap64 ((i : Int) + 1) = ((i + 1 : Nat) : Int) := by rw [w64 (by omega) (by omega)]; omega
    refine EndsIn.step (fun k => by rw [spec_DrawLogEven.l0]) ?_
    simp only [if_pos (show (i : Int) < (l.length : Int) by omega), hw, rdB_nat l i hlt, if_pos (show (0 : Int) ≤ (i : Int) by omega), Int.toNat_natCast]
    refine EndsIn.bind (pick_ends hb p 4 h0 (by omega) (by omega)) fun q hq => ?_
    rw [hq.1]
    by_cases e : q.1 > 0
    · simp only [if_pos e]
      refine EndsIn.bind (pick_ends hb (p + 1) 4 (by omega) (by omega) (by omega)) fun s hs => ?_
      rw [hs.1]
      refine ih (i + 1) _ (p + 1 + 1) (by rw [List.length_set]; omega) (by rw [List.length_set]; omega) ⟨by rw [List.length_set]; exact h9, fun x hx => ?_⟩ (by omega) (by omega)
      rcases List.mem_or_eq_of_mem_set hx with hx | hx
      · exact hl.2 x hx
      · rw [hx]
        exact hl.2 l[i] (List.getElem_mem hlt)
    · simp only [if_neg e]
      exact ih (i + 1) l (p + 1) (by omega) (by omega) hl (by omega) (by omega)
theorem drawE_ends {c : List Int} (hok : CodeOk c) (l0 : List Int) (hc : spec_l6Open.f l0 = some (c, 0)) : EndsIn (fun k => spec_DrawLogEven.f k l0) DrL := by
  unfold spec_DrawLogEven.f
  simp only [hc, bindS]
  refine EndsIn.bind (drawLog_ends hok 0 (by omega) (by omega)) fun r hr => ?_
  obtain ⟨h1, h2, h3⟩ := hr
  exact drawE_loop hok r.1.length 0 r.1 r.2 (by omega) (by omega) h1 (by omega) (by omega)
end Go.Proofs.YtbbboachakkgiaaDoor.Pu

namespace Go.Proofs.YtbbboachakkgiaaDoor.Pure
open Go.RowKit Go.Proofs.YtbbboachakkgiaaDoor.G Go.Proofs.YtbbboachakkgiaaDoorW.PrintWords Go.Proofs.YtbbboachakkgiaaDoorW.PrintLast Go.Proofs.YtbbboachakkgiaaDoorW.PrintMore Go.Proofs.YtbbboachakkgiaaDoor.Pu
set_option linter.unusedSimpArgs false
set_option linter.unusedVariables false
theorem evenTwice_loop (out : List BT) (hl : out.length ≤ 8) (hn : NoJ out) (hB : RowB out) : ∀ d i, out.length - i = d → 1 ≤ i → i ≤ out.length ∨ i = 1 → Ev (fun k => laws_FnEvenTwice.l0 k out out true (i : Int)) true := by
  have fin : ∀ i : Nat, ¬ (i : Int) < (out.length : Int) → Ev (fun k => laws_FnEvenTwice.l0 k out out true (i : Int)) true := fun i hi => by
    refine Ev.step (fun k => by rw [laws_FnEvenTwice.l0]) ?_
    simp only [if_neg hi, if_true]
    exact Ev.bind (selfLog out hB) (Ev.now _)
  intro d
  induction d with
  | zero => intro i hd h1 hi; exact fin i (by omega)
  | succ d ih =>
    intro i hd h1 hi
    have hlt : i < out.length := by omega
    have ew : wrap64 ((i : Int) - 1) = ((i - 1 : Nat) : Int) := by rw [w64 (by omega) (by omega)]; omega
    have hw : wrap64 ((i : Int) + 1) = ((i + 1 : Nat) : Int) := by rw [w64 (by omega) (by omega)]; omega
    refine Ev.step (fun k => by rw [laws_FnEvenTwice.l0]) ?_
    simp only [if_pos (show (i : Int) < (out.length : Int) by omega), ew, hw, if_pos (show (0 : Int) ≤ ((i - 1 : Nat) : Int) by omega), if_pos (show ((i - 1 : Nat) : Int) < (out.length : Int) by omega), if_pos (show (0 : Int) ≤ (i : Int) by omega), rdB_nat out (i - 1) (by omega), rdB_nat out i hlt]
    refine Ev.bind (BatchJoin_ev out[i - 1] out[i]) ?_
    have hg := hn (i - 1) (by omega)
    simp only [show i - 1 + 1 = i by omega] at hg
    unfold bjoinV
    rw [if_neg (by rw [hg]; simp)]
    simp only [Bool.false_eq_true, if_false]
    exact ih (i + 1) (by omega) (by omega) (.inl (by omega))
theorem FnEvenTwice : OFnEvenTwice.Pure := by
  intro l0 hl0 ho0
  refine EndsIn.rounds ?_
  unfold laws_FnEvenTwice.f
  have hr := fun x hx => u8_range (ho0 x hx)
  by_cases h : (l0.length : Int) > 1048576
  · simp only [if_pos h]
    exact EndsIn.now _ rfl
  · simp only [if_neg h]
    obtain ⟨c, hc, hok⟩ := open_some l0 hr
    refine EndsIn.bind (drawE_ends hok l0 hc) fun l dl => ?_
    have hB := even_row (DrL.rowB dl)
    refine EndsIn.bind (P := fun r => r = logEvenV l) ⟨_, LogEven_ev l, rfl⟩ fun r hr1 => ?_
    subst hr1
    refine EndsIn.bind (P := fun r => r = logEvenV l) ⟨_, sLogEven_ev l, rfl⟩ fun r hr2 => ?_
    subst hr2
    simp only [bne_self_eq_false, Bool.false_eq_true, if_false]
    refine EndsIn.bind (P := fun r => r = true) ⟨_, selfLog _ hB, rfl⟩ fun r hr3 => ?_
    subst hr3
    simp only [if_true]
    refine EndsIn.step (fun k => by rw [laws_FnEvenTwice.j0]) ?_
    by_cases hv : logOk l = true
    · have e : logEvenV l = (evenV l, true) := by unfold logEvenV; rw [if_pos hv]
      rw [e] at hB ⊢
      have ho := even_ok hv
      have hn := even_noJ hv
      have e2 : logEvenV (evenV l) = (evenV l, true) := by unfold logEvenV; rw [if_pos ho, even_same hn]
      simp only [Bool.not_true, Bool.false_eq_true, if_false]
      refine EndsIn.bind (P := fun r => r = (evenV l, true)) ⟨_, LogEven_ev (evenV l), e2⟩ fun r hr5 => ?_
      subst hr5
      exact ⟨true, evenTwice_loop (evenV l) (logOk_len ho) hn hB _ 1 rfl (by omega) (.inr rfl), rfl⟩
    · have e : logEvenV l = ([], false) := by unfold logEvenV; rw [if_neg hv]
      rw [e] at hB ⊢
      simp only [Bool.not_false, if_true, beq_self_eq_true]
      refine EndsIn.bind (P := fun r => r = true) ⟨_, selfLog _ hB, rfl⟩ fun r hr4 => ?_
      subst hr4
      exact EndsIn.now _ rfl
end Go.Proofs.YtbbboachakkgiaaDoor.Pure

namespace Go.Proofs.YtbbboachakkgiaaDoor.fnEvenTwice
open Go.ChangeShapes Go.WideShapes Go.ChangeAt Go.RowKit Go.Proofs.YtbbboachakkgiaaDoor.OFnEvenTwice Go.Proofs.YtbbboachakkgiaaDoor.G Go.Joins
open Go.ChangeMaps (open_string shut_string)
set_option linter.unusedVariables false
theorem own : ownKnob Tryd.prog.godebug = none := by kernel_rfl
theorem laidOut : laidOutB Tryd.prog = true := by kernel_rfl
theorem star : "*" ++ "errors.errorString" = "*errors.errorString" := by decide
theorem cellsE : Tryd.prog.cellsOf 174 = 1 := by kernel_rfl
theorem cellsS : Tryd.prog.cellsOf 9 = 1 := by kernel_rfl
theorem g0 : Tryd.prog.globalNamed "loop.example/recordbatches/impl.errNoJoin" = some 0 := by kernel_rfl
theorem gT0 : (Tryd.prog.globals[0]?).map (·.type) = some 71 := by kernel_rfl
abbrev text0 : ByteArray := { data := #[110, 111, 32, 106, 111, 105, 110] }
theorem rowE (u : TypeId) (h : Tryd.prog.typeName? 3 u = some "*errors.errorString") : u = 151 :=
  typeName_ptr_named (nm := "errors.errorString") (by rw [star]; kernel_rfl) (by kernel_rfl) (by decide) u (by rw [star]; exact h)
noncomputable def low : Nat := (World.holding Tryd.prog default ⟨#[], #[], []⟩).heap.size
noncomputable def laidWorld (os : Os) : World :=
  let w0 := World.holding Tryd.prog os ⟨#[.cells #[.string text0] 174], #[], []⟩
  { w0 with heap := (w0.heap.modify 0 fun | .cells _ t frozen => .cells #[.iface 151 (.pointer (some ⟨low + 0, 0, none⟩))] t frozen | o => o) }
theorem laid_met (os : Os) (args : Array Value) : laidMetH Tryd.prog Rows.fnEvenTwiceRow.laid ((laidWorld os).forCall (fun _ _ => 0) ⟨#[], args, []⟩).memory :=
  laidMetH_of_parts (laidMet_of_run (ps := [.cell 0 0, .cell (low + 0) 0]) 8 (by kernel_rfl) (by kernel_rfl) (by kernel_rfl)) (by kernel_rfl)
set_option maxRecDepth 100000 in
theorem lifted (os : Os) (started : os.Started) (H : Type) (enc : TypeId × Value → H) :
    ReturnsInHanded {} Tryd.checked os 8 .any (fun w args => (Rows.fnEvenTwiceSpec.pre enc Tryd.prog Tryd.f8 Rows.fnEvenTwiceRow.domain false w args ∧ laidMetH Tryd.prog Rows.fnEvenTwiceRow.laid w) ∧ sizedMet enc Tryd.prog Tryd.f8 (OpenSpec.ofChange Rows.fnEvenTwiceSpec) false w args) (Rows.fnEvenTwiceSpec.post enc Tryd.prog Tryd.f8 false true false false) := by
  refine returnsInHanded_of_change_and (C := Tryd.checked) (X := fun w _ => laidMetH Tryd.prog Rows.fnEvenTwiceRow.laid w) (fun _ _ _ hh h => h.of_heap hh) own started (by kernel_rfl) Tryd.func8
    (ChangeSpec.witness_at (enc := enc) (C := Tryd.checked) (os := os) (X := fun w _ => laidMetH Tryd.prog Rows.fnEvenTwiceRow.laid w) false (laidWorld os) #[.slice none 0 0] 8 rfl (by kernel_rfl) (by kernel_rfl) (by kernel_rfl) (by kernel_rfl) (by kernel_rfl) (laid_met os _)) ?_
  intro W base args ds gs before hval0 hW hcnd hsz0 hLL _
  have hsz : (DataW.weightsEach Tryd.prog (Tryd.f8.params.toList ++ Rows.fnEvenTwiceSpec.plain.varTypes Tryd.prog) (ds ++ gs)).all (· ≤ reachBytes) = true := hsz0
  have hval : ∀ (j : Nat) t v, Tryd.f8.params[j]? = some t → args[j]? = some v → Value.okWide Tryd.prog W .any base t v := hval0
  have hW' := hW
  obtain ⟨p, q, hA0, hV, rfl, hfz, hnd⟩ := hW
  have hA : DataW.TrodAll enc Tryd.prog W 0 (fun _ => true) true Tryd.f8.params.toList args.toList ds p := hA0
  rw [Tryd.params8] at hA hval hsz
  obtain ⟨v0, vs0, d0, ds0, p0, q0, hargs, rfl, rfl, h0, r0⟩ := trodAll_cons hA
  obtain ⟨rfl, rfl, rfl⟩ := trodAll_nil r0
  obtain rfl : args = #[v0] := by cases args; simp_all
  have hL : laidMet Tryd.prog Rows.fnEvenTwiceRow.laid W := hLL
  obtain ⟨b0, s0, hv0, hc0, hs0, hz0⟩ := laid_sentinel hL g0 gT0 Tryd.underlying71 rowE Tryd.underlying151 Tryd.underlying174 rfl rfl Tryd.underlying9 cellsE cellsS
  obtain ⟨rfl, rfl⟩ := hV.unique (vars_read1 enc g0 gT0 Tryd.underlying71 hv0 trivial _)
  have hg0 : W.cell? ⟨0, 0, none⟩ = some (.iface 151 (.pointer (some b0))) := by simpa using World.var?_cell g0 hv0 0
  obtain ⟨a0, len0, cap0, rfl⟩ := okWide_slice Tryd.underlying22 (hval 0 22 v0 rfl rfl)
  have k0 := h0
  have lt0 : ∀ x ∈ p0, x.block < W.heap.size := by obtain ⟨m, hm⟩ := k0; exact DataW.trod_lt m _ _ _ hm
  obtain ⟨fuel0, hf0⟩ := h0
  obtain ⟨A0, c0, l0, hcs0, hlc0, hm0, hC0, ho0⟩ := Rd.opens_row Tryd.underlying22 (Rd.opens_int Tryd.underlying5 (by kernel_rfl)) hf0
  simp [Value.cells] at hcs0
  obtain ⟨rfl, rfl, rfl⟩ := hcs0
  clear hA0 hval0 hsz0 hsz
  obtain ⟨k, h⟩ := Pure.FnEvenTwice l0 (Nat.le_trans hlc0 hm0) ho0
  letI : ErrA := ⟨fun n => b0⟩
  have hE : ErrOk [0] W := fun g hg => by
    have hg' : g = 0 := by simpa using hg
    rcases hg' with rfl
    · exact hg0
  refine (laws_FnEvenTwice.calls k _ _ l0 true W hE hC0 hlc0 h).mono fun e W' ⟨he, bel0⟩ => ?_
  subst he
  have bel : Below W.heap.size W W' := bel0
  have hw0 : W'.var? Tryd.prog "loop.example/recordbatches/impl.errNoJoin" = some #[.iface 151 (.pointer (some b0))] := var?_below bel g0 (World.block_lt_of_cell? W _ hg0) hv0
  exact ⟨_, rfl, _, _, _, [], _, _, hW', trodAll_mk1 (shut_bool Tryd.underlying4 _), (trodAll_cons_mk (Below.trod laidOut (by kernel_rfl) (of_decide_eq_true (by kernel_rfl)) k0 bel lt0) trodAll_mk0), vars_read1 enc g0 gT0 Tryd.underlying71 hw0 trivial _, bel.frame _, fun h => by cases h⟩
theorem over : Rows.fnEvenTwiceRow.holds Tryd.pinned (OpenSpec.ofChange Rows.fnEvenTwiceSpec) :=
  OpenClaim.holds_of_wide 8 Tryd.f8 rfl rfl rfl rfl rfl rfl rfl ⟨rfl, rfl, rfl, rfl, rfl⟩ rfl rfl rfl rfl rfl (by kernel_rfl) Tryd.func8 (by kernel_rfl)
    (of_decide_eq_true (by kernel_rfl)) (by unfold Func.isWrapper; first | (rw [if_pos (by decide +kernel)]; kernel_rfl) | (rw [if_neg (by decide +kernel)]; exact ⟨rfl, rfl⟩))
    (fun os started H enc _ => lifted os started H enc)
theorem proved : Rows.FnEvenTwiceSaid := over
#print axioms proved
end Go.Proofs.YtbbboachakkgiaaDoor.fnEvenTwice
namespace Go.Proofs.YtbbboachakkgiaaDoor
/-- The row, under a short name, for the claim. -/
theorem fnEvenTwice_holds : Rows.FnEvenTwiceSaid := fnEvenTwice.proved
theorem fnEvenTwice_card : Rows.FnEvenTwiceCardSaid :=
  Claim7.holds_tied_plain_at .later [] [.sentinel] true (true, "2e05aa95766e6917fe95301784a47f45e0e7b4b4973cc25155ec255d9f160fba") true
    fnEvenTwice_holds (fun _ h => by cases h) (by kernel_rfl) (fun _ h => by cases h) fnEvenTwice_row_tie rfl ⟨rfl, rfl⟩ (by kernel_rfl) rfl
    (fun f fn hf hfn => by
      obtain rfl : f = 8 := Option.some.inj ((show Tryd.prog.funcNamed "loop.example/recordbatches/laws.FnEvenTwice" = some 8 by kernel_rfl).symm.trans hf) |>.symm
      obtain rfl : fn = Tryd.f8 := (Option.some.inj (Tryd.func8.symm.trans hfn)).symm
      exact ⟨by kernel_rfl, fun j t ht => by
        rw [Tryd.params8] at ht
        have h3 : t = 22 := by
          rcases j with _ | j
          · have h_ := ht.symm; simp at h_; simp [h_]
          · simp at ht
        rcases h3 with rfl
        · exact (show Tryd.prog.wantsStandIn 22 = false by kernel_rfl)⟩)
    (by kernel_rfl)
#print axioms fnEvenTwice_card
end Go.Proofs.YtbbboachakkgiaaDoor

