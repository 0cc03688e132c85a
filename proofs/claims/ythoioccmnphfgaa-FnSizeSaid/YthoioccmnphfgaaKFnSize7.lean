/- A text of seat Ythoioccmnphfgaa: what the law FnSize needs of this repo's texts (by pack.py). Not trusted: Lean checks it. -/
import Derived.Test.YthoioccmnphfgaaKFnSize6
import Derived.OwnWalkIn
namespace Go.Proofs.Ythoioccmnphfgaa.G
open Go.RowKit Go.Proofs.YthoioccmnphfgaaW.PrintWords Go.Proofs.YthoioccmnphfgaaW.PrintLast Go.Proofs.YthoioccmnphfgaaW.PrintMore Go.Proofs.Ythoioccmnphfgaa.Pu
set_option linter.unusedVariables false
set_option linter.unusedSimpArgs false
/-- The cells that hold a batch. -/
def CellsB (W : World) (p : Addr) (b : S46) (A : Option Addr) (c : Nat) : Prop :=
  W.cell? p = some (.bool b.f0) ∧ W.cell? ⟨p.block, p.off + 1, none⟩ = some (.bool b.f1) ∧ W.cell? ⟨p.block, p.off + 2, none⟩ = some (.int .i64 b.f2) ∧ W.cell? ⟨p.block, p.off + 3, none⟩ = some (.int .i64 b.f3) ∧ W.cell? ⟨p.block, p.off + 4, none⟩ = some (.int .i64 b.f4) ∧ W.cell? ⟨p.block, p.off + 5, none⟩ = some (.slice A b.f5.length c)
theorem CellsB.below {W W' : World} {p : Addr} {b : S46} {A : Option Addr} {c : Nat} (h : CellsB W p b A c) (hb : Below W.heap.size W W') : CellsB W' p b A c := ⟨pw_cell_below hb h.1, pw_cell_below hb h.2.1, pw_cell_below hb h.2.2.1, pw_cell_below hb h.2.2.2.1, pw_cell_below hb h.2.2.2.2.1, pw_cell_below hb h.2.2.2.2.2⟩
end Go.Proofs.Ythoioccmnphfgaa.G

namespace Go.Proofs.Ythoioccmnphfgaa.G
open Go.RowKit Go.Proofs.YthoioccmnphfgaaW.PrintWords Go.Proofs.YthoioccmnphfgaaW.PrintLast Go.Proofs.YthoioccmnphfgaaW.PrintMore Go.Proofs.Ythoioccmnphfgaa.Pu
set_option linter.unusedVariables false
set_option linter.unusedSimpArgs false
/-- The cells that hold a record. -/
def CellsR (W : World) (p : Addr) (r : S63) (A3 : Option Addr) (c3 : Nat) (A5 : Option Addr) (c5 : Nat) : Prop :=
  W.cell? p = some (.int .i64 r.f0) ∧ W.cell? ⟨p.block, p.off + 1, none⟩ = some (.int .i64 r.f1) ∧ W.cell? ⟨p.block, p.off + 2, none⟩ = some (.bool r.f2) ∧ W.cell? ⟨p.block, p.off + 3, none⟩ = some (.slice A3 r.f3.length c3) ∧ W.cell? ⟨p.block, p.off + 4, none⟩ = some (.bool r.f4) ∧ W.cell? ⟨p.block, p.off + 5, none⟩ = some (.slice A5 r.f5.length c5)
theorem CellsR.below {W W' : World} {p : Addr} {r : S63} {A3 A5 : Option Addr} {c3 c5 : Nat} (h : CellsR W p r A3 c3 A5 c5) (hb : Below W.heap.size W W') : CellsR W' p r A3 c3 A5 c5 := ⟨pw_cell_below hb h.1, pw_cell_below hb h.2.1, pw_cell_below hb h.2.2.1, pw_cell_below hb h.2.2.2.1, pw_cell_below hb h.2.2.2.2.1, pw_cell_below hb h.2.2.2.2.2⟩
theorem in_q (a b c : Int) (w : World) : Calls Try.prog 30 #[.int .i64 a, .int .i64 b, .int .i64 c] w fun e w' => e = .returned (.bool (decide (b ≤ a) && decide (a ≤ c))) ∧ ∃ n, w' = w.drewN n :=
  (spec_l6In.calls a b c _ w (in_ev a b c)).mono fun e w' h => ⟨h.1, h.2.out⟩
set_option maxRecDepth 100000 in
set_option maxHeartbeats 4000000 in
theorem specrecs_q (l : List S63) (A : Option Addr) (c : Nat) (w : World) (hr : Kd.C k63 w A l.length l) (hc : l.length ≤ c) :
    Calls Try.prog 50 #[.slice A l.length c] w fun e w' => e = .returned (.bool (recsInc l && lenOk l)) ∧ Below w.heap.size w w' := by
  have hl := hr.2.1
  have HR := Aside0.mk hr
  clear hr
  go_enter Try.func50, Try.ntmps50
  go_wp2
  go_loopw [3] (fun v3 wr => ∃ i : Nat, v3 = .int .i64 i ∧ i ≤ l.length ∧ (∀ j, j < i → recStep l j = true) ∧ Below w.heap.size w wr) (fun v3 _ => l.length - (intOf v3).toNat)
  case atStart => exact ⟨0, rfl, Nat.zero_le _, fun j hj => absurd hj (Nat.not_lt_zero j), Below.refl _ _⟩
  case round =>
    obtain ⟨i, rfl, hi, hall, hB1⟩ := hrel
    by_cases hlt : i < l.length
    · obtain ⟨ad, A3, c3, A5, c5, rfl, e0, e1, e2, e3, e4, e5, l3, g3, l5, g5⟩ := at_T63 (Kd.C_below HR.out hB1) (i : Int) (by omega) (by omega)
      rw [show ((i : Int)).toNat = i from rfl] at e0 e1 e2 e3 e4 e5
      have hrec : recStep l i = (recOk (rd_T63 l (i : Int)) && (decide (i = 0) || decide ((rd_T63 l ((i : Int) - 1)).f0 < (rd_T63 l (i : Int)).f0))) := rfl
      generalize rd_T63 l (i : Int) = ri at *
      have ci : CellsR wr (ad.add (i * 6)) ri A3 c3 A5 c5 := ⟨e0, e1, e2, e3, e4, e5⟩
      clear e0 e1 e2 e3 e4 e5
      go_wp2
      obtain ⟨kR, hkR⟩ := (sRecordValid_ev ri ⟨g3.2.1, g5.2.1⟩).rounds
      have hrc : ∀ (W2 : World), Below wr.heap.size wr W2 → Calls Try.prog 69 #[.agg #[.int .i64 ri.f0, .int .i64 ri.f1, .bool ri.f2, .slice A3 ri.f3.length c3, .bool ri.f4, .slice A5 ri.f5.length c5]] W2 fun e w' => e = .returned (.bool (recOk ri)) ∧ Below W2.heap.size W2 w' := fun (W2 : World) (hb : Below wr.heap.size wr W2) => spec_RecordValid.calls kR ri.f0 ri.f1 ri.f2 A3 c3 ri.f3 ri.f4 A5 c5 ri.f5 _ W2 (Kd.C_below g3 hb) l3 (Kd.C_below g5 hb) l5 hkR
      have HRC := Aside0.mk hrc
      clear hrc
      have kS : ∀ w' : World, Below wr.drew.heap.size wr.drew w' → CellsR w' (ad.add (i * 6)) ri A3 c3 A5 c5 ∧ Below wr.heap.size wr w' := fun w' h => ⟨ci.below (below_step (below_drew (Below.refl _ wr)) h), below_step (below_drew (Below.refl _ wr)) h⟩
      have hil : (i : Int) < (l.length : Int) := by omega
      rcases hok : recOk ri with _ | _ <;> rw [hok] at hkR HRC
      · have hno := Aside0.mk (incs_no hlt (hrec.trans (by rw [hok]; rfl)))
        refine r_begin (fun w' => CellsR w' (ad.add (i * 6)) ri A3 c3 A5 c5 ∧ Below wr.heap.size wr w') 24 (by kernel_rfl) rfl (kS _ (Below.refl _ _)) (fun hH => ?_)
        repeat (first | (refine r_skip (by kernel_rfl) (by rfl) (fun _ _ _ h => h) hH ?_; simp only [Act.put, List.setIfInBounds_toArray, List.set_cons_zero, List.set_cons_succ, Nat.reduceAdd]) | (refine r_go (v := ?_) (by kernel_rfl) (by rfl) (fun _ _ _ h => h) hH ?_ ?_; rotate_left; (focus (intro w hS; obtain ⟨⟨e0, e1, e2, e3, e4, e5⟩, e6⟩ := hS; go_simp; first | done | with_reducible rfl)); simp only [Act.put, List.setIfInBounds_toArray, List.set_cons_zero, List.set_cons_succ, Nat.reduceAdd]) | (fail "x"))
        refine r_one (by kernel_rfl) (by rfl) (fun K hK => ?_)
        go_simp
        go_at_call 69
        refine (HRC.out _ hH.2).mono ?_
        rintro e w2 ⟨rfl, hb⟩
        go_wp2_with fail
        refine hK.out _ _ (kS _ hb) (fun hH => ?_)
        clear hK K
        simp only [Act.put, List.setIfInBounds_toArray, List.set_cons_zero, List.set_cons_succ, Nat.reduceAdd]
        repeat (first | (refine r_skip (by kernel_rfl) (by rfl) (fun _ _ _ h => h) hH ?_; simp only [Act.put, List.setIfInBounds_toArray, List.set_cons_zero, List.set_cons_succ, Nat.reduceAdd]) | (refine r_go (v := ?_) (by kernel_rfl) (by rfl) (fun _ _ _ h => h) hH ?_ ?_; rotate_left; (focus (intro w hS; obtain ⟨⟨e0, e1, e2, e3, e4, e5⟩, e6⟩ := hS; go_simp; first | done | with_reducible rfl)); simp only [Act.put, List.setIfInBounds_toArray, List.set_cons_zero, List.set_cons_succ, Nat.reduceAdd]) | (fail "x"))
        refine r_done (by kernel_rfl) ?_
        go_wp2
        go_ret
        exact ⟨by rw [hno.out]; rfl, below_step hB1 hH.2⟩
      · rcases i with _ | j
        · have ez : ad.add (0 * 6) = ad := by go_simp
          rw [ez] at ci
          simp only [ez] at kS
          refine r_begin (fun w' => CellsR w' ad ri A3 c3 A5 c5 ∧ Below wr.heap.size wr w') 24 (by kernel_rfl) rfl (kS _ (Below.refl _ _)) (fun hH => ?_)
          repeat (first | (refine r_skip (by kernel_rfl) (by rfl) (fun _ _ _ h => h) hH ?_; simp only [Act.put, List.setIfInBounds_toArray, List.set_cons_zero, List.set_cons_succ, Nat.reduceAdd]) | (refine r_go (v := ?_) (by kernel_rfl) (by rfl) (fun _ _ _ h => h) hH ?_ ?_; rotate_left; (focus (intro w hS; obtain ⟨⟨e0, e1, e2, e3, e4, e5⟩, e6⟩ := hS; go_simp; first | done | with_reducible rfl)); simp only [Act.put, List.setIfInBounds_toArray, List.set_cons_zero, List.set_cons_succ, Nat.reduceAdd]) | (fail "x"))
          refine r_one (by kernel_rfl) (by rfl) (fun K hK => ?_)
          go_simp
          go_at_call 69
          refine (HRC.out _ hH.2).mono ?_
          rintro e w2 ⟨rfl, hb⟩
          go_wp2_with fail
          refine hK.out _ _ (kS _ hb) (fun hH => ?_)
          clear hK K
          simp only [Act.put, List.setIfInBounds_toArray, List.set_cons_zero, List.set_cons_succ, Nat.reduceAdd]
          repeat (first | (refine r_skip (by kernel_rfl) (by rfl) (fun _ _ _ h => h) hH ?_; simp only [Act.put, List.setIfInBounds_toArray, List.set_cons_zero, List.set_cons_succ, Nat.reduceAdd]) | (refine r_go (v := ?_) (by kernel_rfl) (by rfl) (fun _ _ _ h => h) hH ?_ ?_; rotate_left; (focus (intro w hS; obtain ⟨⟨e0, e1, e2, e3, e4, e5⟩, e6⟩ := hS; go_simp; first | done | with_reducible rfl)); simp only [Act.put, List.setIfInBounds_toArray, List.set_cons_zero, List.set_cons_succ, Nat.reduceAdd]) | (fail "x"))
          refine r_done (by kernel_rfl) ?_
          go_wp2
          go_roundw
          case rel =>
            have hst : ∀ j, j < 0 + 1 → recStep l j = true := by
              intro j hj
              obtain rfl : j = 0 := by omega
              exact hrec.trans (by rw [hok]; rfl)
            first | exact ⟨0 + 1, by simp, hlt, hst, below_step hB1 hH.2⟩ | ((repeat apply Exists.intro); refine ⟨⟨0 + 1, ?_, hlt, hst, below_step hB1 hH.2⟩, by first | rfl | (repeat' apply And.intro) <;> rfl⟩; simp)
          case measure => simp [intOf]; omega
        · obtain ⟨ad2, _, _, _, _, hq, f0, _⟩ := at_T63 (Kd.C_below HR.out hB1) (j : Int) (by omega) (by omega)
          cases hq
          rw [show ((j : Int)).toNat = j from rfl] at f0
          have hrec2 : recStep l (j + 1) = (recOk ri && (decide (j + 1 = 0) || decide ((rd_T63 l (j : Int)).f0 < ri.f0))) := by
            rw [hrec, show ((j + 1 : Nat) : Int) - 1 = (j : Int) by omega]
          generalize (rd_T63 l (j : Int)).f0 = pj at f0 hrec2
          have hwj : IntKind.i64.wrap (j : Int) = (j : Int) := by rw [i64_w]; unfold wrap64; omega
          have hjl : (j : Int) < (l.length : Int) := by omega
          have hjl1 : (j : Int) + 1 < (l.length : Int) := by omega
          have hj0 : (0 : Int) ≤ (j : Int) + 1 := by omega
          have htn : ((j : Int) + 1).toNat = j + 1 := by omega
          have kS2 : ∀ w' : World, Below wr.drew.heap.size wr.drew w' → (CellsR w' (ad.add ((j + 1) * 6)) ri A3 c3 A5 c5 ∧ Below wr.heap.size wr w') ∧ w'.cell? (ad.add (j * 6)) = some (.int .i64 pj) := fun w' h => ⟨kS w' h, pw_cell_below (below_step (below_drew (Below.refl _ wr)) h) f0⟩
          have hno := Aside0.mk hrec2
          clear hrec hrec2
          refine r_begin (fun w' => (CellsR w' (ad.add ((j + 1) * 6)) ri A3 c3 A5 c5 ∧ Below wr.heap.size wr w') ∧ w'.cell? (ad.add (j * 6)) = some (.int .i64 pj)) 24 (by kernel_rfl) rfl (kS2 _ (Below.refl _ _)) (fun hH => ?_)
          repeat (first | (refine r_skip (by kernel_rfl) (by rfl) (fun _ _ _ h => h) hH ?_; simp only [Act.put, List.setIfInBounds_toArray, List.set_cons_zero, List.set_cons_succ, Nat.reduceAdd]) | (refine r_go (v := ?_) (by kernel_rfl) (by rfl) (fun _ _ _ h => h) hH ?_ ?_; rotate_left; (focus (intro w hS; obtain ⟨⟨⟨e0, e1, e2, e3, e4, e5⟩, e6⟩, e7⟩ := hS; go_simp; first | done | with_reducible rfl)); simp only [Act.put, List.setIfInBounds_toArray, List.set_cons_zero, List.set_cons_succ, Nat.reduceAdd]) | (fail "x"))
          refine r_one (by kernel_rfl) (by rfl) (fun K hK => ?_)
          go_simp
          go_at_call 69
          refine (HRC.out _ hH.1.2).mono ?_
          rintro e w2 ⟨rfl, hb⟩
          go_wp2_with fail
          refine hK.out _ _ (kS2 _ hb) (fun hH => ?_)
          clear hK K
          simp only [Act.put, List.setIfInBounds_toArray, List.set_cons_zero, List.set_cons_succ, Nat.reduceAdd]
          repeat (first | (refine r_skip (by kernel_rfl) (by rfl) (fun _ _ _ h => h) hH ?_; simp only [Act.put, List.setIfInBounds_toArray, List.set_cons_zero, List.set_cons_succ, Nat.reduceAdd]) | (refine r_go (v := ?_) (by kernel_rfl) (by rfl) (fun _ _ _ h => h) hH ?_ ?_; rotate_left; (focus (intro w hS; obtain ⟨⟨⟨e0, e1, e2, e3, e4, e5⟩, e6⟩, e7⟩ := hS; go_simp; first | done | with_reducible rfl)); simp only [Act.put, List.setIfInBounds_toArray, List.set_cons_zero, List.set_cons_succ, Nat.reduceAdd]) | (fail "x"))
          refine r_done (by kernel_rfl) ?_
          have hBw := below_step hB1 hH.1.2
          by_cases hlt2 : pj < ri.f0
          · have hst : ∀ j', j' < j + 1 + 1 → recStep l j' = true := by
              intro j' hj
              by_cases h' : j' < j + 1
              · exact hall j' h'
              · obtain rfl : j' = j + 1 := by omega
                rw [hno.out, hok, decide_eq_true hlt2, Bool.or_true]; rfl
            have hng : ¬ ri.f0 ≤ pj := by omega
            go_wp2
            go_roundw
            case rel => first | exact ⟨j + 1 + 1, by simp, hlt, hst, hBw⟩ | ((repeat apply Exists.intro); refine ⟨⟨j + 1 + 1, ?_, hlt, hst, hBw⟩, by first | rfl | (repeat' apply And.intro) <;> rfl⟩; simp)
            case measure => simp [intOf]; omega
          · have hn2 := Aside0.mk (incs_no hlt (hno.out.trans (by rw [hok, decide_eq_false hlt2, decide_eq_false (show ¬ j + 1 = 0 by omega)]; rfl)))
            have hng : ri.f0 ≤ pj := by omega
            go_wp2
            go_ret
            exact ⟨by rw [hn2.out]; rfl, hBw⟩
    · obtain rfl : i = l.length := by omega
      go_wp2_with (go_at_call 30; refine (in_q _ _ _ _).mono ?_; rintro e w' ⟨rfl, ⟨n, rfl⟩⟩)
      go_ret
      exact ⟨by rw [incs_of hall]; rfl, pw_below_drewN hB1 _⟩
def batTail (b : S46) : Bool := if b.f2 = 255 then decide (b.f3 = 0) && (decide (b.f4 = 0) && !b.f1) else (!b.f1 || decide ((b.f5.length : Int) = 1))
theorem batOk_spec (b : S46) : batOk b = ((recsInc b.f5 && lenOk b.f5) && ((decide (0 ≤ b.f2) && decide (b.f2 ≤ 255)) && ((decide (0 ≤ b.f3) && decide (b.f3 ≤ 99)) && ((decide (0 ≤ b.f4) && decide (b.f4 ≤ 9999)) && batTail b)))) := by
  unfold batOk headOk batTail
  by_cases h : b.f2 = 255
  · rw [if_pos h, if_pos h, h]
    cases recsInc b.f5
    · simp
    · rw [Bool.eq_iff_iff]
      simp only [lenOk, Bool.and_eq_true, Bool.or_eq_true, decide_eq_true_eq, Bool.not_eq_true']
      constructor
      · rintro ⟨⟨h3, h4, h1⟩, hl, hm, _⟩
        exact ⟨⟨trivial, hl⟩, ⟨by omega, by omega⟩, ⟨by omega, by omega⟩, ⟨by omega, by omega⟩, h3, h4, h1⟩
      · rintro ⟨⟨_, hl⟩, _, _, _, h3, h4, h1⟩
        exact ⟨⟨h3, h4, h1⟩, hl, .inl h1, trivial⟩
  · rw [if_neg h, if_neg h]
    rw [Bool.eq_iff_iff]
    simp only [Bool.and_eq_true, decide_eq_true_eq]
    constructor
    · rintro ⟨⟨h2, h3, h4⟩, hl, hm, hr⟩
      exact ⟨⟨hr, hl⟩, ⟨by omega, by omega⟩, h3, h4, hm⟩
    · rintro ⟨⟨hr, hl⟩, h2, h3, h4, hm⟩
      exact ⟨⟨⟨by omega, by omega⟩, h3, h4⟩, hl, hm, hr⟩
theorem sb_no {b2 b3 b4 : Int} {x : Bool} (h : ¬(0 ≤ b2 ∧ b2 ≤ 255) ∨ ¬(0 ≤ b3 ∧ b3 ≤ 99) ∨ ((!decide (0 ≤ b4)) = true ∨ (!decide (b4 ≤ 9999)) = true)) : Ending.returned (.bool false) = .returned (.bool (true && ((decide (0 ≤ b2) && decide (b2 ≤ 255)) && ((decide (0 ≤ b3) && decide (b3 ≤ 99)) && ((decide (0 ≤ b4) && decide (b4 ≤ 9999)) && x))))) := by
  congr 2
  grind
theorem sb_t {b2 b3 b4 : Int} {x y : Bool} (h2 : 0 ≤ b2 ∧ b2 ≤ 255) (h3 : 0 ≤ b3 ∧ b3 ≤ 99) (h4 : (!decide (0 ≤ b4)) = false ∧ (!decide (b4 ≤ 9999)) = false) (hx : x = y) : Ending.returned (.bool y) = .returned (.bool (true && ((decide (0 ≤ b2) && decide (b2 ≤ 255)) && ((decide (0 ≤ b3) && decide (b3 ≤ 99)) && ((decide (0 ≤ b4) && decide (b4 ≤ 9999)) && x))))) := by
  subst hx
  congr 2
  grind
section
variable {b0 b1 : Bool} {b2 b3 b4 : Int} {l : List S63}
theorem tl1 (h : (b2 == 255) = true) (h3 : b3 = 0) (h4 : b4 = 0) : batTail ⟨b0, b1, b2, b3, b4, l⟩ = !b1 := by unfold batTail; grind
theorem tl2 (h : (b2 == 255) = true) (h3 : b3 = 0) (h4 : ¬ b4 = 0) : batTail ⟨b0, b1, b2, b3, b4, l⟩ = false := by unfold batTail; grind
theorem tl3 (h : (b2 == 255) = true) (h3 : ¬ b3 = 0) : batTail ⟨b0, b1, b2, b3, b4, l⟩ = false := by unfold batTail; grind
theorem tl4 (h : (b2 == 255) = false) (h1 : b1 = true) : batTail ⟨b0, b1, b2, b3, b4, l⟩ = ((l.length : Int) == 1) := by unfold batTail; grind
theorem tl5 (h : (b2 == 255) = false) (h1 : ¬ b1 = true) : batTail ⟨b0, b1, b2, b3, b4, l⟩ = true := by unfold batTail; grind
end
set_option maxRecDepth 100000 in
set_option maxHeartbeats 4000000 in
theorem specbat_q (b : S46) (A : Option Addr) (c : Nat) (w : World) (hr : Kd.C k63 w A b.f5.length b.f5) (hc : b.f5.length ≤ c) :
    Calls Try.prog 35 #[.agg #[.bool b.f0, .bool b.f1, .int .i64 b.f2, .int .i64 b.f3, .int .i64 b.f4, .slice A b.f5.length c]] w fun e w' => e = .returned (.bool (batOk b)) ∧ Below w.heap.size w w' := by
  rw [batOk_spec]
  obtain ⟨b0, b1, b2, b3, b4, l⟩ := b
  simp only at hr hc ⊢
  have hl := hr.2.1
  have HL := Aside0.mk (fun (W2 : World) (hb : Below w.heap.size w W2) => specrecs_q l A c W2 (Kd.C_below hr hb) hc)
  clear hr
  rcases hok : (recsInc l && lenOk l) with _ | _ <;> rw [hok] at HL
  · go_enter Try.func35, Try.ntmps35
    go_wp2_with (go_at_call 50; refine (HL.out _ (below_alloc (Below.refl _ _) _)).mono ?_; rintro e w1 ⟨rfl, hb⟩)
    go_ret
    exact ⟨rfl, below_step (below_alloc (Below.refl _ _) _) hb⟩
  · go_enter Try.func35, Try.ntmps35
    go_wp2_with (first | (go_at_call 30; refine (in_q _ _ _ _).mono ?_; rintro e w' ⟨rfl, ⟨n, rfl⟩⟩) | (go_at_call 50; refine (HL.out _ (below_alloc (Below.refl _ _) _)).mono ?_; rintro e w1 ⟨rfl, hb⟩; have hB := below_step (below_alloc (Below.refl _ _) _) hb; have hw := blk_below (heap_alloc_new w _) hb; have q1 := blk_cell hw 1; have q2 := blk_cell hw 2; have q3 := blk_cell hw 3; have q4 := blk_cell hw 4; have q5 := blk_cell hw 5; clear hb hw))
    all_goals (go_ret; exact ⟨by first | exact sb_no (.inl ‹_›) | exact sb_no (.inr (.inl ‹_›)) | exact sb_no (.inr (.inr ‹_›)) | exact sb_t ‹_› ‹_› ‹_› (tl1 ‹_› ‹_› ‹_›) | exact sb_t ‹_› ‹_› ‹_› (tl2 ‹_› ‹_› ‹_›) | exact sb_t ‹_› ‹_› ‹_› (tl3 ‹_› ‹_›) | exact sb_t ‹_› ‹_› ‹_› (tl4 ‹_› ‹_›) | exact sb_t ‹_› ‹_› ‹_› (tl5 ‹_› ‹_›), pw_below_drewN hB _⟩)
def spec_BatchValid.f (k : Nat) (a0 : Bool) (a1 : Bool) (a2 a3 a4 : Int) (a5 : List S63) : Option Bool := some (batOk ⟨a0, a1, a2, a3, a4, a5⟩)
theorem spec_BatchValid.calls (k : Nat) (a0_0 : Bool) (a0_1 : Bool) (a0_2 : Int) (a0_3 : Int) (a0_4 : Int) (A0_5 : Option Addr) (c0_5 : Nat) (l0_5 : List (S63)) (r : Bool) (w : World) (hr0_5 : Kd.C k63 w A0_5 l0_5.length l0_5) (hc0_5 : l0_5.length ≤ c0_5) (h : spec_BatchValid.f k a0_0 a0_1 a0_2 a0_3 a0_4 l0_5 = some r) :
    Calls Try.prog 35 #[.agg #[.bool a0_0, .bool a0_1, .int .i64 a0_2, .int .i64 a0_3, .int .i64 a0_4, .slice A0_5 l0_5.length c0_5]] w fun e w' => e = .returned (.bool r) ∧ Below w.heap.size w w' := by
  obtain rfl := Option.some.inj h
  exact specbat_q ⟨a0_0, a0_1, a0_2, a0_3, a0_4, l0_5⟩ A0_5 c0_5 w hr0_5 hc0_5
end Go.Proofs.Ythoioccmnphfgaa.G

namespace Go.Proofs.Ythoioccmnphfgaa.G
open Go.RowKit Go.Proofs.YthoioccmnphfgaaW.PrintWords Go.Proofs.YthoioccmnphfgaaW.PrintLast Go.Proofs.YthoioccmnphfgaaW.PrintMore
attribute [local go_sem] max2_int min2_int max_two min_two max_three min_three max_four min_four   -- for this text's walks alone
set_option linter.unusedVariables false
set_option linter.unusedSimpArgs false

def spec_l91Batch.j0 : Nat → List Int → Int → Bool → Bool → Int → Int → Int → List (S63) → Option (Bool × Bool × Int × Int × Int × (List (S63)) × Int)
 | 0, _, _, _, _, _, _, _, _ => none
 | k + 1, x1000, x1001, x174000, x174001, x174002, x174003, x174004, x174005 => (spec_l6Rd_pick.f k x1000 x1001 40).bind fun bt197 => (if bt197.1 = 0 then ((some (([(-1), 1, 100] : List Int) : List Int)).bind fun y199 => ((spec_l6Rd_pick.f k x1000 bt197.2 3).bind fun bt202 => (if 0 ≤ bt202.1 then (if bt202.1 < (y199.length : Int) then (some (x174000, x174001, x174002, rd y199 bt202.1, x174004, x174005, bt202.2)) else (none)) else (none)))) else (if bt197.1 = 1 then (if 0 < (x174005.length : Int) then (if x174005.length < 1759218604441 then (some (x174000, x174001, x174002, x174003, x174004, (x174005 ++ [(⟨(rd_T63 x174005 0).f0, (rd_T63 x174005 0).f1, (rd_T63 x174005 0).f2, (rd_T63 x174005 0).f3, (rd_T63 x174005 0).f4, (rd_T63 x174005 0).f5⟩ : S63)]), bt197.2)) else (none)) else (none)) else (if bt197.1 = 2 then (some (x174000, !x174001, x174002, x174003, x174004, x174005, bt197.2)) else (some (x174000, x174001, x174002, x174003, x174004, x174005, bt197.2)))))
def spec_l91Batch.f (k : Nat) (s0_0 : List Int) (s0_1 : Int) (a1 : Int) : Option (Bool × Bool × Int × Int × Int × (List (S63)) × Int) := (spec_l6Rd_pick.f k s0_0 s0_1 2).bind fun bt167 => ((spec_l91Records.f k s0_0 bt167.2 a1 4).bind fun bt169 => ((spec_l6Rd_pick.f k s0_0 bt169.2 3).bind fun bt174 => (if bt174.1 = 0 then ((spec_l6Rd_pick.f k s0_0 bt174.2 3).bind fun bt176 => ((spec_l6Rd_pick.f k s0_0 bt176.2 3).bind fun bt178 => ((spec_l6Rd_pick.f k s0_0 bt178.2 5).bind fun bt180 => ((spec_l6Rd_pick.f k s0_0 bt180.2 3).bind fun bt182 => (if bt182.1 = 0 then ((spec_l6Rd_pick.f k s0_0 bt182.2 200).bind fun bt184 => ((spec_l6Rd_pick.f k s0_0 bt184.2 2).bind fun bt189 => (spec_l91Batch.j0 k s0_0 bt189.2 (bt167.1 == 0) true bt176.1 bt178.1 bt180.1 (([(⟨a1, bt184.1, false, (([] : List Int)), true, (([bt189.1] : List Int))⟩ : S63)] : List (S63)))))) else (spec_l91Batch.j0 k s0_0 bt182.2 (bt167.1 == 0) false bt176.1 bt178.1 bt180.1 bt169.1)))))) else (spec_l91Batch.j0 k s0_0 bt174.2 (bt167.1 == 0) false 255 0 0 bt169.1))))
def spec_l91Batch.T13 : Bool × List (List Nat × List Nat) := (true, [([], []), ([0], [0]), ([], []), ([2], [2]), ([3], [3]), ([4], [4]), ([5], [5]), ([1, 6], [1, 6]), ([0, 1, 2, 3, 4, 5, 6, 7], []), ([8, 7, 7, 0, 1, 2, 3, 4, 5, 6, 7], [7, 8])])
def spec_l91Batch.B13 : List Nat := [0, 1, 0, 4, 12, 28, 60, 127, 255, 511]
theorem spec_l91Batch.tab13 : rtab .any (opsOf Try.f34 13) = spec_l91Batch.T13 := by kernel_rfl
theorem spec_l91Batch.bits13 : waitsOk spec_l91Batch.T13.2 spec_l91Batch.B13 = true := by kernel_rfl
set_option maxHeartbeats 8000000 in
set_option maxRecDepth 100000 in
theorem spec_l91Batch.calls (k : Nat) (g : Nat) (s0_0 : List Int) (s0_1 : Int) (a1 : Int) (r1 : Bool) (r2 : Bool) (r3 : Int) (r4 : Int) (r5 : Int) (r6 : List (S63)) (r7 : Int) (w0 w : World) (hI : IsS65 w0 w g s0_0 s0_1) (hB : Below w0.heap.size w0 w) (h : spec_l91Batch.f k s0_0 s0_1 a1 = some (r1, r2, r3, r4, r5, r6, r7)) :
  Calls Try.prog 34 #[.pointer (some ⟨g, 0, none⟩), .int .i64 a1] w fun e w' => ∃ v5_ : Value, e = .returned (.agg #[.bool r1, .bool r2, .int .i64 r3, .int .i64 r4, .int .i64 r5, v5_]) ∧ Kd.N k63 63 w' w.heap.size (fun k_ => (w.heap.size ≤ k_)) v5_ r6 ∧ IsS65 w0 w' g s0_0 r7 ∧ Below w0.heap.size w0 w' ∧ KeepBut w w' g none := by
 have hu46 := Try.underlying46
 have hu63 := Try.underlying63
 have HI0 := Aside0.mk hI
 have HK := Aside0.mk (KeepBut.refl w g none)
 have HL := Aside0.mk hB.size
 clear hI
 have HW0 := Aside0.mk hB.size
 have HB := Aside0.mk hB
 clear hB
 have H : ((spec_l6Rd_pick.f k s0_0 s0_1 2).bind fun bt167 => ((spec_l91Records.f k s0_0 bt167.2 a1 4).bind fun bt169 => ((spec_l6Rd_pick.f k s0_0 bt169.2 3).bind fun bt174 => (if bt174.1 = 0 then ((spec_l6Rd_pick.f k s0_0 bt174.2 3).bind fun bt176 => ((spec_l6Rd_pick.f k s0_0 bt176.2 3).bind fun bt178 => ((spec_l6Rd_pick.f k s0_0 bt178.2 5).bind fun bt180 => ((spec_l6Rd_pick.f k s0_0 bt180.2 3).bind fun bt182 => (if bt182.1 = 0 then ((spec_l6Rd_pick.f k s0_0 bt182.2 200).bind fun bt184 => ((spec_l6Rd_pick.f k s0_0 bt184.2 2).bind fun bt189 => (spec_l91Batch.j0 k s0_0 bt189.2 (bt167.1 == 0) true bt176.1 bt178.1 bt180.1 (([(⟨a1, bt184.1, false, (([] : List Int)), true, (([bt189.1] : List Int))⟩ : S63)] : List (S63)))))) else (spec_l91Batch.j0 k s0_0 bt182.2 (bt167.1 == 0) false bt176.1 bt178.1 bt180.1 bt169.1)))))) else (spec_l91Batch.j0 k s0_0 bt174.2 (bt167.1 == 0) false 255 0 0 bt169.1))))) = some (r1, r2, r3, r4, r5, r6, r7) := h
 clear h
 replace H := tbe H
 obtain ⟨⟨t167, t168⟩, A3, H⟩ := H
 dsimp only at H
 replace H := tbe H
 obtain ⟨⟨t169, t172⟩, A4, H⟩ := H
 dsimp only at H
 replace H := tbe H
 obtain ⟨⟨t174, t175⟩, A5, H⟩ := H
 dsimp only at H
 have HC6 := Aside0.mk H
 clear H
 go_enter Try.func34, Try.ntmps34
 go_upto_if 15 with (first | ((with_reducible refine gate_dst (N := 4) rfl ?_); refine box_event ?hg (N := 4) ?hd (cs := #[.bool false, .bool false, .int .i64 0, .int .i64 0, .int .i64 0, .slice none 0 0]) (t := 46) ?hr ?_; (case hd => rfl); (case hg => rfl); (case hr => first | (go_simp; done) | (go_simp; rfl)); intro gb166 hg w7 hbox hb; replace HB := tBs HB hb; have BK166 := Aside0.mk (hbox); have GW166 := Aside0.mk ((by rw [hg]; exact (keep_size (w := w) (g := g) (row := none) zk) : w.heap.size ≤ gb166)); have GE166 := Aside0.mk ((Nat.le_trans HW0.out (by rw [hg]; exact (keep_size (w := w) (g := g) (row := none) zk) : w.heap.size ≤ gb166) : w0.heap.size ≤ gb166)); replace HK := tKb HK hb; have NB0_166 := Aside0.mk ((by rw [hg]; exact Nat.ne_of_lt (IsS65.lt (show IsS65 w0 _ g s0_0 s0_1 from zi65)) : g ≠ gb166)); have NB166_0 := Aside0.mk ((by rw [hg]; exact Nat.ne_of_gt (IsS65.lt (show IsS65 w0 _ g s0_0 s0_1 from zi65)) : gb166 ≠ g)); replace HI0 := tIb65 HI0 hb; clear hb hbox hg) | ((with_reducible refine gate_callee (f := 26) rfl ?_); refine goesL_ (some 7) rfl rfl Try.func26 (by kernel_rfl) rfl #[.pointer (some ⟨g, 0, none⟩), .int .i64 2] rfl tq ?_; (with_reducible refine (spec_l6Rd_pick.calls k g s0_0 s0_1 2 t167 t168 w0 _ ?side1 ?side2 A3.out).mono ?_); (case side1 => exact zi65); (case side2 => exact zb); rintro e w8 ⟨rfl, hi, hb, hk⟩; refine ⟨_, rfl, ?_⟩; replace BK166 := tBk BK166 hk NB166_0; replace HK := tKt HK hk; replace HB := Aside0.mk (hb); replace HI0 := Aside0.mk (hi); (try clear hb); (try clear hb2); (try clear hk); (try clear hi)) | ((with_reducible refine gate_callee (f := 36) rfl ?_); refine goesL_ (some 11) rfl rfl Try.func36 (by kernel_rfl) rfl #[.pointer (some ⟨g, 0, none⟩), .int .i64 a1, .int .i64 4] rfl tq ?_; (with_reducible refine (spec_l91Records.calls k g s0_0 t168 a1 4 t169 t172 w0 _ ?side1 ?side2 A4.out).mono ?_); (case side1 => exact zi65); (case side2 => exact zb); rintro e w9 ⟨v170, rfl, ho0, hi, hb, hk⟩; have u_v170 := tsv Try.prog v170 ho0; refine ⟨_, rfl, ?_⟩; have HO171 := Aside0.mk (Kd.N_lower (Kd.N_mono (ok' := fun k_ => (w.heap.size ≤ k_) ∧ k_ ≠ gb166 ∧ k_ ≠ g) (Kd.S_N (Kd.S_bound ho0)) (fun k_ hk_ => ⟨(Nat.le_trans (keep_size (w := w) (g := g) (row := none) zk) hk_.2.1), (tfB BK166 k_ hk_.2.1), (IsS65.fresh zi65 k_ hk_.2.1)⟩)) (keep_size (w := w) (g := g) (row := none) zk)); replace BK166 := tBk BK166 hk NB166_0; replace HK := tKt HK hk; replace HB := Aside0.mk (hb); replace HI0 := Aside0.mk (hi); (try clear hb); (try clear hb2); (try clear hk); (try clear hi); (try clear ho0); obtain ⟨Ao10, co10, eo10⟩ := Kd.N_slice HO171.out; subst eo10) | ((with_reducible refine gate_dst (N := 5) rfl ?_); refine box_event ?hg (N := 5) ?hd (cs := #[.bool false, .bool false, .int .i64 0, .int .i64 0, .int .i64 0, .slice none 0 0]) (t := 46) ?hr ?_; (case hd => rfl); (case hg => rfl); (case hr => first | (go_simp; done) | (go_simp; rfl)); intro gb173 hg w11 hbox hb; replace HO171 := tNB HO171 hg hb; replace HB := tBs HB hb; have BK173 := Aside0.mk (hbox); have GW173 := Aside0.mk ((by rw [hg]; exact (keep_size (w := w) (g := g) (row := none) zk) : w.heap.size ≤ gb173)); have GE173 := Aside0.mk ((Nat.le_trans HW0.out (by rw [hg]; exact (keep_size (w := w) (g := g) (row := none) zk) : w.heap.size ≤ gb173) : w0.heap.size ≤ gb173)); replace HK := tKb HK hb; have NB166_173 := tlt BK166 hg; have NB173_166 := tgt BK166 hg; replace BK166 := tBb BK166 hb; have NB0_173 := Aside0.mk ((by rw [hg]; exact Nat.ne_of_lt (IsS65.lt (show IsS65 w0 _ g s0_0 t172 from zi65)) : g ≠ gb173)); have NB173_0 := Aside0.mk ((by rw [hg]; exact Nat.ne_of_gt (IsS65.lt (show IsS65 w0 _ g s0_0 t172 from zi65)) : gb173 ≠ g)); replace HI0 := tIb65 HI0 hb; clear hb hbox hg; have hnb12 := NB173_166.out; have hnc12 := NB166_173.out; have hnb13 := NB173_0.out; have hnc13 := NB0_173.out; obtain ⟨hcz14_0, hcz14_1, hcz14_2, hcz14_3, hcz14_4, hcz14_5, hfz14_0, hfz14_1, hfz14_2, hfz14_3, hfz14_4, hfz14_5⟩ := cells6 BK173.out) | ((with_reducible refine gate_callee (f := 26) rfl ?_); refine goesL_ (some 14) rfl rfl Try.func26 (by kernel_rfl) rfl #[.pointer (some ⟨g, 0, none⟩), .int .i64 3] rfl tq ?_; (with_reducible refine (spec_l6Rd_pick.calls k g s0_0 t172 3 t174 t175 w0 _ ?side1 ?side2 A5.out).mono ?_); (case side1 => exact zi65); (case side2 => exact zb); rintro e w15 ⟨rfl, hi, hb, hk⟩; refine ⟨_, rfl, ?_⟩; replace BK166 := tBk BK166 hk NB166_0; replace HO171 := tNk HO171 hk; replace BK173 := tBq (o' := .cells #[.bool (t167 == 0), .bool false, .int .i64 255, .int .i64 0, .int .i64 0, .slice Ao10 t169.length co10] 46 (0, 0)) BK173 hk NB173_0; replace HK := tKt HK hk; replace HB := Aside0.mk (hb); replace HI0 := Aside0.mk (hi); (try clear hb); (try clear hb2); (try clear hk); (try clear hi)))
 (try simp only [Act.put, List.setIfInBounds_toArray, List.set_cons_zero, List.set_cons_succ])
 go_cut [] (fun wc => ∃ (kq : Nat) (x1001_5 : Int) (x174001_5 : Bool) (x174002_5 : Int) (x174003_5 : Int) (x174004_5 : Int) (x174005_5 : List (S63)) (u174005 : Value), Aside0 (spec_l91Batch.j0 kq s0_0 x1001_5 (t167 == 0) x174001_5 x174002_5 x174003_5 x174004_5 x174005_5 = some (r1, r2, r3, r4, r5, r6, r7)) ∧ Aside0 (kq ≤ k) ∧ Aside0 (Kd.N k63 63 wc w.heap.size (fun k_ => (w.heap.size ≤ k_) ∧ k_ ≠ gb166 ∧ k_ ≠ gb173 ∧ k_ ≠ g) u174005 x174005_5) ∧ Aside0 (wc.heap[gb166]? = some (.cells #[.bool false, .bool false, .int .i64 0, .int .i64 0, .int .i64 0, (.slice none 0 0)] 46 (0, 0))) ∧ Aside0 (wc.heap[gb173]? = some (.cells #[.bool (t167 == 0), .bool x174001_5, .int .i64 x174002_5, .int .i64 x174003_5, .int .i64 x174004_5, u174005] 46 (0, 0))) ∧ Aside0 (IsS65 w0 wc g s0_0 x1001_5) ∧ Aside0 (KeepBut w wc g none) ∧ Aside0 (Below w0.heap.size w0 wc))
 case first =>
  have H := HC6.out
  clear HC6
  by_cases c16 : t174 = 0
  ·rw [if_pos c16] at H
   have c16b0 : (t174 == 0) = true := beq_iff_eq.mpr c16
   have c16b1 : (t174 != 0) = false := bne_eq_false_iff_eq.mpr c16
   clear c16
   (first | rw [c16b0] | (simp only [i64_w, i32_w]; rw [c16b0]) | skip)
   replace H := tbe H
   obtain ⟨⟨t176, t177⟩, A17, H⟩ := H
   dsimp only at H
   replace H := tbe H
   obtain ⟨⟨t178, t179⟩, A18, H⟩ := H
   dsimp only at H
   replace H := tbe H
   obtain ⟨⟨t180, t181⟩, A19, H⟩ := H
   dsimp only at H
   replace H := tbe H
   obtain ⟨⟨t182, t183⟩, A20, H⟩ := H
   dsimp only at H
   by_cases c21 : t182 = 0
   ·rw [if_pos c21] at H
    have c21b0 : (t182 == 0) = true := beq_iff_eq.mpr c21
    have c21b1 : (t182 != 0) = false := bne_eq_false_iff_eq.mpr c21
    clear c21
    replace H := tbe H
    obtain ⟨⟨t184, t185⟩, A22, H⟩ := H
    dsimp only at H
    obtain ⟨y186, hy186⟩ : ∃ y_ : List Int, y_ = (([] : List Int)) := ⟨_, rfl⟩
    replace H : ((spec_l6Rd_pick.f k s0_0 t185 2).bind fun bt189 => (spec_l91Batch.j0 k s0_0 bt189.2 (t167 == 0) true t176 t178 t180 (([(⟨a1, t184, false, y186, true, (([bt189.1] : List Int))⟩ : S63)] : List (S63))))) = some (r1, r2, r3, r4, r5, r6, r7) := by first | (rw [hy186]; with_reducible exact H) | (have H2_ := (Option.bind_some _ _).symm.trans H; rw [hy186]; with_reducible exact H2_) | (have H2_ := (Option.bind_some _ _).symm.trans H; with_reducible exact H2_) | with_reducible exact H | (rw [hy186]; exact H) | exact H
    have Ny186 := Aside0.mk hy186
    clear hy186
    replace H := tbe H
    obtain ⟨⟨t189, t190⟩, A23, H⟩ := H
    dsimp only at H
    obtain ⟨y191, hy191⟩ : ∃ y_ : List Int, y_ = (([t189] : List Int)) := ⟨_, rfl⟩
    replace H : (spec_l91Batch.j0 k s0_0 t190 (t167 == 0) true t176 t178 t180 (([(⟨a1, t184, false, y186, true, y191⟩ : S63)] : List (S63)))) = some (r1, r2, r3, r4, r5, r6, r7) := by first | (rw [hy191]; with_reducible exact H) | (have H2_ := (Option.bind_some _ _).symm.trans H; rw [hy191]; with_reducible exact H2_) | (have H2_ := (Option.bind_some _ _).symm.trans H; with_reducible exact H2_) | with_reducible exact H | (rw [hy191]; exact H) | exact H
    have Ny191 := Aside0.mk hy191
    clear hy191
    obtain ⟨y194, hy194⟩ : ∃ y_ : List (S63), y_ = (([(⟨a1, t184, false, y186, true, y191⟩ : S63)] : List (S63))) := ⟨_, rfl⟩
    replace H : (spec_l91Batch.j0 k s0_0 t190 (t167 == 0) true t176 t178 t180 y194) = some (r1, r2, r3, r4, r5, r6, r7) := by first | (rw [hy194]; with_reducible exact H) | (have H2_ := (Option.bind_some _ _).symm.trans H; rw [hy194]; with_reducible exact H2_) | (have H2_ := (Option.bind_some _ _).symm.trans H; with_reducible exact H2_) | with_reducible exact H | (rw [hy194]; exact H) | exact H
    have Ny194 := Aside0.mk hy194
    clear hy194
    have H' := Aside0.mk H
    clear H
    go_wp2_with (first | ((with_reducible refine gate_callee (f := 26) rfl ?_); refine goesL_ (some 17) rfl rfl Try.func26 (by kernel_rfl) rfl #[.pointer (some ⟨g, 0, none⟩), .int .i64 3] rfl tq ?_; (with_reducible refine (spec_l6Rd_pick.calls k g s0_0 t175 3 t176 t177 w0 _ ?side1 ?side2 A17.out).mono ?_); (case side1 => exact zi65); (case side2 => exact zb); rintro e w24 ⟨rfl, hi, hb, hk⟩; refine ⟨_, rfl, ?_⟩; replace BK166 := tBk BK166 hk NB166_0; replace HO171 := tNk HO171 hk; replace BK173 := tBk BK173 hk NB173_0; replace HK := tKt HK hk; replace HB := Aside0.mk (hb); replace HI0 := Aside0.mk (hi); (try clear hb); (try clear hb2); (try clear hk); (try clear hi); have hnb25 := NB173_166.out; have hnc25 := NB166_173.out; have hnb26 := NB173_0.out; have hnc26 := NB0_173.out; obtain ⟨hcz27_0, hcz27_1, hcz27_2, hcz27_3, hcz27_4, hcz27_5, hfz27_0, hfz27_1, hfz27_2, hfz27_3, hfz27_4, hfz27_5⟩ := cells6 BK173.out) | ((with_reducible refine gate_callee (f := 26) rfl ?_); refine goesL_ (some 20) rfl rfl Try.func26 (by kernel_rfl) rfl #[.pointer (some ⟨g, 0, none⟩), .int .i64 3] rfl tq ?_; (with_reducible refine (spec_l6Rd_pick.calls k g s0_0 t177 3 t178 t179 w0 _ ?side1 ?side2 A18.out).mono ?_); (case side1 => exact zi65); (case side2 => exact zb); rintro e w28 ⟨rfl, hi, hb, hk⟩; refine ⟨_, rfl, ?_⟩; replace BK166 := tBk BK166 hk NB166_0; replace HO171 := tNk HO171 hk; replace BK173 := tBq (o' := .cells #[.bool (t167 == 0), .bool false, .int .i64 t176, .int .i64 0, .int .i64 0, .slice Ao10 t169.length co10] 46 (0, 0)) BK173 hk NB173_0; replace HK := tKt HK hk; replace HB := Aside0.mk (hb); replace HI0 := Aside0.mk (hi); (try clear hb); (try clear hb2); (try clear hk); (try clear hi); obtain ⟨hcz29_0, hcz29_1, hcz29_2, hcz29_3, hcz29_4, hcz29_5, hfz29_0, hfz29_1, hfz29_2, hfz29_3, hfz29_4, hfz29_5⟩ := cells6 BK173.out) | ((with_reducible refine gate_callee (f := 26) rfl ?_); refine goesL_ (some 23) rfl rfl Try.func26 (by kernel_rfl) rfl #[.pointer (some ⟨g, 0, none⟩), .int .i64 5] rfl tq ?_; (with_reducible refine (spec_l6Rd_pick.calls k g s0_0 t179 5 t180 t181 w0 _ ?side1 ?side2 A19.out).mono ?_); (case side1 => exact zi65); (case side2 => exact zb); rintro e w30 ⟨rfl, hi, hb, hk⟩; refine ⟨_, rfl, ?_⟩; replace BK166 := tBk BK166 hk NB166_0; replace HO171 := tNk HO171 hk; replace BK173 := tBq (o' := .cells #[.bool (t167 == 0), .bool false, .int .i64 t176, .int .i64 t178, .int .i64 0, .slice Ao10 t169.length co10] 46 (0, 0)) BK173 hk NB173_0; replace HK := tKt HK hk; replace HB := Aside0.mk (hb); replace HI0 := Aside0.mk (hi); (try clear hb); (try clear hb2); (try clear hk); (try clear hi); obtain ⟨hcz31_0, hcz31_1, hcz31_2, hcz31_3, hcz31_4, hcz31_5, hfz31_0, hfz31_1, hfz31_2, hfz31_3, hfz31_4, hfz31_5⟩ := cells6 BK173.out) | ((with_reducible refine gate_callee (f := 26) rfl ?_); refine goesL_ (some 26) rfl rfl Try.func26 (by kernel_rfl) rfl #[.pointer (some ⟨g, 0, none⟩), .int .i64 3] rfl tq ?_; (with_reducible refine (spec_l6Rd_pick.calls k g s0_0 t181 3 t182 t183 w0 _ ?side1 ?side2 A20.out).mono ?_); (case side1 => exact zi65); (case side2 => exact zb); rintro e w32 ⟨rfl, hi, hb, hk⟩; refine ⟨_, rfl, ?_⟩; replace BK166 := tBk BK166 hk NB166_0; replace HO171 := tNk HO171 hk; replace BK173 := tBq (o' := .cells #[.bool (t167 == 0), .bool false, .int .i64 t176, .int .i64 t178, .int .i64 t180, .slice Ao10 t169.length co10] 46 (0, 0)) BK173 hk NB173_0; replace HK := tKt HK hk; replace HB := Aside0.mk (hb); replace HI0 := Aside0.mk (hi); (try clear hb); (try clear hb2); (try clear hk); (try clear hi); obtain ⟨hcz33_0, hcz33_1, hcz33_2, hcz33_3, hcz33_4, hcz33_5, hfz33_0, hfz33_1, hfz33_2, hfz33_3, hfz33_4, hfz33_5⟩ := cells6 BK173.out) | ((with_reducible refine gate_callee (f := 26) rfl ?_); refine goesL_ (some 31) rfl rfl Try.func26 (by kernel_rfl) rfl #[.pointer (some ⟨g, 0, none⟩), .int .i64 200] rfl tq ?_; (with_reducible refine (spec_l6Rd_pick.calls k g s0_0 t183 200 t184 t185 w0 _ ?side1 ?side2 A22.out).mono ?_); (case side1 => exact zi65); (case side2 => exact zb); rintro e w34 ⟨rfl, hi, hb, hk⟩; refine ⟨_, rfl, ?_⟩; replace BK166 := tBk BK166 hk NB166_0; replace HO171 := tNk HO171 hk; replace BK173 := tBq (o' := .cells #[.bool (t167 == 0), .bool true, .int .i64 t176, .int .i64 t178, .int .i64 t180, .slice Ao10 t169.length co10] 46 (0, 0)) BK173 hk NB173_0; replace HK := tKt HK hk; replace HB := Aside0.mk (hb); replace HI0 := Aside0.mk (hi); (try clear hb); (try clear hb2); (try clear hk); (try clear hi)) | ((with_reducible refine gate_dst (N := 32) rfl ?_); refine Kd.R_lit (Kd.int .i64) _ 3 ?hg (N := 32) ?hd (xs := ([] : List Int)) (inner := []) (ok := fun _ => True) (okp := fun _ => True) ?hr ?hp (fun _ hk => hk) trivial (Below.refl _ _) (Nat.le_refl _) (by simp) ?_; (case hd => rfl); (case hg => rfl); (case hr => first | (go_simp; done) | (go_simp; rfl)); (case hp => exact (Reps.none _ _)); intro v187 w35 ho36 hb hg_ hnew_; clear hg_ hnew_; (first | rw [← Ny186.out] at ho36 | (simp only [Int.reduceToNat] at ho36; rw [← Ny186.out] at ho36)); replace HO171 := Aside0.mk (Kd.N_elder' (tN HO171.out) (Kd.R_base ho36) hb); have HO188 := Aside0.mk (Kd.R_lower (Kd.R_newM (M := fun k_ => (w.heap.size ≤ k_)) ho36 (keep_size (w := w) (g := g) (row := none) zk) (fun k_ h_ => h_)) (keep_size (w := w) (g := g) (row := none) zk)); replace HI0 := tIb65 HI0 hb; replace BK166 := tBb BK166 hb; replace BK173 := tBb BK173 hb; replace HK := tKb HK hb; replace HB := tBs HB hb; clear hb ho36) | ((with_reducible refine gate_callee (f := 26) rfl ?_); refine goesL_ (some 34) rfl rfl Try.func26 (by kernel_rfl) rfl #[.pointer (some ⟨g, 0, none⟩), .int .i64 2] rfl tq ?_; (with_reducible refine (spec_l6Rd_pick.calls k g s0_0 t185 2 t189 t190 w0 _ ?side1 ?side2 A23.out).mono ?_); (case side1 => exact zi65); (case side2 => exact zb); rintro e w37 ⟨rfl, hi, hb, hk⟩; refine ⟨_, rfl, ?_⟩; replace BK166 := tBk BK166 hk NB166_0; replace HO171 := tNk HO171 hk; replace BK173 := tBk BK173 hk NB173_0; replace HO188 := tRp65 HO188 HI0 hk; replace HK := tKt HK hk; replace HB := Aside0.mk (hb); replace HI0 := Aside0.mk (hi); (try clear hb); (try clear hb2); (try clear hk); (try clear hi)) | ((with_reducible refine gate_dst (N := 35) rfl ?_); refine Kd.R_lit (Kd.int .i64) _ 3 ?hg (N := 35) ?hd (xs := ([t189] : List Int)) (inner := [.int .i64 t189]) (ok := fun _ => True) (okp := fun _ => True) ?hr ?hp (fun _ hk => hk) trivial (Below.refl _ _) (Nat.le_refl _) (by simp) ?_; (case hd => rfl); (case hg => rfl); (case hr => first | (go_simp; done) | (go_simp; rfl)); (case hp => exact (Reps.one (show Kd.M (Kd.int .i64) _ _ _ t189 [.int .i64 t189] from rfl) (Reps.none _ _))); intro v192 w38 ho39 hb hg_ hnew_; clear hg_ hnew_; (first | rw [← Ny191.out] at ho39 | (simp only [Int.reduceToNat] at ho39; rw [← Ny191.out] at ho39)); replace HO171 := Aside0.mk (Kd.N_elder' (tN HO171.out) (Kd.R_base ho39) hb); have HO193 := Aside0.mk (Kd.R_lower (Kd.R_new' (Kd.R_newM (M := fun k_ => (w.heap.size ≤ k_)) ho39 (keep_size (w := w) (g := g) (row := none) zk) (fun k_ h_ => h_)) (Kd.R_lt (tR HO188.out))) (keep_size (w := w) (g := g) (row := none) zk)); replace HO188 := Aside0.mk (Kd.R_elder' (tR HO188.out) (Kd.R_base ho39) hb); replace HI0 := tIb65 HI0 hb; replace BK166 := tBb BK166 hb; replace BK173 := tBb BK173 hb; replace HK := tKb HK hb; replace HB := tBs HB hb; clear hb ho39; obtain ⟨Ao40, co40, eo40⟩ := Kd.R_slice HO193.out; subst eo40; obtain ⟨Ao41, co41, eo41⟩ := Kd.R_slice HO188.out; subst eo41) | ((with_reducible refine gate_dst (N := 37) rfl ?_); refine Kd.N_lit k63 _ 63 ?hg (N' := 37) ?hd (xs := ([(⟨a1, t184, false, y186, true, y191⟩ : S63)] : List (S63))) (inner := [.int .i64 a1, .int .i64 t184, .bool false, .slice Ao41 y186.length co41, .bool true, .slice Ao40 y191.length co40]) (ok := (fun k_ => (w.heap.size ≤ k_) ∧ some k_ ≠ (.slice Ao10 t169.length co10 : Value).ownBlock ∧ k_ ≠ gb166 ∧ k_ ≠ gb173 ∧ k_ ≠ g)) (okp := (fun k_ => (w.heap.size ≤ k_) ∧ some k_ ≠ (.slice Ao10 t169.length co10 : Value).ownBlock ∧ k_ ≠ gb166 ∧ k_ ≠ gb173 ∧ k_ ≠ g)) ?hr ?hp (fun _ hk => hk) ((show ∀ k_, w38.heap.size ≤ k_ → (fun k_ => (w.heap.size ≤ k_) ∧ some k_ ≠ (.slice Ao10 t169.length co10 : Value).ownBlock ∧ k_ ≠ gb166 ∧ k_ ≠ gb173 ∧ k_ ≠ g) k_ from fun k_ hk => ⟨(Nat.le_trans (keep_size (w := w) (g := g) (row := none) zk) hk), tfr HO171 k_ hk, tfB BK166 k_ hk, tfB BK173 k_ hk, IsS65.fresh zi65 k_ hk⟩) _ (Nat.le_refl _)) (Below.refl _ _) (Nat.le_refl _) (by simp) ?_; (case hd => rfl); (case hg => rfl); (case hr => first | (go_simp; done) | (go_simp; rfl)); (case hp => exact (Reps.c6 (show Kd.FK k63 _ _ (⟨a1, t184, false, y186, true, y191⟩ : S63) [.int .i64 a1, .int .i64 t184, .bool false, .slice Ao41 y186.length co41, .bool true, .slice Ao40 y191.length co40] from (k63_mkF _ _ (⟨a1, t184, false, y186, true, y191⟩ : S63) (Kd.R_reads' (Kd.R_mono (ok' := (fun k_ => (w.heap.size ≤ k_) ∧ some k_ ≠ (.slice Ao10 t169.length co10 : Value).ownBlock ∧ k_ ≠ gb166 ∧ k_ ≠ gb173 ∧ k_ ≠ g)) (IsS65.apart HI0.out (Kd.R_types (Kd.R_types (Kd.R_apart' (HO188.out) (Kd.N_typed HO171.out) (by decide)) BK166.out (by decide)) BK173.out (by decide)) (by decide)) (fun k_ hk => ⟨hk.1.1.1.1.1.1, ⟨hk.1.1.1.2, ⟨hk.1.1.2, ⟨hk.1.2, hk.2⟩⟩⟩⟩))).2.1 (Kd.R_F (Kd.R_mono (ok' := (fun k_ => (w.heap.size ≤ k_) ∧ some k_ ≠ (.slice Ao10 t169.length co10 : Value).ownBlock ∧ k_ ≠ gb166 ∧ k_ ≠ gb173 ∧ k_ ≠ g)) (IsS65.apart HI0.out (Kd.R_types (Kd.R_types (Kd.R_apart' (HO188.out) (Kd.N_typed HO171.out) (by decide)) BK166.out (by decide)) BK173.out (by decide)) (by decide)) (fun k_ hk => ⟨hk.1.1.1.1.1.1, ⟨hk.1.1.1.2, ⟨hk.1.1.2, ⟨hk.1.2, hk.2⟩⟩⟩⟩))) (Kd.R_reads' (Kd.R_mono (ok' := (fun k_ => (w.heap.size ≤ k_) ∧ some k_ ≠ (.slice Ao10 t169.length co10 : Value).ownBlock ∧ k_ ≠ gb166 ∧ k_ ≠ gb173 ∧ k_ ≠ g)) (IsS65.apart HI0.out (Kd.R_types (Kd.R_types (Kd.R_apart' (HO193.out) (Kd.N_typed HO171.out) (by decide)) BK166.out (by decide)) BK173.out (by decide)) (by decide)) (fun k_ hk => ⟨hk.1.1.1.1.1.1, ⟨hk.1.1.1.2, ⟨hk.1.1.2, ⟨hk.1.2, hk.2⟩⟩⟩⟩))).2.1 (Kd.R_F (Kd.R_mono (ok' := (fun k_ => (w.heap.size ≤ k_) ∧ some k_ ≠ (.slice Ao10 t169.length co10 : Value).ownBlock ∧ k_ ≠ gb166 ∧ k_ ≠ gb173 ∧ k_ ≠ g)) (IsS65.apart HI0.out (Kd.R_types (Kd.R_types (Kd.R_apart' (HO193.out) (Kd.N_typed HO171.out) (by decide)) BK166.out (by decide)) BK173.out (by decide)) (by decide)) (fun k_ hk => ⟨hk.1.1.1.1.1.1, ⟨hk.1.1.1.2, ⟨hk.1.1.2, ⟨hk.1.2, hk.2⟩⟩⟩⟩))))) (Reps.none _ _))); intro v195 w42 ho43 hb hg_ hnew_; clear hg_ hnew_; (first | rw [← Ny194.out] at ho43 | (simp only [Int.reduceToNat] at ho43; rw [← Ny194.out] at ho43)); replace HO171 := tNe HO171 ho43 hb; have HO196 := Aside0.mk (Kd.N_lower ho43 (keep_size (w := w) (g := g) (row := none) zk)); replace HI0 := tIb65 HI0 hb; replace BK166 := tBb BK166 hb; replace BK173 := tBb BK173 hb; replace HK := tKb HK hb; replace HB := tBs HB hb; clear HO188 HO193; clear hb ho43; obtain ⟨Ao44, co44, eo44⟩ := Kd.N_slice HO196.out; subst eo44; obtain ⟨hcz45_0, hcz45_1, hcz45_2, hcz45_3, hcz45_4, hcz45_5, hfz45_0, hfz45_1, hfz45_2, hfz45_3, hfz45_4, hfz45_5⟩ := cells6 BK173.out))
    go_meet
    case rel => exact ⟨_, (t190), (true), (t176), (t178), (t180), (y194), (.slice Ao44 y194.length co44), H', ⟨by first | omega | exact Nat.le_refl _⟩, ⟨tNm HO196.out⟩, ⟨tH BK166.out⟩, ⟨tP BK173.out⟩, ⟨zi65⟩, ⟨zk⟩, ⟨zb⟩⟩
   ·rw [if_neg c21] at H
    have c21b0 : (t182 == 0) = false := beq_eq_false_iff_ne.mpr c21
    have c21b1 : (t182 != 0) = true := bne_iff_ne.mpr c21
    have H' := Aside0.mk H
    clear H
    go_wp2_with (first | ((with_reducible refine gate_callee (f := 26) rfl ?_); refine goesL_ (some 17) rfl rfl Try.func26 (by kernel_rfl) rfl #[.pointer (some ⟨g, 0, none⟩), .int .i64 3] rfl tq ?_; (with_reducible refine (spec_l6Rd_pick.calls k g s0_0 t175 3 t176 t177 w0 _ ?side1 ?side2 A17.out).mono ?_); (case side1 => exact zi65); (case side2 => exact zb); rintro e w46 ⟨rfl, hi, hb, hk⟩; refine ⟨_, rfl, ?_⟩; replace BK166 := tBk BK166 hk NB166_0; replace HO171 := tNk HO171 hk; replace BK173 := tBk BK173 hk NB173_0; replace HK := tKt HK hk; replace HB := Aside0.mk (hb); replace HI0 := Aside0.mk (hi); (try clear hb); (try clear hb2); (try clear hk); (try clear hi); have hnb47 := NB173_166.out; have hnc47 := NB166_173.out; have hnb48 := NB173_0.out; have hnc48 := NB0_173.out; obtain ⟨hcz49_0, hcz49_1, hcz49_2, hcz49_3, hcz49_4, hcz49_5, hfz49_0, hfz49_1, hfz49_2, hfz49_3, hfz49_4, hfz49_5⟩ := cells6 BK173.out) | ((with_reducible refine gate_callee (f := 26) rfl ?_); refine goesL_ (some 20) rfl rfl Try.func26 (by kernel_rfl) rfl #[.pointer (some ⟨g, 0, none⟩), .int .i64 3] rfl tq ?_; (with_reducible refine (spec_l6Rd_pick.calls k g s0_0 t177 3 t178 t179 w0 _ ?side1 ?side2 A18.out).mono ?_); (case side1 => exact zi65); (case side2 => exact zb); rintro e w50 ⟨rfl, hi, hb, hk⟩; refine ⟨_, rfl, ?_⟩; replace BK166 := tBk BK166 hk NB166_0; replace HO171 := tNk HO171 hk; replace BK173 := tBq (o' := .cells #[.bool (t167 == 0), .bool false, .int .i64 t176, .int .i64 0, .int .i64 0, .slice Ao10 t169.length co10] 46 (0, 0)) BK173 hk NB173_0; replace HK := tKt HK hk; replace HB := Aside0.mk (hb); replace HI0 := Aside0.mk (hi); (try clear hb); (try clear hb2); (try clear hk); (try clear hi); obtain ⟨hcz51_0, hcz51_1, hcz51_2, hcz51_3, hcz51_4, hcz51_5, hfz51_0, hfz51_1, hfz51_2, hfz51_3, hfz51_4, hfz51_5⟩ := cells6 BK173.out) | ((with_reducible refine gate_callee (f := 26) rfl ?_); refine goesL_ (some 23) rfl rfl Try.func26 (by kernel_rfl) rfl #[.pointer (some ⟨g, 0, none⟩), .int .i64 5] rfl tq ?_; (with_reducible refine (spec_l6Rd_pick.calls k g s0_0 t179 5 t180 t181 w0 _ ?side1 ?side2 A19.out).mono ?_); (case side1 => exact zi65); (case side2 => exact zb); rintro e w52 ⟨rfl, hi, hb, hk⟩; refine ⟨_, rfl, ?_⟩; replace BK166 := tBk BK166 hk NB166_0; replace HO171 := tNk HO171 hk; replace BK173 := tBq (o' := .cells #[.bool (t167 == 0), .bool false, .int .i64 t176, .int .i64 t178, .int .i64 0, .slice Ao10 t169.length co10] 46 (0, 0)) BK173 hk NB173_0; replace HK := tKt HK hk; replace HB := Aside0.mk (hb); replace HI0 := Aside0.mk (hi); (try clear hb); (try clear hb2); (try clear hk); (try clear hi); obtain ⟨hcz53_0, hcz53_1, hcz53_2, hcz53_3, hcz53_4, hcz53_5, hfz53_0, hfz53_1, hfz53_2, hfz53_3, hfz53_4, hfz53_5⟩ := cells6 BK173.out) | ((with_reducible refine gate_callee (f := 26) rfl ?_); refine goesL_ (some 26) rfl rfl Try.func26 (by kernel_rfl) rfl #[.pointer (some ⟨g, 0, none⟩), .int .i64 3] rfl tq ?_; (with_reducible refine (spec_l6Rd_pick.calls k g s0_0 t181 3 t182 t183 w0 _ ?side1 ?side2 A20.out).mono ?_); (case side1 => exact zi65); (case side2 => exact zb); rintro e w54 ⟨rfl, hi, hb, hk⟩; refine ⟨_, rfl, ?_⟩; replace BK166 := tBk BK166 hk NB166_0; replace HO171 := tNk HO171 hk; replace BK173 := tBq (o' := .cells #[.bool (t167 == 0), .bool false, .int .i64 t176, .int .i64 t178, .int .i64 t180, .slice Ao10 t169.length co10] 46 (0, 0)) BK173 hk NB173_0; replace HK := tKt HK hk; replace HB := Aside0.mk (hb); replace HI0 := Aside0.mk (hi); (try clear hb); (try clear hb2); (try clear hk); (try clear hi)))
    go_meet
    case rel => exact ⟨_, (t183), (false), (t176), (t178), (t180), (t169), (.slice Ao10 t169.length co10), H', ⟨by first | omega | exact Nat.le_refl _⟩, ⟨tNm HO171.out⟩, ⟨tH BK166.out⟩, ⟨tH BK173.out⟩, ⟨zi65⟩, ⟨zk⟩, ⟨zb⟩⟩
  ·rw [if_neg c16] at H
   have c16b0 : (t174 == 0) = false := beq_eq_false_iff_ne.mpr c16
   have c16b1 : (t174 != 0) = true := bne_iff_ne.mpr c16
   (first | rw [c16b0] | (simp only [i64_w, i32_w]; rw [c16b0]) | skip)
   have H' := Aside0.mk H
   clear H
   go_wp2
   go_meet
   case rel => exact ⟨_, (t175), (false), (255), (0), (0), (t169), (.slice Ao10 t169.length co10), H', ⟨by first | omega | exact Nat.le_refl _⟩, ⟨tNm HO171.out⟩, ⟨tH BK166.out⟩, ⟨tH BK173.out⟩, ⟨zi65⟩, ⟨zk⟩, ⟨zb⟩⟩
 case rest =>
  clear HC6
  try clear hcz14_0; try clear hcz14_1; try clear hcz14_2; try clear hcz14_3; try clear hcz14_4; try clear hcz14_5; try clear hfz14_0; try clear hfz14_1; try clear hfz14_2; try clear hfz14_3; try clear hfz14_4; try clear hfz14_5
  obtain ⟨kq, x1001_5, x174001_5, x174002_5, x174003_5, x174004_5, x174005_5, u174005, HA, HJ5, HO_174005, BK166, BK173, HI0, HK, HB⟩ := hcut
  cases kq with
  | zero => exact absurd HA.out (by simp [spec_l91Batch.j0])
  | succ kj5 =>
   have H := HA.out
   clear HA
   simp only [spec_l91Batch.j0] at H
   replace H := tbe H
   obtain ⟨⟨t197, t198⟩, A55, H⟩ := H
   dsimp only at H
   by_cases c56 : t197 = 0
   ·rw [if_pos c56] at H
    have c56b0 : (t197 == 0) = true := beq_iff_eq.mpr c56
    have c56b1 : (t197 != 0) = false := bne_eq_false_iff_eq.mpr c56
    clear c56
    obtain ⟨y199, hy199⟩ : ∃ y_ : List Int, y_ = (([(-1), 1, 100] : List Int)) := ⟨_, rfl⟩
    replace H : ((spec_l6Rd_pick.f kj5 s0_0 t198 3).bind fun bt202 => (if 0 ≤ bt202.1 then (if bt202.1 < (y199.length : Int) then (some ((t167 == 0), x174001_5, x174002_5, rd y199 bt202.1, x174004_5, x174005_5, bt202.2)) else (none)) else (none))) = some (r1, r2, r3, r4, r5, r6, r7) := by first | (rw [hy199]; with_reducible exact H) | (have H2_ := (Option.bind_some _ _).symm.trans H; rw [hy199]; with_reducible exact H2_) | (have H2_ := (Option.bind_some _ _).symm.trans H; with_reducible exact H2_) | with_reducible exact H | (rw [hy199]; exact H) | exact H
    have Ny199 := Aside0.mk hy199
    clear hy199
    replace H := tbe H
    obtain ⟨⟨t202, t203⟩, A57, H⟩ := H
    dsimp only at H
    by_cases c58 : 0 ≤ t202
    ·rw [if_pos c58] at H
     have c58b0 : decide (0 ≤ t202) = true := decide_eq_true c58
     clear c58
     by_cases c59 : t202 < (y199.length : Int)
     ·rw [if_pos c59] at H
      have c59b0 : decide (t202 < (y199.length : Int)) = true := decide_eq_true c59
      clear c59
      simp only [Option.some.injEq, Prod.mk.injEq] at H
      obtain ⟨rfl, rfl, rfl, rfl, rfl, rfl, rfl⟩ := H
      go_wp2_with (first | ((with_reducible refine gate_callee (f := 26) rfl ?_); refine goesL_ (some 40) rfl rfl Try.func26 (by kernel_rfl) rfl #[.pointer (some ⟨g, 0, none⟩), .int .i64 40] rfl tq ?_; (with_reducible refine (spec_l6Rd_pick.calls kj5 g s0_0 x1001_5 40 t197 t198 w0 _ ?side1 ?side2 A55.out).mono ?_); (case side1 => exact zi65); (case side2 => exact zb); rintro e w60 ⟨rfl, hi, hb, hk⟩; refine ⟨_, rfl, ?_⟩; replace HO_174005 := tNk HO_174005 hk; replace BK166 := tBk BK166 hk NB166_0; replace BK173 := tBk BK173 hk NB173_0; replace HK := tKt HK hk; replace HB := Aside0.mk (hb); replace HI0 := Aside0.mk (hi); (try clear hb); (try clear hb2); (try clear hk); (try clear hi)) | ((with_reducible refine gate_dst (N := 43) rfl ?_); refine Kd.R_lit (Kd.int .i64) _ 3 ?hg (N := 43) ?hd (xs := ([(-1), 1, 100] : List Int)) (inner := [.int .i64 (-1), .int .i64 1, .int .i64 100]) (ok := fun _ => True) (okp := fun _ => True) ?hr ?hp (fun _ hk => hk) trivial (Below.refl _ _) (Nat.le_refl _) (by simp) ?_; (case hd => rfl); (case hg => rfl); (case hr => first | (go_simp; done) | (go_simp; rfl)); (case hp => exact (Reps.one (show Kd.M (Kd.int .i64) _ _ _ (-1) [.int .i64 (-1)] from rfl) (Reps.one (show Kd.M (Kd.int .i64) _ _ _ 1 [.int .i64 1] from rfl) (Reps.one (show Kd.M (Kd.int .i64) _ _ _ 100 [.int .i64 100] from rfl) (Reps.none _ _))))); intro v200 w61 ho62 hb hg_ hnew_; clear hg_ hnew_; (first | rw [← Ny199.out] at ho62 | (simp only [Int.reduceToNat] at ho62; rw [← Ny199.out] at ho62)); replace HO_174005 := Aside0.mk (Kd.N_elder' (tN HO_174005.out) (Kd.R_base ho62) hb); have HO201 := Aside0.mk (Kd.R_lower (Kd.R_newM (M := fun k_ => (w.heap.size ≤ k_)) ho62 (keep_size (w := w) (g := g) (row := none) zk) (fun k_ h_ => h_)) (keep_size (w := w) (g := g) (row := none) zk)); replace BK166 := tBb BK166 hb; replace BK173 := tBb BK173 hb; replace HI0 := tIb65 HI0 hb; replace HK := tKb HK hb; replace HB := tBs HB hb; clear hb ho62) | ((with_reducible refine gate_callee (f := 26) rfl ?_); refine goesL_ (some 45) rfl rfl Try.func26 (by kernel_rfl) rfl #[.pointer (some ⟨g, 0, none⟩), .int .i64 3] rfl tq ?_; (with_reducible refine (spec_l6Rd_pick.calls kj5 g s0_0 t198 3 t202 t203 w0 _ ?side1 ?side2 A57.out).mono ?_); (case side1 => exact zi65); (case side2 => exact zb); rintro e w63 ⟨rfl, hi, hb, hk⟩; refine ⟨_, rfl, ?_⟩; replace HO_174005 := tNk HO_174005 hk; replace BK166 := tBk BK166 hk NB166_0; replace BK173 := tBk BK173 hk NB173_0; replace HO201 := tRp65 HO201 HI0 hk; replace HK := tKt HK hk; replace HB := Aside0.mk (hb); replace HI0 := Aside0.mk (hi); (try clear hb); (try clear hb2); (try clear hk); (try clear hi); obtain ⟨Ao64, co64, eo64⟩ := Kd.R_slice HO201.out; subst eo64; have p204 : 0 ≤ (t202 : Int) := td; have q204 : t202 < (y199.length : Int) := td; obtain ⟨ad204, e204, hx204_0⟩ := Kd.at_int (Kd.R_reads' HO201.out).2.2 t202 p204 q204; cases e204; replace p204 := eq_true p204; replace q204 := eq_true q204; have hnb65 := NB173_166.out; have hnc65 := NB166_173.out; have hnb66 := NB173_0.out; have hnc66 := NB0_173.out; obtain ⟨hcz67_0, hcz67_1, hcz67_2, hcz67_3, hcz67_4, hcz67_5, hfz67_0, hfz67_1, hfz67_2, hfz67_3, hfz67_4, hfz67_5⟩ := cells6 BK173.out; have hnb68 := NB166_0.out; have hnc68 := NB0_166.out; obtain ⟨hcz69_0, hcz69_1, hcz69_2, hcz69_3, hcz69_4, hcz69_5, hfz69_0, hfz69_1, hfz69_2, hfz69_3, hfz69_4, hfz69_5⟩ := cells6 BK166.out; obtain ⟨Ao70, co70, eo70⟩ := Kd.N_slice HO_174005.out; subst eo70))
      refine bodyPost_ret (results_cell_row rfl _ _ gb166 46 #[.bool (t167 == 0), .bool x174001_5, .int .i64 x174002_5, .int .i64 (rd y199 t202), .int .i64 x174004_5, .slice Ao70 x174005_5.length co70] (0, 0) _ rfl (tP BK166.out) Try.underlying46 rfl (by kernel_rfl)) rfl ?_
      exact ⟨_, by first | rfl | (simp [errW_none, errW_some] <;> rfl) | (simp [*, errW_none, errW_some] <;> rfl), by (with_reducible repeat (first | apply Kd.N_alloc | apply Kd.N_drewN | apply Kd.N_drew)); exact Kd.N_mono (Kd.N_far (p := ⟨gb166, 5, none⟩) (Kd.N_far (p := ⟨gb166, 4, none⟩) (Kd.N_far (p := ⟨gb166, 3, none⟩) (Kd.N_far (p := ⟨gb166, 2, none⟩) (Kd.N_far (p := ⟨gb166, 1, none⟩) (Kd.N_far (p := ⟨gb166, 0, none⟩) (Kd.N_far (p := ⟨gb173, 3, none⟩) (Kd.N_mono (Kd.N_mono HO_174005.out (fun k_ hk => (⟨hk, hk.1.2.2.1⟩ : _ ∧ k_ ≠ gb173))) (fun k_ hk => (⟨hk, hk.1.1.2.1⟩ : _ ∧ k_ ≠ gb166))) (fun _ hk => hk.1.2) (.int .i64 (rd y199 t202))) (fun _ hk => hk.2) (.bool (t167 == 0))) (fun _ hk => hk.2) (.bool x174001_5)) (fun _ hk => hk.2) (.int .i64 x174002_5)) (fun _ hk => hk.2) (.int .i64 (rd y199 t202))) (fun _ hk => hk.2) (.int .i64 x174004_5)) (fun _ hk => hk.2) (.slice Ao70 x174005_5.length co70)) (fun _ hk => hk.1.1.1.1), zi65, zb, zk⟩
     ·rw [if_neg c59] at H
      exact absurd H (by simp)
    ·rw [if_neg c58] at H
     exact absurd H (by simp)
   ·rw [if_neg c56] at H
    have c56b0 : (t197 == 0) = false := beq_eq_false_iff_ne.mpr c56
    have c56b1 : (t197 != 0) = true := bne_iff_ne.mpr c56
    by_cases c71 : t197 = 1
    ·rw [if_pos c71] at H
     have c71b0 : (t197 == 1) = true := beq_iff_eq.mpr c71
     have c71b1 : (t197 != 1) = false := bne_eq_false_iff_eq.mpr c71
     clear c71
     by_cases c72 : 0 < (x174005_5.length : Int)
     ·rw [if_pos c72] at H
      have c72b0 : decide (0 < (x174005_5.length : Int)) = true := decide_eq_true c72
      have c72b1 : decide (0 < x174005_5.length) = true := decide_eq_true (by omega)
      clear c72
      by_cases c73 : x174005_5.length < 1759218604441
      ·rw [if_pos c73] at H
       have LMc73 := Aside0.mk c73
       clear c73
       obtain ⟨y206, hy206⟩ : ∃ y_ : List (S63), y_ = (x174005_5 ++ [(⟨(rd_T63 x174005_5 0).f0, (rd_T63 x174005_5 0).f1, (rd_T63 x174005_5 0).f2, (rd_T63 x174005_5 0).f3, (rd_T63 x174005_5 0).f4, (rd_T63 x174005_5 0).f5⟩ : S63)]) := ⟨_, rfl⟩
       replace H : (some ((t167 == 0), x174001_5, x174002_5, x174003_5, x174004_5, y206, t198)) = some (r1, r2, r3, r4, r5, r6, r7) := by first | (rw [hy206]; with_reducible exact H) | (have H2_ := (Option.bind_some _ _).symm.trans H; rw [hy206]; with_reducible exact H2_) | (have H2_ := (Option.bind_some _ _).symm.trans H; with_reducible exact H2_) | with_reducible exact H | (rw [hy206]; exact H) | exact H
       have Ny206 := Aside0.mk hy206
       clear hy206
       simp only [Option.some.injEq, Prod.mk.injEq] at H
       obtain ⟨rfl, rfl, rfl, rfl, rfl, rfl, rfl⟩ := H
       try go_wp2_with (first | ((with_reducible refine gate_callee (f := 26) rfl ?_); refine goesL_ (some 40) rfl rfl Try.func26 (by kernel_rfl) rfl #[.pointer (some ⟨g, 0, none⟩), .int .i64 40] rfl tq ?_; (with_reducible refine (spec_l6Rd_pick.calls kj5 g s0_0 x1001_5 40 t197 t198 w0 _ ?side1 ?side2 A55.out).mono ?_); (case side1 => exact zi65); (case side2 => exact zb); rintro e w74 ⟨rfl, hi, hb, hk⟩; refine ⟨_, rfl, ?_⟩; replace HO_174005 := tNk HO_174005 hk; replace BK166 := tBk BK166 hk NB166_0; replace BK173 := tBk BK173 hk NB173_0; replace HK := tKt HK hk; replace HB := Aside0.mk (hb); replace HI0 := Aside0.mk (hi); (try clear hb); (try clear hb2); (try clear hk); (try clear hi)))
       replace HO_174005 := Aside0.mk (Kd.N_drew HO_174005.out)
       replace BK166 := Aside0.mk (blk_drew BK166.out)
       replace BK173 := Aside0.mk (blk_drew BK173.out)
       replace HI0 := Aside0.mk (IsS65.drew HI0.out)
       replace HK := Aside0.mk (keep_drew HK.out)
       replace HB := Aside0.mk (below_drew1 HB.out)
       obtain ⟨Ao76, co76, eo76⟩ := Kd.N_slice HO_174005.out
       (first | subst eo76 | (injection eo76 with f1_ f2_ f3_; have f4_ := f1_.symm; have f5_ := f3_.symm; clear f1_ f2_ f3_; subst f4_; subst f5_))
       have p205 : 0 ≤ (0 : Int) := (by omega)
       have q205 : 0 < (x174005_5.length : Int) := td
       obtain ⟨ad205, A205_3, c205_3, A205_5, c205_5, e205, hx205_0, hx205_1, hx205_2, hx205_3, hx205_4, hx205_5, hl205_3, hi205_3, hl205_5, hi205_5⟩ := at_T63 (Kd.N_reads' HO_174005.out).2.2 0 p205 q205
       cases e205
       obtain ⟨ce205, hce205, hMe205, hcc205⟩ := Kd.N_get HO_174005.out z63 0 p205 (by first | exact q205 | exact td | (have e_ := (Kd.N_reads' HO_174005.out).1; omega))
       obtain ⟨ua205_3, uc205_3, ua205_5, uc205_5, rfl, ul205_3, ge205_3, ul205_5, ge205_5⟩ := k63_openF hMe205
       have hv205_3 := hcc205 3 _ rfl
       rw [add_field _ _ 3 (by omega)] at hv205_3
       replace hv205_3 := Option.some.inj (hv205_3.symm.trans hx205_3)
       injection hv205_3 with hva_ hvn_ hvc_
       rw [hva_] at ge205_3
       rw [hvc_] at ul205_3
       have HL205_3 := Aside0.mk (show Kd.V (Kd.int .i64) 3 _ w.heap.size _ _ ((rd_T63 x174005_5 0).f3) from Kd.V_mk ul205_3 ge205_3)
       clear hva_ hvn_ hvc_ ge205_3 ul205_3
       have hv205_5 := hcc205 5 _ rfl
       rw [add_field _ _ 5 (by omega)] at hv205_5
       replace hv205_5 := Option.some.inj (hv205_5.symm.trans hx205_5)
       injection hv205_5 with hva_ hvn_ hvc_
       rw [hva_] at ge205_5
       rw [hvc_] at ul205_5
       have HL205_5 := Aside0.mk (show Kd.V (Kd.int .i64) 3 _ w.heap.size _ _ ((rd_T63 x174005_5 0).f5) from Kd.V_mk ul205_5 ge205_5)
       clear hva_ hvn_ hvc_ ge205_5 ul205_5
       clear hcc205 hce205
       have qi205 : (0 < x174005_5.length) = True := eq_true (by omega)
       (try rw [show ((0 : Int)).toNat = 0 from rfl] at hx205_0)
       (try rw [show 0 * 6 = 0 from rfl] at hx205_0)
       (try rw [Addr.add_zero'] at hx205_0)
       (try rw [show ((0 : Int)).toNat = 0 from rfl] at hx205_1)
       (try rw [show 0 * 6 = 0 from rfl] at hx205_1)
       (try rw [Addr.add_zero'] at hx205_1)
       (try rw [show ((0 : Int)).toNat = 0 from rfl] at hx205_2)
       (try rw [show 0 * 6 = 0 from rfl] at hx205_2)
       (try rw [Addr.add_zero'] at hx205_2)
       (try rw [show ((0 : Int)).toNat = 0 from rfl] at hx205_3)
       (try rw [show 0 * 6 = 0 from rfl] at hx205_3)
       (try rw [Addr.add_zero'] at hx205_3)
       (try rw [show ((0 : Int)).toNat = 0 from rfl] at hx205_4)
       (try rw [show 0 * 6 = 0 from rfl] at hx205_4)
       (try rw [Addr.add_zero'] at hx205_4)
       (try rw [show ((0 : Int)).toNat = 0 from rfl] at hx205_5)
       (try rw [show 0 * 6 = 0 from rfl] at hx205_5)
       (try rw [Addr.add_zero'] at hx205_5)
       have HR205_3 := Aside0.mk hi205_3
       have HC205_3 := Aside0.mk hl205_3
       clear hi205_3 hl205_3
       have HR205_5 := Aside0.mk hi205_5
       have HC205_5 := Aside0.mk hl205_5
       clear hi205_5 hl205_5
       replace p205 := eq_true p205
       replace q205 := eq_true q205
       refine start_ (n := 10) (S := fun w' => w'.cell? ⟨gb173, 0, none⟩ = some (.bool (t167 == 0)) ∧ w'.cell? ⟨gb173, 1, none⟩ = some (.bool x174001_5) ∧ w'.cell? ⟨gb173, 2, none⟩ = some (.int .i64 x174002_5) ∧ w'.cell? ⟨gb173, 3, none⟩ = some (.int .i64 x174003_5) ∧ w'.cell? ⟨gb173, 4, none⟩ = some (.int .i64 x174004_5) ∧ w'.cell? ⟨gb173, 5, none⟩ = some (.slice (some ad205) x174005_5.length co76) ∧ w'.cell? ad205 = some (.int .i64 ((rd_T63 x174005_5 0).f0)) ∧ w'.cell? ⟨ad205.block, ad205.off + 1, none⟩ = some (.int .i64 ((rd_T63 x174005_5 0).f1)) ∧ w'.cell? ⟨ad205.block, ad205.off + 2, none⟩ = some (.bool ((rd_T63 x174005_5 0).f2)) ∧ w'.cell? ⟨ad205.block, ad205.off + 3, none⟩ = some (.slice A205_3 ((rd_T63 x174005_5 0).f3).length c205_3) ∧ w'.cell? ⟨ad205.block, ad205.off + 4, none⟩ = some (.bool ((rd_T63 x174005_5 0).f4)) ∧ w'.cell? ⟨ad205.block, ad205.off + 5, none⟩ = some (.slice A205_5 ((rd_T63 x174005_5 0).f5).length c205_5)) (ds := [7, 9]) #[false, false, false, false, false, false, false, false, false, false] (by kernel_rfl) rfl rfl ⟨(blk_cell BK173.out 0).trans rfl, (blk_cell BK173.out 1).trans rfl, (blk_cell BK173.out 2).trans rfl, (blk_cell BK173.out 3).trans rfl, (blk_cell BK173.out 4).trans rfl, (blk_cell BK173.out 5).trans rfl, hx205_0, hx205_1, hx205_2, hx205_3, hx205_4, hx205_5⟩ (fun hHeld => ?_); refine with_tabW spec_l91Batch.tab13 spec_l91Batch.bits13 (fun HT_ HW_ => ?_)
       generalize w74.drew = w75 at HO_174005 BK166 BK173 HI0 HK HB HL205_3 HL205_5 HR205_3 HR205_5 hx205_0 hx205_1 hx205_2 hx205_3 hx205_4 hx205_5 hHeld ⊢
       refine tpu 0 (some 51) #[true, false, false, false, false, false, false, false, false, false] ?_
       refine tpu 2 (some 53) #[true, false, true, false, false, false, false, false, false, false] ?_
       refine tta 1 (some 52) #[true, true, true, false, false, false, false, false, false, false] hHeld ?_ (hy := by rintro w' ⟨s0, s1, s2, s3, s4, s5, s6, s7, s8, s9, s10, s11⟩; go_simp; with_reducible rfl)
       refine tta 3 (some 54) #[true, true, true, true, false, false, false, false, false, false] hHeld ?_ (hy := by rintro w' ⟨s0, s1, s2, s3, s4, s5, s6, s7, s8, s9, s10, s11⟩; go_simp; with_reducible rfl)
       refine tpu 4 (some 55) #[true, true, true, true, true, false, false, false, false, false] ?_
       refine tta 5 (some 56) #[true, true, true, true, true, true, false, false, false, false] hHeld ?_ (hy := by rintro w' ⟨s0, s1, s2, s3, s4, s5, s6, s7, s8, s9, s10, s11⟩; go_simp; with_reducible rfl)
       refine one_ (i := 6) (N := some 57) #[true, true, true, true, true, true, true, false, false, false] rfl rfl (one_of HT_.out (by kernel_rfl)) (by decide) (fun K hK => ?_)
       refine value_ (w1 := ?_) (v := ?_) (by rfl) rfl ?_ ?_
       rotate_left 2
       ·go_simp
        constructor
        ·rfl
        ·rfl
       refine hK.out _ _ ⟨(blk_cell (blk_alloc BK173.out _) 0).trans rfl, (blk_cell (blk_alloc BK173.out _) 1).trans rfl, (blk_cell (blk_alloc BK173.out _) 2).trans rfl, (blk_cell (blk_alloc BK173.out _) 3).trans rfl, (blk_cell (blk_alloc BK173.out _) 4).trans rfl, (blk_cell (blk_alloc BK173.out _) 5).trans rfl, (World.cell?_alloc_lt _ _ _ (World.block_lt_of_cell? _ _ (hHeld.2.2.2.2.2.2.1))).trans (hHeld.2.2.2.2.2.2.1), (World.cell?_alloc_lt _ _ _ (World.block_lt_of_cell? _ _ (hHeld.2.2.2.2.2.2.2.1))).trans (hHeld.2.2.2.2.2.2.2.1), (World.cell?_alloc_lt _ _ _ (World.block_lt_of_cell? _ _ (hHeld.2.2.2.2.2.2.2.2.1))).trans (hHeld.2.2.2.2.2.2.2.2.1), (World.cell?_alloc_lt _ _ _ (World.block_lt_of_cell? _ _ (hHeld.2.2.2.2.2.2.2.2.2.1))).trans (hHeld.2.2.2.2.2.2.2.2.2.1), (World.cell?_alloc_lt _ _ _ (World.block_lt_of_cell? _ _ (hHeld.2.2.2.2.2.2.2.2.2.2.1))).trans (hHeld.2.2.2.2.2.2.2.2.2.2.1), (World.cell?_alloc_lt _ _ _ (World.block_lt_of_cell? _ _ (hHeld.2.2.2.2.2.2.2.2.2.2.2))).trans (hHeld.2.2.2.2.2.2.2.2.2.2.2)⟩ (fun hHeld => ?_)
       clear hK K
       refine tnm (some 57) ?_
       refine last_ (i := 7) (N := some 58) #[true, true, true, true, true, true, true, true, false, false] rfl rfl (one_of HT_.out (by kernel_rfl)) (by decide) (fun K hK => ?_)
       refine Kd.N_append_step k63 w.heap.size (by rfl) (.tmp 52) (.tmp 57) 44 63 (.agg #[(.int .i64 0), (.int .i64 0), (.bool false), (.slice none 0 0), (.bool false), (.slice none 0 0)]) 80 rfl Try.underlying44 info63 rfl (by decide) (by omega) (.slice (some ad205) x174005_5.length co76) x174005_5 (⟨(rd_T63 x174005_5 0).f0, (rd_T63 x174005_5 0).f1, (rd_T63 x174005_5 0).f2, (rd_T63 x174005_5 0).f3, (rd_T63 x174005_5 0).f4, (rd_T63 x174005_5 0).f5⟩ : S63) [.int .i64 ((rd_T63 x174005_5 0).f0), .int .i64 ((rd_T63 x174005_5 0).f1), .bool ((rd_T63 x174005_5 0).f2), .slice A205_3 ((rd_T63 x174005_5 0).f3).length c205_3, .bool ((rd_T63 x174005_5 0).f4), .slice A205_5 ((rd_T63 x174005_5 0).f5).length c205_5] (fun k_ => (w.heap.size ≤ k_) ∧ k_ ≠ gb166 ∧ k_ ≠ gb173 ∧ k_ ≠ g) (fun k_ => ((fun k_ => (w.heap.size ≤ k_) ∧ k_ ≠ gb166 ∧ k_ ≠ gb173 ∧ k_ ≠ g)) k_ ∧ some k_ ≠ (.slice (some ad205) x174005_5.length co76 : Value).ownBlock) rfl rfl ?aP (fun _ hk => hk) ?aF ?aO (Below.refl _ _) ?aS ?aL ?_
       (case aP => exact (k63_mkF _ _ (⟨(rd_T63 x174005_5 0).f0, (rd_T63 x174005_5 0).f1, (rd_T63 x174005_5 0).f2, (rd_T63 x174005_5 0).f3, (rd_T63 x174005_5 0).f4, (rd_T63 x174005_5 0).f5⟩ : S63) (Kd.V_reads' (Kd.V_mono (ok' := (fun k_ => ((fun k_ => (w.heap.size ≤ k_) ∧ k_ ≠ gb166 ∧ k_ ≠ gb173 ∧ k_ ≠ g)) k_ ∧ some k_ ≠ (.slice (some ad205) x174005_5.length co76 : Value).ownBlock)) (HL205_3.out) (fun k_ hk => ⟨⟨hk.1.1, ⟨hk.1.2.1, ⟨hk.1.2.2.1, hk.1.2.2.2⟩⟩⟩, hk.2⟩))).2.1 (Kd.V_F (Kd.V_mono (ok' := (fun k_ => ((fun k_ => (w.heap.size ≤ k_) ∧ k_ ≠ gb166 ∧ k_ ≠ gb173 ∧ k_ ≠ g)) k_ ∧ some k_ ≠ (.slice (some ad205) x174005_5.length co76 : Value).ownBlock)) (HL205_3.out) (fun k_ hk => ⟨⟨hk.1.1, ⟨hk.1.2.1, ⟨hk.1.2.2.1, hk.1.2.2.2⟩⟩⟩, hk.2⟩))) (Kd.V_reads' (Kd.V_mono (ok' := (fun k_ => ((fun k_ => (w.heap.size ≤ k_) ∧ k_ ≠ gb166 ∧ k_ ≠ gb173 ∧ k_ ≠ g)) k_ ∧ some k_ ≠ (.slice (some ad205) x174005_5.length co76 : Value).ownBlock)) (HL205_5.out) (fun k_ hk => ⟨⟨hk.1.1, ⟨hk.1.2.1, ⟨hk.1.2.2.1, hk.1.2.2.2⟩⟩⟩, hk.2⟩))).2.1 (Kd.V_F (Kd.V_mono (ok' := (fun k_ => ((fun k_ => (w.heap.size ≤ k_) ∧ k_ ≠ gb166 ∧ k_ ≠ gb173 ∧ k_ ≠ g)) k_ ∧ some k_ ≠ (.slice (some ad205) x174005_5.length co76 : Value).ownBlock)) (HL205_5.out) (fun k_ hk => ⟨⟨hk.1.1, ⟨hk.1.2.1, ⟨hk.1.2.2.1, hk.1.2.2.2⟩⟩⟩, hk.2⟩)))))
       (case aF => exact (fun k_ hk => ⟨(Nat.le_trans (keep_size (w := w) (g := g) (row := none) zk) hk), tfB BK166 k_ hk, tfB BK173 k_ hk, IsS65.fresh zi65 k_ hk⟩))
       (case aO => exact (tN HO_174005.out))
       (case aS => exact (keep_size (w := w) (g := g) (row := none) zk))
       (case aL => have := LMc73.out; omega)
       intro v207 w77 ho hb hg hat
       rw [← Ny206.out] at ho
       replace BK166 := Aside0.mk (blk_grown (tH BK166.out) hg (Kd.N_ne HO_174005.out BK166.out (by decide)))
       replace BK173 := Aside0.mk (blk_grown (tH BK173.out) hg (Kd.N_ne HO_174005.out BK173.out (by decide)))
       replace HL205_3 := Aside0.mk (Kd.V_afterv (ok := (fun k_ => (w.heap.size ≤ k_) ∧ k_ ≠ gb166 ∧ k_ ≠ gb173 ∧ k_ ≠ g)) (tV HL205_3.out) hg hat)
       replace HL205_5 := Aside0.mk (Kd.V_afterv (ok := (fun k_ => (w.heap.size ≤ k_) ∧ k_ ≠ gb166 ∧ k_ ≠ gb173 ∧ k_ ≠ g)) (tV HL205_5.out) hg hat)
       replace HB := Aside0.mk (below_weaken zb HL.out hb)
       replace HI0 := Aside0.mk (IsS65.grown zi65 hg (IsS65.own_neN HI0.out HO_174005.out (by decide)))
       replace HK := Aside0.mk (KeepBut.trans zk (KeepBut.of_grown hg g) (Kd.N_base2 HO_174005.out))
       have HO208 := Aside0.mk (ho)
       clear HO_174005
       clear ho hb hg hat
       obtain ⟨Ao78, co78, eo78⟩ := Kd.N_slice HO208.out
       (first | subst eo78 | (injection eo78 with f1_ f2_ f3_; have f4_ := f1_.symm; have f5_ := f3_.symm; clear f1_ f2_ f3_; subst f4_; subst f5_))
       refine hK.out _ _ ?_
       clear hK K
       refine tnm (some 58) ?_
       refine tpu 8 (some 59) #[true, true, true, true, true, true, true, true, true, false] ?_
       refine last_ (i := 9) (N := none) #[true, true, true, true, true, true, true, true, true, true] rfl rfl (one_of HT_.out (by kernel_rfl)) (by decide) (fun K hK => ?_)
       have hs79 : w77.cell? ⟨gb173, 5, none⟩ = some (.slice (some ad205) x174005_5.length co76) := (blk_cell BK173.out 5).trans rfl
       have hfs79 := blk_frozen BK173.out 5
       have hns79_0 := NB166_173.out
       have hms79_0 := NB173_166.out
       refine tsk ?_
       refine hK.out _ _ ?_
       clear hK K
       refine done_ (done_of HT_.out (by kernel_rfl)) ?_
       have hnb80 := NB173_166.out
       have hnc80 := NB166_173.out
       have hnb81 := NB173_0.out
       have hnc81 := NB0_173.out
       obtain ⟨hcz82_0, hcz82_1, hcz82_2, hcz82_3, hcz82_4, hcz82_5, hfz82_0, hfz82_1, hfz82_2, hfz82_3, hfz82_4, hfz82_5⟩ := cells6 BK173.out
       have hnb83 := NB166_0.out
       have hnc83 := NB0_166.out
       obtain ⟨hcz84_0, hcz84_1, hcz84_2, hcz84_3, hcz84_4, hcz84_5, hfz84_0, hfz84_1, hfz84_2, hfz84_3, hfz84_4, hfz84_5⟩ := cells6 BK166.out
       try go_wp2
       refine bodyPost_ret (results_cell_row rfl _ _ gb166 46 #[.bool (t167 == 0), .bool x174001_5, .int .i64 x174002_5, .int .i64 x174003_5, .int .i64 x174004_5, .slice Ao78 y206.length co78] (0, 0) _ rfl (tP BK166.out) Try.underlying46 rfl (by kernel_rfl)) rfl ?_
       exact ⟨_, by first | rfl | (simp [errW_none, errW_some] <;> rfl) | (simp [*, errW_none, errW_some] <;> rfl), by (with_reducible repeat (first | apply Kd.N_alloc | apply Kd.N_drewN | apply Kd.N_drew)); exact Kd.N_mono (Kd.N_far (p := ⟨gb166, 5, none⟩) (Kd.N_far (p := ⟨gb166, 4, none⟩) (Kd.N_far (p := ⟨gb166, 3, none⟩) (Kd.N_far (p := ⟨gb166, 2, none⟩) (Kd.N_far (p := ⟨gb166, 1, none⟩) (Kd.N_far (p := ⟨gb166, 0, none⟩) (Kd.N_far (p := ⟨gb173, 5, none⟩) (Kd.N_mono (Kd.N_mono HO208.out (fun k_ hk => (⟨hk, hk.2.2.1⟩ : _ ∧ k_ ≠ gb173))) (fun k_ hk => (⟨hk, hk.1.2.1⟩ : _ ∧ k_ ≠ gb166))) (fun _ hk => hk.1.2) (.slice Ao78 y206.length co78)) (fun _ hk => hk.2) (.bool (t167 == 0))) (fun _ hk => hk.2) (.bool x174001_5)) (fun _ hk => hk.2) (.int .i64 x174002_5)) (fun _ hk => hk.2) (.int .i64 x174003_5)) (fun _ hk => hk.2) (.int .i64 x174004_5)) (fun _ hk => hk.2) (.slice Ao78 y206.length co78)) (fun _ hk => hk.1.1.1), zi65, zb, zk⟩
      ·rw [if_neg c73] at H
       exact absurd H (by simp)
     ·rw [if_neg c72] at H
      exact absurd H (by simp)
    ·rw [if_neg c71] at H
     have c71b0 : (t197 == 1) = false := beq_eq_false_iff_ne.mpr c71
     have c71b1 : (t197 != 1) = true := bne_iff_ne.mpr c71
     by_cases c85 : t197 = 2
     ·rw [if_pos c85] at H
      have c85b0 : (t197 == 2) = true := beq_iff_eq.mpr c85
      have c85b1 : (t197 != 2) = false := bne_eq_false_iff_eq.mpr c85
      clear c85
      simp only [Option.some.injEq, Prod.mk.injEq] at H
      obtain ⟨rfl, rfl, rfl, rfl, rfl, rfl, rfl⟩ := H
      go_wp2_with (first | ((with_reducible refine gate_callee (f := 26) rfl ?_); refine goesL_ (some 40) rfl rfl Try.func26 (by kernel_rfl) rfl #[.pointer (some ⟨g, 0, none⟩), .int .i64 40] rfl tq ?_; (with_reducible refine (spec_l6Rd_pick.calls kj5 g s0_0 x1001_5 40 t197 t198 w0 _ ?side1 ?side2 A55.out).mono ?_); (case side1 => exact zi65); (case side2 => exact zb); rintro e w86 ⟨rfl, hi, hb, hk⟩; refine ⟨_, rfl, ?_⟩; replace HO_174005 := tNk HO_174005 hk; replace BK166 := tBk BK166 hk NB166_0; replace BK173 := tBk BK173 hk NB173_0; replace HK := tKt HK hk; replace HB := Aside0.mk (hb); replace HI0 := Aside0.mk (hi); (try clear hb); (try clear hb2); (try clear hk); (try clear hi); have hnb87 := NB173_166.out; have hnc87 := NB166_173.out; have hnb88 := NB173_0.out; have hnc88 := NB0_173.out; obtain ⟨hcz89_0, hcz89_1, hcz89_2, hcz89_3, hcz89_4, hcz89_5, hfz89_0, hfz89_1, hfz89_2, hfz89_3, hfz89_4, hfz89_5⟩ := cells6 BK173.out; have hnb90 := NB166_0.out; have hnc90 := NB0_166.out; obtain ⟨hcz91_0, hcz91_1, hcz91_2, hcz91_3, hcz91_4, hcz91_5, hfz91_0, hfz91_1, hfz91_2, hfz91_3, hfz91_4, hfz91_5⟩ := cells6 BK166.out; obtain ⟨Ao92, co92, eo92⟩ := Kd.N_slice HO_174005.out; subst eo92))
      refine bodyPost_ret (results_cell_row rfl _ _ gb166 46 #[.bool (t167 == 0), .bool (!x174001_5), .int .i64 x174002_5, .int .i64 x174003_5, .int .i64 x174004_5, .slice Ao92 x174005_5.length co92] (0, 0) _ rfl (tP BK166.out) Try.underlying46 rfl (by kernel_rfl)) rfl ?_
      exact ⟨_, by first | rfl | (simp [errW_none, errW_some] <;> rfl) | (simp [*, errW_none, errW_some] <;> rfl), by (with_reducible repeat (first | apply Kd.N_alloc | apply Kd.N_drewN | apply Kd.N_drew)); exact Kd.N_mono (Kd.N_far (p := ⟨gb166, 5, none⟩) (Kd.N_far (p := ⟨gb166, 4, none⟩) (Kd.N_far (p := ⟨gb166, 3, none⟩) (Kd.N_far (p := ⟨gb166, 2, none⟩) (Kd.N_far (p := ⟨gb166, 1, none⟩) (Kd.N_far (p := ⟨gb166, 0, none⟩) (Kd.N_far (p := ⟨gb173, 1, none⟩) (Kd.N_mono (Kd.N_mono HO_174005.out (fun k_ hk => (⟨hk, hk.2.2.1⟩ : _ ∧ k_ ≠ gb173))) (fun k_ hk => (⟨hk, hk.1.2.1⟩ : _ ∧ k_ ≠ gb166))) (fun _ hk => hk.1.2) (.bool (!x174001_5))) (fun _ hk => hk.2) (.bool (t167 == 0))) (fun _ hk => hk.2) (.bool (!x174001_5))) (fun _ hk => hk.2) (.int .i64 x174002_5)) (fun _ hk => hk.2) (.int .i64 x174003_5)) (fun _ hk => hk.2) (.int .i64 x174004_5)) (fun _ hk => hk.2) (.slice Ao92 x174005_5.length co92)) (fun _ hk => hk.1.1.1), zi65, zb, zk⟩
     ·rw [if_neg c85] at H
      have c85b0 : (t197 == 2) = false := beq_eq_false_iff_ne.mpr c85
      have c85b1 : (t197 != 2) = true := bne_iff_ne.mpr c85
      simp only [Option.some.injEq, Prod.mk.injEq] at H
      obtain ⟨rfl, rfl, rfl, rfl, rfl, rfl, rfl⟩ := H
      go_wp2_with (first | ((with_reducible refine gate_callee (f := 26) rfl ?_); refine goesL_ (some 40) rfl rfl Try.func26 (by kernel_rfl) rfl #[.pointer (some ⟨g, 0, none⟩), .int .i64 40] rfl tq ?_; (with_reducible refine (spec_l6Rd_pick.calls kj5 g s0_0 x1001_5 40 t197 t198 w0 _ ?side1 ?side2 A55.out).mono ?_); (case side1 => exact zi65); (case side2 => exact zb); rintro e w93 ⟨rfl, hi, hb, hk⟩; refine ⟨_, rfl, ?_⟩; replace HO_174005 := tNk HO_174005 hk; replace BK166 := tBk BK166 hk NB166_0; replace BK173 := tBk BK173 hk NB173_0; replace HK := tKt HK hk; replace HB := Aside0.mk (hb); replace HI0 := Aside0.mk (hi); (try clear hb); (try clear hb2); (try clear hk); (try clear hi); have hnb94 := NB173_166.out; have hnc94 := NB166_173.out; have hnb95 := NB173_0.out; have hnc95 := NB0_173.out; obtain ⟨hcz96_0, hcz96_1, hcz96_2, hcz96_3, hcz96_4, hcz96_5, hfz96_0, hfz96_1, hfz96_2, hfz96_3, hfz96_4, hfz96_5⟩ := cells6 BK173.out; have hnb97 := NB166_0.out; have hnc97 := NB0_166.out; obtain ⟨hcz98_0, hcz98_1, hcz98_2, hcz98_3, hcz98_4, hcz98_5, hfz98_0, hfz98_1, hfz98_2, hfz98_3, hfz98_4, hfz98_5⟩ := cells6 BK166.out; obtain ⟨Ao99, co99, eo99⟩ := Kd.N_slice HO_174005.out; subst eo99))
      refine bodyPost_ret (results_cell_row rfl _ _ gb166 46 #[.bool (t167 == 0), .bool x174001_5, .int .i64 x174002_5, .int .i64 x174003_5, .int .i64 x174004_5, .slice Ao99 x174005_5.length co99] (0, 0) _ rfl (tP BK166.out) Try.underlying46 rfl (by kernel_rfl)) rfl ?_
      exact ⟨_, by first | rfl | (simp [errW_none, errW_some] <;> rfl) | (simp [*, errW_none, errW_some] <;> rfl), tNm HO_174005.out, zi65, zb, zk⟩

end Go.Proofs.Ythoioccmnphfgaa.G

namespace Go.Proofs.Ythoioccmnphfgaa.G
open Go.RowKit Go.Proofs.YthoioccmnphfgaaW.PrintWords Go.Proofs.YthoioccmnphfgaaW.PrintLast Go.Proofs.YthoioccmnphfgaaW.PrintMore
attribute [local go_sem] max2_int min2_int max_two min_two max_three min_three max_four min_four   -- for this text's walks alone
set_option linter.unusedVariables false
set_option linter.unusedSimpArgs false

mutual
def spec_l92Log.j0 : Nat → List (S46) → Int → List Int → Int → Option ((List (S46)) × Int)
 | 0, _, _, _, _ => none
 | k + 1, x3, x4, x1000, x1001 => (spec_l6Rd_pick.f k x1000 x1001 10).bind fun bt231 => (spec_l92Log.l0 k x3 x4 bt231.1 0 x1000 bt231.2)
def spec_l92Log.l0 : Nat → List (S46) → Int → Int → Int → List Int → Int → Option ((List (S46)) × Int)
 | 0, _, _, _, _, _, _ => none
 | k + 1, x3, x4, x5, x6, x1000, x1001 => if x6 < x4 then ((spec_l91Batch.f k x1000 x1001 x5).bind fun bt237 => ((spec_l6Rd_pick.f k x1000 bt237.2.2.2.2.2.2 20).bind fun bt247 => (if bt247.1 > 0 then ((spec_BatchValid.f k bt237.1 bt237.2.1 bt237.2.2.1 bt237.2.2.2.1 bt237.2.2.2.2.1 bt237.2.2.2.2.2.1).bind fun t249 => (spec_l92Log.j2 k x3 x4 x5 x6 (!t249) x1000 bt247.2 bt237.1 bt237.2.1 bt237.2.2.1 bt237.2.2.2.1 bt237.2.2.2.2.1 bt237.2.2.2.2.2.1)) else (spec_l92Log.j2 k x3 x4 x5 x6 false x1000 bt247.2 bt237.1 bt237.2.1 bt237.2.2.1 bt237.2.2.2.1 bt237.2.2.2.2.1 bt237.2.2.2.2.2.1)))) else (if x4 > 1 then ((spec_l6Rd_pick.f k x1000 x1001 30).bind fun bt233 => (if bt233.1 = 0 then (if 0 < (x3.length : Int) then (if 1 < (x3.length : Int) then (some ((x3.set (1 : Int).toNat (⟨(rd_T46 x3 0).f0, (rd_T46 x3 0).f1, (rd_T46 x3 0).f2, (rd_T46 x3 0).f3, (rd_T46 x3 0).f4, (rd_T46 x3 0).f5⟩ : S46)), bt233.2)) else (none)) else (none)) else (some (x3, bt233.2)))) else (some (x3, x1001)))
def spec_l92Log.j2 : Nat → List (S46) → Int → Int → Int → Bool → List Int → Int → Bool → Bool → Int → Int → Int → List (S63) → Option ((List (S46)) × Int)
 | 0, _, _, _, _, _, _, _, _, _, _, _, _, _ => none
 | k + 1, x3, x4, x5, x6, x37, x1000, x1001, x247000, x247001, x247002, x247003, x247004, x247005 => if x37 = true then ((spec_l91Records.f k x1000 x1001 x5 2).bind fun bt250 => (if x3.length < 2513169434916 then (if 0 ≤ (wrap64 ((bt250.1.length : Int) - 1)) then (if (wrap64 ((bt250.1.length : Int) - 1)) < (bt250.1.length : Int) then ((spec_l6Rd_pick.f k x1000 bt250.2 4).bind fun bt258 => (spec_l92Log.l0 k (x3 ++ [(⟨false, false, 255, 0, 0, bt250.1⟩ : S46)]) x4 (wrap64 ((wrap64 (((rd_T63 bt250.1 (wrap64 ((bt250.1.length : Int) - 1))).f0) + 1)) + (wrap64 ((wrap64 (Int.tdiv bt258.1 3)) * 2)))) (wrap64 (x6 + 1)) x1000 bt258.2)) else (none)) else (none)) else (none))) else (if x3.length < 2513169434916 then (if 0 ≤ (wrap64 ((x247005.length : Int) - 1)) then (if (wrap64 ((x247005.length : Int) - 1)) < (x247005.length : Int) then ((spec_l6Rd_pick.f k x1000 x1001 4).bind fun bt264 => (spec_l92Log.l0 k (x3 ++ [(⟨x247000, x247001, x247002, x247003, x247004, x247005⟩ : S46)]) x4 (wrap64 ((wrap64 (((rd_T63 x247005 (wrap64 ((x247005.length : Int) - 1))).f0) + 1)) + (wrap64 ((wrap64 (Int.tdiv bt264.1 3)) * 2)))) (wrap64 (x6 + 1)) x1000 bt264.2)) else (none)) else (none)) else (none))
end
def spec_l92Log.f (k : Nat) (s0_0 : List Int) (s0_1 : Int) : Option ((List (S46)) × Int) := (some (([] : List (S46)) : List (S46))).bind fun y218 => ((spec_l6Rd_pick.f k s0_0 s0_1 5).bind fun bt221 => ((spec_l6Rd_pick.f k s0_0 bt221.2 16).bind fun bt223 => (if bt223.1 = 0 then ((some (([0, 8, 9] : List Int) : List Int)).bind fun y225 => ((spec_l6Rd_pick.f k s0_0 bt223.2 3).bind fun bt228 => (if 0 ≤ bt228.1 then (if bt228.1 < (y225.length : Int) then (spec_l92Log.j0 k y218 (rd y225 bt228.1) s0_0 bt228.2) else (none)) else (none)))) else (spec_l92Log.j0 k y218 (wrap64 (1 + bt221.1)) s0_0 bt223.2))))
def spec_l92Log.T13 : Bool × List (List Nat × List Nat) := (true, [([], []), ([0], [0]), ([], []), ([2], [2]), ([3], [3]), ([4], [4]), ([1, 5], [1, 5]), ([6], [6]), ([7], [7]), ([8], [8]), ([], []), ([10], [10]), ([11], [11]), ([12], [12]), ([9, 13], [9, 13]), ([14, 11, 0, 1, 2, 3, 4, 5, 6, 7, 8, 9, 10, 11, 12, 13, 14], [14])])
def spec_l92Log.B13 : List Nat := [0, 1, 0, 4, 12, 28, 63, 127, 255, 511, 0, 1024, 3072, 7168, 16383, 32767]
theorem spec_l92Log.tab13 : rtab .any (opsOf Try.f19 13) = spec_l92Log.T13 := by kernel_rfl
theorem spec_l92Log.bits13 : waitsOk spec_l92Log.T13.2 spec_l92Log.B13 = true := by kernel_rfl
set_option maxHeartbeats 8000000 in
set_option maxRecDepth 100000 in
theorem spec_l92Log.calls (k : Nat) (g : Nat) (s0_0 : List Int) (s0_1 : Int) (r1 : List (S46)) (r2 : Int) (w0 w : World) (hI : IsS65 w0 w g s0_0 s0_1) (hB : Below w0.heap.size w0 w) (h : spec_l92Log.f k s0_0 s0_1 = some (r1, r2)) :
  Calls Try.prog 19 #[.pointer (some ⟨g, 0, none⟩)] w fun e w' => ∃ v0_ : Value, e = .returned (v0_) ∧ Kd.N k46 46 w' w.heap.size (fun k_ => (w.heap.size ≤ k_)) v0_ r1 ∧ IsS65 w0 w' g s0_0 r2 ∧ Below w0.heap.size w0 w' ∧ KeepBut w w' g none := by
 have hu46 := Try.underlying46
 have HI0 := Aside0.mk hI
 have HK := Aside0.mk (KeepBut.refl w g none)
 have HL := Aside0.mk hB.size
 clear hI
 have HW0 := Aside0.mk hB.size
 have HB := Aside0.mk hB
 clear hB
 have H : ((some (([] : List (S46)) : List (S46))).bind fun y218 => ((spec_l6Rd_pick.f k s0_0 s0_1 5).bind fun bt221 => ((spec_l6Rd_pick.f k s0_0 bt221.2 16).bind fun bt223 => (if bt223.1 = 0 then ((some (([0, 8, 9] : List Int) : List Int)).bind fun y225 => ((spec_l6Rd_pick.f k s0_0 bt223.2 3).bind fun bt228 => (if 0 ≤ bt228.1 then (if bt228.1 < (y225.length : Int) then (spec_l92Log.j0 k y218 (rd y225 bt228.1) s0_0 bt228.2) else (none)) else (none)))) else (spec_l92Log.j0 k y218 (wrap64 (1 + bt221.1)) s0_0 bt223.2))))) = some (r1, r2) := h
 clear h
 obtain ⟨y218, hy218⟩ : ∃ y_ : List (S46), y_ = (([] : List (S46))) := ⟨_, rfl⟩
 replace H : ((spec_l6Rd_pick.f k s0_0 s0_1 5).bind fun bt221 => ((spec_l6Rd_pick.f k s0_0 bt221.2 16).bind fun bt223 => (if bt223.1 = 0 then ((some (([0, 8, 9] : List Int) : List Int)).bind fun y225 => ((spec_l6Rd_pick.f k s0_0 bt223.2 3).bind fun bt228 => (if 0 ≤ bt228.1 then (if bt228.1 < (y225.length : Int) then (spec_l92Log.j0 k y218 (rd y225 bt228.1) s0_0 bt228.2) else (none)) else (none)))) else (spec_l92Log.j0 k y218 (wrap64 (1 + bt221.1)) s0_0 bt223.2)))) = some (r1, r2) := by first | (rw [hy218]; with_reducible exact H) | (have H2_ := (Option.bind_some _ _).symm.trans H; rw [hy218]; with_reducible exact H2_) | (have H2_ := (Option.bind_some _ _).symm.trans H; with_reducible exact H2_) | with_reducible exact H | (rw [hy218]; exact H) | exact H
 have Ny218 := Aside0.mk hy218
 clear hy218
 replace H := tbe H
 obtain ⟨⟨t221, t222⟩, A2, H⟩ := H
 dsimp only at H
 replace H := tbe H
 obtain ⟨⟨t223, t224⟩, A3, H⟩ := H
 dsimp only at H
 have HC4 := Aside0.mk H
 clear H
 go_enter Try.func19, Try.ntmps19
 go_upto_if 14 with (first | ((with_reducible refine gate_dst (N := 8) rfl ?_); refine Kd.N_lit k46 _ 46 ?hg (N' := 8) ?hd (xs := ([] : List (S46))) (inner := []) (ok := (fun k_ => (w.heap.size ≤ k_) ∧ k_ ≠ g)) (okp := (fun k_ => (w.heap.size ≤ k_) ∧ k_ ≠ g)) ?hr ?hp (fun _ hk => hk) ((show ∀ k_, w.heap.size ≤ k_ → (fun k_ => (w.heap.size ≤ k_) ∧ k_ ≠ g) k_ from fun k_ hk => ⟨(Nat.le_trans (keep_size (w := w) (g := g) (row := none) zk) hk), IsS65.fresh zi65 k_ hk⟩) _ (Nat.le_refl _)) (Below.refl _ _) (Nat.le_refl _) (by simp) ?_; (case hd => rfl); (case hg => rfl); (case hr => first | (go_simp; done) | (go_simp; rfl)); (case hp => exact (Reps.none _ _)); intro v219 w5 ho6 hb hg_ hnew_; clear hg_ hnew_; (first | rw [← Ny218.out] at ho6 | (simp only [Int.reduceToNat] at ho6; rw [← Ny218.out] at ho6)); have HO220 := Aside0.mk (Kd.N_lower ho6 (keep_size (w := w) (g := g) (row := none) zk)); replace HI0 := tIb65 HI0 hb; replace HK := tKb HK hb; replace HB := tBs HB hb; clear hb ho6) | ((with_reducible refine gate_callee (f := 26) rfl ?_); refine goesL_ (some 10) rfl rfl Try.func26 (by kernel_rfl) rfl #[.pointer (some ⟨g, 0, none⟩), .int .i64 5] rfl tq ?_; (with_reducible refine (spec_l6Rd_pick.calls k g s0_0 s0_1 5 t221 t222 w0 _ ?side1 ?side2 A2.out).mono ?_); (case side1 => exact zi65); (case side2 => exact zb); rintro e w7 ⟨rfl, hi, hb, hk⟩; refine ⟨_, rfl, ?_⟩; replace HO220 := tNk HO220 hk; replace HK := tKt HK hk; replace HB := Aside0.mk (hb); replace HI0 := Aside0.mk (hi); (try clear hb); (try clear hb2); (try clear hk); (try clear hi)) | ((with_reducible refine gate_callee (f := 26) rfl ?_); refine goesL_ (some 13) rfl rfl Try.func26 (by kernel_rfl) rfl #[.pointer (some ⟨g, 0, none⟩), .int .i64 16] rfl tq ?_; (with_reducible refine (spec_l6Rd_pick.calls k g s0_0 t222 16 t223 t224 w0 _ ?side1 ?side2 A3.out).mono ?_); (case side1 => exact zi65); (case side2 => exact zb); rintro e w8 ⟨rfl, hi, hb, hk⟩; refine ⟨_, rfl, ?_⟩; replace HO220 := tNk HO220 hk; replace HK := tKt HK hk; replace HB := Aside0.mk (hb); replace HI0 := Aside0.mk (hi); (try clear hb); (try clear hb2); (try clear hk); (try clear hi)))
 (try simp only [Act.put, List.setIfInBounds_toArray, List.set_cons_zero, List.set_cons_succ])
 go_cut [4] (fun v4 wc => ∃ (kq : Nat) (x4_3 : Int) (x1001_3 : Int), v4 = .int .i64 x4_3 ∧ Aside0 (spec_l92Log.j0 kq y218 x4_3 s0_0 x1001_3 = some (r1, r2)) ∧ Aside0 (kq ≤ k) ∧ Aside0 (Kd.N k46 46 wc w.heap.size (fun k_ => (w.heap.size ≤ k_) ∧ k_ ≠ g) v219 y218) ∧ Aside0 (IsS65 w0 wc g s0_0 x1001_3) ∧ Aside0 (KeepBut w wc g none) ∧ Aside0 (Below w0.heap.size w0 wc))
 case first =>
  have H := HC4.out
  clear HC4
  by_cases c9 : t223 = 0
  ·rw [if_pos c9] at H
   have c9b0 : (t223 == 0) = true := beq_iff_eq.mpr c9
   have c9b1 : (t223 != 0) = false := bne_eq_false_iff_eq.mpr c9
   clear c9
   (first | rw [c9b0] | (simp only [i64_w, i32_w]; rw [c9b0]) | skip)
   obtain ⟨y225, hy225⟩ : ∃ y_ : List Int, y_ = (([0, 8, 9] : List Int)) := ⟨_, rfl⟩
   replace H : ((spec_l6Rd_pick.f k s0_0 t224 3).bind fun bt228 => (if 0 ≤ bt228.1 then (if bt228.1 < (y225.length : Int) then (spec_l92Log.j0 k y218 (rd y225 bt228.1) s0_0 bt228.2) else (none)) else (none))) = some (r1, r2) := by first | (rw [hy225]; with_reducible exact H) | (have H2_ := (Option.bind_some _ _).symm.trans H; rw [hy225]; with_reducible exact H2_) | (have H2_ := (Option.bind_some _ _).symm.trans H; with_reducible exact H2_) | with_reducible exact H | (rw [hy225]; exact H) | exact H
   have Ny225 := Aside0.mk hy225
   clear hy225
   replace H := tbe H
   obtain ⟨⟨t228, t229⟩, A10, H⟩ := H
   dsimp only at H
   by_cases c11 : 0 ≤ t228
   ·rw [if_pos c11] at H
    have c11b0 : decide (0 ≤ t228) = true := decide_eq_true c11
    clear c11
    by_cases c12 : t228 < (y225.length : Int)
    ·rw [if_pos c12] at H
     have c12b0 : decide (t228 < (y225.length : Int)) = true := decide_eq_true c12
     clear c12
     have H' := Aside0.mk H
     clear H
     go_wp2_with (first | ((with_reducible refine gate_dst (N := 15) rfl ?_); refine Kd.R_lit (Kd.int .i64) _ 3 ?hg (N := 15) ?hd (xs := ([0, 8, 9] : List Int)) (inner := [.int .i64 0, .int .i64 8, .int .i64 9]) (ok := fun _ => True) (okp := fun _ => True) ?hr ?hp (fun _ hk => hk) trivial (Below.refl _ _) (Nat.le_refl _) (by simp) ?_; (case hd => rfl); (case hg => rfl); (case hr => first | (go_simp; done) | (go_simp; rfl)); (case hp => exact (Reps.one (show Kd.M (Kd.int .i64) _ _ _ 0 [.int .i64 0] from rfl) (Reps.one (show Kd.M (Kd.int .i64) _ _ _ 8 [.int .i64 8] from rfl) (Reps.one (show Kd.M (Kd.int .i64) _ _ _ 9 [.int .i64 9] from rfl) (Reps.none _ _))))); intro v226 w13 ho14 hb hg_ hnew_; clear hg_ hnew_; (first | rw [← Ny225.out] at ho14 | (simp only [Int.reduceToNat] at ho14; rw [← Ny225.out] at ho14)); replace HO220 := Aside0.mk (Kd.N_elder' (tN HO220.out) (Kd.R_base ho14) hb); have HO227 := Aside0.mk (Kd.R_lower (Kd.R_newM (M := fun k_ => (w.heap.size ≤ k_)) ho14 (keep_size (w := w) (g := g) (row := none) zk) (fun k_ h_ => h_)) (keep_size (w := w) (g := g) (row := none) zk)); replace HI0 := tIb65 HI0 hb; replace HK := tKb HK hb; replace HB := tBs HB hb; clear hb ho14) | ((with_reducible refine gate_callee (f := 26) rfl ?_); refine goesL_ (some 17) rfl rfl Try.func26 (by kernel_rfl) rfl #[.pointer (some ⟨g, 0, none⟩), .int .i64 3] rfl tq ?_; (with_reducible refine (spec_l6Rd_pick.calls k g s0_0 t224 3 t228 t229 w0 _ ?side1 ?side2 A10.out).mono ?_); (case side1 => exact zi65); (case side2 => exact zb); rintro e w15 ⟨rfl, hi, hb, hk⟩; refine ⟨_, rfl, ?_⟩; replace HO220 := tNk HO220 hk; replace HO227 := tRp65 HO227 HI0 hk; replace HK := tKt HK hk; replace HB := Aside0.mk (hb); replace HI0 := Aside0.mk (hi); (try clear hb); (try clear hb2); (try clear hk); (try clear hi); obtain ⟨Ao16, co16, eo16⟩ := Kd.R_slice HO227.out; subst eo16; have p230 : 0 ≤ (t228 : Int) := td; have q230 : t228 < (y225.length : Int) := td; obtain ⟨ad230, e230, hx230_0⟩ := Kd.at_int (Kd.R_reads' HO227.out).2.2 t228 p230 q230; cases e230; replace p230 := eq_true p230; replace q230 := eq_true q230))
     go_meet
     case rel => exact ⟨_, (rd y225 t228), (t229), tr, H', ⟨by first | omega | exact Nat.le_refl _⟩, ⟨tNm HO220.out⟩, ⟨zi65⟩, ⟨zk⟩, ⟨zb⟩⟩
    ·rw [if_neg c12] at H
     exact absurd H (by simp)
   ·rw [if_neg c11] at H
    exact absurd H (by simp)
  ·rw [if_neg c9] at H
   have c9b0 : (t223 == 0) = false := beq_eq_false_iff_ne.mpr c9
   have c9b1 : (t223 != 0) = true := bne_iff_ne.mpr c9
   (first | rw [c9b0] | (simp only [i64_w, i32_w]; rw [c9b0]) | skip)
   have H' := Aside0.mk H
   clear H
   go_wp2
   go_meet
   case rel => exact ⟨_, (wrap64 (1 + t221)), (t224), tr, H', ⟨by first | omega | exact Nat.le_refl _⟩, ⟨tN HO220.out⟩, ⟨zi65⟩, ⟨zk⟩, ⟨zb⟩⟩
 case rest =>
  clear HC4
  obtain ⟨kq, x4_3, x1001_3, rfl, HA, HJ3, HO_3, HI0, HK, HB⟩ := hcut
  cases kq with
  | zero => exact absurd HA.out (by simp [spec_l92Log.j0])
  | succ kj3 =>
   have H := HA.out
   clear HA
   simp only [spec_l92Log.j0] at H
   replace H := tbe H
   obtain ⟨⟨t231, t232⟩, A17, H⟩ := H
   dsimp only at H
   have H' := Aside0.mk H
   clear H
   go_wp2_with (first | ((with_reducible refine gate_callee (f := 26) rfl ?_); refine goesL_ (some 21) rfl rfl Try.func26 (by kernel_rfl) rfl #[.pointer (some ⟨g, 0, none⟩), .int .i64 10] rfl tq ?_; (with_reducible refine (spec_l6Rd_pick.calls kj3 g s0_0 x1001_3 10 t231 t232 w0 _ ?side1 ?side2 A17.out).mono ?_); (case side1 => exact zi65); (case side2 => exact zb); rintro e w18 ⟨rfl, hi, hb, hk⟩; refine ⟨_, rfl, ?_⟩; replace HO_3 := tNk HO_3 hk; replace HK := tKt HK hk; replace HB := Aside0.mk (hb); replace HI0 := Aside0.mk (hi); (try clear hb); (try clear hb2); (try clear hk); (try clear hi)))
   go_loopg [3, 5, 6] kj3 (fun kq v3 v5 v6 w' => ∃ (x3_2 : List (S46)) (x5_2 : Int) (x6_2 : Int) (x1001_2 : Int), v5 = .int .i64 x5_2 ∧ v6 = .int .i64 x6_2 ∧ Aside0 (spec_l92Log.l0 kq x3_2 x4_3 x5_2 x6_2 s0_0 x1001_2 = some (r1, r2)) ∧ Aside0 (kq ≤ kj3) ∧ Aside0 (Kd.N k46 46 w' w.heap.size (fun k_ => (w.heap.size ≤ k_) ∧ k_ ≠ g) v3 x3_2) ∧ Aside0 (IsS65 w0 w' g s0_0 x1001_2) ∧ Aside0 (KeepBut w w' g none) ∧ Aside0 (Below w0.heap.size w0 w'))
   case atStart => exact ⟨(y218), (t231), (0), (t232), tr, tr, H', ⟨Nat.le_refl _⟩, ⟨tN HO_3.out⟩, ⟨zi65⟩, ⟨zk⟩, ⟨zb⟩⟩
   case round =>
    clear H'
    obtain ⟨x3_2, x5_2, x6_2, x1001_2, rfl, rfl, HA, HK2, HO_3, HI0, HK, HB⟩ := hrel
    cases gk with
    | zero => exact absurd HA.out (by simp [spec_l92Log.l0])
    | succ k2 =>
     have H := HA.out
     clear HA
     simp only [spec_l92Log.l0] at H
     by_cases c19 : x6_2 < x4_3
     ·rw [if_pos c19] at H
      have c19b0 : decide (x6_2 < x4_3) = true := decide_eq_true c19
      clear c19
      replace H := tbe H
      obtain ⟨⟨t237, t238, t239, t240, t241, t242, t245⟩, A20, H⟩ := H
      dsimp only at H
      have HC21 := Aside0.mk H
      clear H
      go_upto_region 10 with (first | ((with_reducible refine gate_callee (f := 34) rfl ?_); refine goesL_ (some 29) rfl rfl Try.func34 (by kernel_rfl) rfl #[.pointer (some ⟨g, 0, none⟩), .int .i64 x5_2] rfl tq ?_; (with_reducible refine (spec_l91Batch.calls k2 g s0_0 x1001_2 x5_2 t237 t238 t239 t240 t241 t242 t245 w0 _ ?side1 ?side2 A20.out).mono ?_); (case side1 => exact zi65); (case side2 => exact zb); rintro e w22 ⟨v243, rfl, ho0, hi, hb, hk⟩; have u_v243 := tsv Try.prog v243 ho0; refine ⟨_, rfl, ?_⟩; have HO244 := Aside0.mk (Kd.N_lower (Kd.N_mono (ok' := fun k_ => (w.heap.size ≤ k_) ∧ some k_ ≠ (u3 : Value).ownBlock ∧ k_ ≠ g) ho0 (fun k_ hk_ => ⟨(Nat.le_trans (keep_size (w := w) (g := g) (row := none) zk) hk_), (tfr HO_3 k_ hk_), (IsS65.fresh zi65 k_ hk_)⟩)) (keep_size (w := w) (g := g) (row := none) zk)); replace HO_3 := Aside0.mk (Kd.N_mono (Kd.N_told (Kd.N_oldK (Kd.N_mono (ok := fun k_ => (((w.heap.size ≤ k_)) ∧ k_ ≠ g)) (tN HO_3.out) (fun k_ hk_ => (⟨hk_, hk_.2⟩ : _ ∧ k_ ≠ g))) hk) (tb ho0)) (fun _ h_ => h_.1)); replace HK := tKt HK hk; replace HB := Aside0.mk (hb); replace HI0 := Aside0.mk (hi); (try clear hb); (try clear hb2); (try clear hk); (try clear hi); (try clear ho0)) | ((with_reducible refine gate_dst (N := 7) rfl ?_); refine box_event ?hg (N := 7) ?hd (cs := #[.bool false, .bool false, .int .i64 0, .int .i64 0, .int .i64 0, .slice none 0 0]) (t := 46) ?hr ?_; (case hd => rfl); (case hg => rfl); (case hr => first | (go_simp; done) | (go_simp; rfl)); intro gb246 hg w23 hbox hb; replace HO_3 := tNB HO_3 hg hb; replace HO244 := tNB HO244 hg hb; replace HB := tBs HB hb; have BK246 := Aside0.mk (hbox); have GW246 := Aside0.mk ((by rw [hg]; exact (keep_size (w := w) (g := g) (row := none) zk) : w.heap.size ≤ gb246)); have GE246 := Aside0.mk ((Nat.le_trans HW0.out (by rw [hg]; exact (keep_size (w := w) (g := g) (row := none) zk) : w.heap.size ≤ gb246) : w0.heap.size ≤ gb246)); replace HK := tKb HK hb; have NB0_246 := Aside0.mk ((by rw [hg]; exact Nat.ne_of_lt (IsS65.lt (show IsS65 w0 _ g s0_0 t245 from zi65)) : g ≠ gb246)); have NB246_0 := Aside0.mk ((by rw [hg]; exact Nat.ne_of_gt (IsS65.lt (show IsS65 w0 _ g s0_0 t245 from zi65)) : gb246 ≠ g)); replace HI0 := tIb65 HI0 hb; clear hb hbox hg; have hnb24 := NB246_0.out; have hnc24 := NB0_246.out; obtain ⟨hcz25_0, hcz25_1, hcz25_2, hcz25_3, hcz25_4, hcz25_5, hfz25_0, hfz25_1, hfz25_2, hfz25_3, hfz25_4, hfz25_5⟩ := cells6 BK246.out; obtain ⟨Ao26, co26, eo26⟩ := Kd.N_slice HO244.out; subst eo26))
      (try simp only [Act.put, List.setIfInBounds_toArray, List.set_cons_zero, List.set_cons_succ])
      go_cut [37] (fun v37 wc => ∃ (kq : Nat) (x37_20 : Bool) (x1001_20 : Int), v37 = .bool x37_20 ∧ Aside0 (spec_l92Log.j2 kq x3_2 x4_3 x5_2 x6_2 x37_20 s0_0 x1001_20 t237 t238 t239 t240 t241 t242 = some (r1, r2)) ∧ Aside0 (kq ≤ k2) ∧ Aside0 (Kd.N k46 46 wc w.heap.size (fun k_ => (w.heap.size ≤ k_) ∧ some k_ ≠ ((.slice Ao26 t242.length co26) : Value).ownBlock ∧ k_ ≠ gb246 ∧ k_ ≠ g) u3 x3_2) ∧ Aside0 (Kd.N k63 63 wc w.heap.size (fun k_ => (w.heap.size ≤ k_) ∧ some k_ ≠ (u3 : Value).ownBlock ∧ k_ ≠ gb246 ∧ k_ ≠ g) (.slice Ao26 t242.length co26) t242) ∧ Aside0 (wc.heap[gb246]? = some (.cells #[.bool t237, .bool t238, .int .i64 t239, .int .i64 t240, .int .i64 t241, (.slice Ao26 t242.length co26)] 46 (0, 0))) ∧ Aside0 (IsS65 w0 wc g s0_0 x1001_20) ∧ Aside0 (KeepBut w wc g none) ∧ Aside0 (Below w0.heap.size w0 wc))
      case first =>
       have H := HC21.out
       clear HC21
       replace H := tbe H
       obtain ⟨⟨t247, t248⟩, A27, H⟩ := H
       dsimp only at H
       by_cases c28 : t247 > 0
       ·rw [if_pos c28] at H
        have c28b0 : decide (0 < t247) = true := decide_eq_true c28
        clear c28
        (first | rw [c28b0] | (simp only [i64_w, i32_w]; rw [c28b0]) | skip)
        replace H := tbe H
        obtain ⟨t249, A29, H⟩ := H
        have H' := Aside0.mk H
        clear H
        go_wp2_with (first | ((with_reducible refine gate_callee (f := 26) rfl ?_); refine goesL_ (some 31) rfl rfl Try.func26 (by kernel_rfl) rfl #[.pointer (some ⟨g, 0, none⟩), .int .i64 20] rfl tq ?_; (with_reducible refine (spec_l6Rd_pick.calls k2 g s0_0 t245 20 t247 t248 w0 _ ?side1 ?side2 A27.out).mono ?_); (case side1 => exact zi65); (case side2 => exact zb); rintro e w30 ⟨rfl, hi, hb, hk⟩; refine ⟨_, rfl, ?_⟩; replace HO_3 := tNk HO_3 hk; replace HO244 := tNk HO244 hk; replace BK246 := tBq (o' := .cells #[.bool t237, .bool t238, .int .i64 t239, .int .i64 t240, .int .i64 t241, .slice Ao26 t242.length co26] 46 (0, 0)) BK246 hk NB246_0; replace HK := tKt HK hk; replace HB := Aside0.mk (hb); replace HI0 := Aside0.mk (hi); (try clear hb); (try clear hb2); (try clear hk); (try clear hi); have hnb31 := NB246_0.out; have hnc31 := NB0_246.out; obtain ⟨hcz32_0, hcz32_1, hcz32_2, hcz32_3, hcz32_4, hcz32_5, hfz32_0, hfz32_1, hfz32_2, hfz32_3, hfz32_4, hfz32_5⟩ := cells6 BK246.out) | (go_at_call 35; (with_reducible refine (spec_BatchValid.calls k2 t237 t238 t239 t240 t241 _ _ t242 t249 _ ?side1 ?side2 A29.out).mono ?_); (case side1 => repeat (first | exact (Kd.N_reads' HO244.out).2.2 | (with_reducible refine Kd.C_alloc ?_ _) | (with_reducible refine Kd.C_drewN ?_ _) | (with_reducible refine Kd.C_drew ?_))); (case side2 => exact (Kd.N_reads' HO244.out).2.1); rintro e w33 ⟨rfl, hb⟩; replace HO_3 := tNb HO_3 hb; replace HO244 := tNb HO244 hb; replace HI0 := tIb65 HI0 hb; replace BK246 := tBb BK246 hb; replace HK := tKb HK hb; replace HB := tBs HB hb; (try clear hb); (try clear hb2); (try clear hk); (try clear hi)))
        go_meet
        case rel => exact ⟨_, (!t249), (t248), tr, H', ⟨by have := HJ3.out; have := HK2.out; first | omega | exact Nat.le_refl _⟩, ⟨tNm HO_3.out⟩, ⟨tNm HO244.out⟩, ⟨tH BK246.out⟩, ⟨zi65⟩, ⟨zk⟩, ⟨zb⟩⟩
       ·rw [if_neg c28] at H
        have c28b0 : decide (0 < t247) = false := decide_eq_false c28
        clear c28
        (first | rw [c28b0] | (simp only [i64_w, i32_w]; rw [c28b0]) | skip)
        have H' := Aside0.mk H
        clear H
        go_wp2_with (first | ((with_reducible refine gate_callee (f := 26) rfl ?_); refine goesL_ (some 31) rfl rfl Try.func26 (by kernel_rfl) rfl #[.pointer (some ⟨g, 0, none⟩), .int .i64 20] rfl tq ?_; (with_reducible refine (spec_l6Rd_pick.calls k2 g s0_0 t245 20 t247 t248 w0 _ ?side1 ?side2 A27.out).mono ?_); (case side1 => exact zi65); (case side2 => exact zb); rintro e w34 ⟨rfl, hi, hb, hk⟩; refine ⟨_, rfl, ?_⟩; replace HO_3 := tNk HO_3 hk; replace HO244 := tNk HO244 hk; replace BK246 := tBq (o' := .cells #[.bool t237, .bool t238, .int .i64 t239, .int .i64 t240, .int .i64 t241, .slice Ao26 t242.length co26] 46 (0, 0)) BK246 hk NB246_0; replace HK := tKt HK hk; replace HB := Aside0.mk (hb); replace HI0 := Aside0.mk (hi); (try clear hb); (try clear hb2); (try clear hk); (try clear hi)))
        go_meet
        case rel => exact ⟨_, (false), (t248), tr, H', ⟨by have := HJ3.out; have := HK2.out; first | omega | exact Nat.le_refl _⟩, ⟨tNm HO_3.out⟩, ⟨tNm HO244.out⟩, ⟨tH BK246.out⟩, ⟨zi65⟩, ⟨zk⟩, ⟨zb⟩⟩
      case rest =>
       clear HC21
       try clear c19; try clear c19b0; try clear hcz25_0; try clear hcz25_1; try clear hcz25_2; try clear hcz25_3; try clear hcz25_4; try clear hcz25_5; try clear hfz25_0; try clear hfz25_1; try clear hfz25_2; try clear hfz25_3; try clear hfz25_4; try clear hfz25_5
       obtain ⟨kq, x37_20, x1001_20, rfl, HA, HJ20, HO_3, HO_247005, BK246, HI0, HK, HB⟩ := hcut
       cases kq with
       | zero => exact absurd HA.out (by simp [spec_l92Log.j2])
       | succ kj20 =>
        have H := HA.out
        clear HA
        simp only [spec_l92Log.j2] at H
        by_cases c35 : x37_20 = true
        ·subst c35
         rw [if_pos rfl] at H
         replace H := tbe H
         obtain ⟨⟨t250, t253⟩, A36, H⟩ := H
         dsimp only at H
         by_cases c37 : x3_2.length < 2513169434916
         ·rw [if_pos c37] at H
          have LMc37 := Aside0.mk c37
          clear c37
          obtain ⟨y254, hy254⟩ : ∃ y_ : List (S46), y_ = (x3_2 ++ [(⟨false, false, 255, 0, 0, t250⟩ : S46)]) := ⟨_, rfl⟩
          replace H : (if 0 ≤ (wrap64 ((t250.length : Int) - 1)) then (if (wrap64 ((t250.length : Int) - 1)) < (t250.length : Int) then ((spec_l6Rd_pick.f kj20 s0_0 t253 4).bind fun bt258 => (spec_l92Log.l0 kj20 y254 x4_3 (wrap64 ((wrap64 (((rd_T63 t250 (wrap64 ((t250.length : Int) - 1))).f0) + 1)) + (wrap64 ((wrap64 (Int.tdiv bt258.1 3)) * 2)))) (wrap64 (x6_2 + 1)) s0_0 bt258.2)) else (none)) else (none)) = some (r1, r2) := by first | (rw [hy254]; with_reducible exact H) | (have H2_ := (Option.bind_some _ _).symm.trans H; rw [hy254]; with_reducible exact H2_) | (have H2_ := (Option.bind_some _ _).symm.trans H; with_reducible exact H2_) | with_reducible exact H | (rw [hy254]; exact H) | exact H
          have Ny254 := Aside0.mk hy254
          clear hy254
          obtain ⟨ji38, hji38⟩ : ∃ j_ : Int, (wrap64 ((t250.length : Int) - 1)) = j_ := ⟨_, rfl⟩
          replace H : (if 0 ≤ (ji38) then (if (ji38) < (t250.length : Int) then ((spec_l6Rd_pick.f kj20 s0_0 t253 4).bind fun bt258 => (spec_l92Log.l0 kj20 y254 x4_3 (wrap64 ((wrap64 (((rd_T63 t250 (ji38)).f0) + 1)) + (wrap64 ((wrap64 (Int.tdiv bt258.1 3)) * 2)))) (wrap64 (x6_2 + 1)) s0_0 bt258.2)) else (none)) else (none)) = some (r1, r2) := by first | (rw [hji38] at H; exact H) | (simp only [hji38] at H ⊢; exact H)
          (try rw [hji38] at A36)
          have hji38w : (IntKind.i64.wrap ((t250.length : Int) - 1)) = ji38 := (i64_w _).trans hji38
          by_cases c39 : 0 ≤ (ji38)
          ·rw [if_pos c39] at H
           have c39b0 : decide (0 ≤ (ji38)) = true := decide_eq_true c39
           clear c39
           by_cases c40 : (ji38) < (t250.length : Int)
           ·rw [if_pos c40] at H
            have c40b0 : decide ((ji38) < (t250.length : Int)) = true := decide_eq_true c40
            clear c40
            replace H := tbe H
            obtain ⟨⟨t258, t259⟩, A41, H⟩ := H
            dsimp only at H
            have H' := Aside0.mk H
            clear H
            try go_wp2_with (first | ((with_reducible refine gate_callee (f := 36) rfl ?_); refine goesL_ (some 40) rfl rfl Try.func36 (by kernel_rfl) rfl #[.pointer (some ⟨g, 0, none⟩), .int .i64 x5_2, .int .i64 2] rfl tq ?_; (with_reducible refine (spec_l91Records.calls kj20 g s0_0 x1001_20 x5_2 2 t250 t253 w0 _ ?side1 ?side2 A36.out).mono ?_); (case side1 => exact zi65); (case side2 => exact zb); rintro e w42 ⟨v251, rfl, ho0, hi, hb, hk⟩; have u_v251 := tsv Try.prog v251 ho0; refine ⟨_, rfl, ?_⟩; have HO252 := Aside0.mk (Kd.N_lower (Kd.N_mono (ok' := fun k_ => (w.heap.size ≤ k_) ∧ some k_ ≠ (u3 : Value).ownBlock ∧ some k_ ≠ (.slice Ao26 t242.length co26 : Value).ownBlock ∧ k_ ≠ gb246 ∧ k_ ≠ g) (Kd.S_N (Kd.S_bound ho0)) (fun k_ hk_ => ⟨(Nat.le_trans (keep_size (w := w) (g := g) (row := none) zk) hk_.2.1), (tfr HO_3 k_ hk_.2.1), (tfr HO_247005 k_ hk_.2.1), (tfB BK246 k_ hk_.2.1), (IsS65.fresh zi65 k_ hk_.2.1)⟩)) (keep_size (w := w) (g := g) (row := none) zk)); replace HO_3 := Aside0.mk (Kd.N_mono (Kd.N_told (Kd.N_oldK (Kd.N_mono (ok := fun k_ => (((w.heap.size ≤ k_)) ∧ (some k_ ≠ (.slice Ao26 t242.length co26 : Value).ownBlock ∧ (k_ ≠ gb246 ∧ k_ ≠ g)))) (tN HO_3.out) (fun k_ hk_ => (⟨hk_, hk_.2.2.2⟩ : _ ∧ k_ ≠ g))) hk) (tb ho0)) (fun _ h_ => h_.1)); replace HO_247005 := Aside0.mk (Kd.N_mono (Kd.N_told (Kd.N_oldK (Kd.N_mono (ok := fun k_ => (((w.heap.size ≤ k_)) ∧ (some k_ ≠ (u3 : Value).ownBlock ∧ (k_ ≠ gb246 ∧ k_ ≠ g)))) (tN HO_247005.out) (fun k_ hk_ => (⟨hk_, hk_.2.2.2⟩ : _ ∧ k_ ≠ g))) hk) (tb ho0)) (fun _ h_ => h_.1)); replace BK246 := tBk BK246 hk NB246_0; replace HK := tKt HK hk; replace HB := Aside0.mk (hb); replace HI0 := Aside0.mk (hi); (try clear hb); (try clear hb2); (try clear hk); (try clear hi); (try clear ho0); obtain ⟨Ao43, co43, eo43⟩ := Kd.N_slice HO252.out; subst eo43; have hnb44 := NB246_0.out; have hnc44 := NB0_246.out; obtain ⟨hcz45_0, hcz45_1, hcz45_2, hcz45_3, hcz45_4, hcz45_5, hfz45_0, hfz45_1, hfz45_2, hfz45_3, hfz45_4, hfz45_5⟩ := cells6 BK246.out) | ((with_reducible refine gate_store (t := 46) (p := 7) rfl ?_); refine store_event (t := 46) (p := 7) (v := ?vo_w46) (w1 := ((((((w42.setCell ⟨gb246, 0, none⟩ (.bool false)).setCell ⟨gb246, 1, none⟩ (.bool false)).setCell ⟨gb246, 2, none⟩ (.int .i64 255)).setCell ⟨gb246, 3, none⟩ (.int .i64 0)).setCell ⟨gb246, 4, none⟩ (.int .i64 0)).setCell ⟨gb246, 5, none⟩ (.slice Ao43 t250.length co43))) ?hg ?ho ?hn ?hr ?_; (case ho => rfl); (case hg => rfl); (case hn => rfl); (case hr => first | (go_simp; done) | (go_simp; rfl)); intro w46 hw; have n0_ : Aside0 (Kd.N k46 46 w46 w.heap.size (fun k_ => (w.heap.size ≤ k_) ∧ some k_ ≠ (.slice Ao26 t242.length co26 : Value).ownBlock ∧ some k_ ≠ (.slice Ao43 t250.length co43 : Value).ownBlock ∧ k_ ≠ gb246 ∧ k_ ≠ g) u3 x3_2) := ⟨(by rw [hw]; exact (tNm HO_3.out))⟩; have n1_ : Aside0 (Kd.N k63 63 w46 w.heap.size (fun k_ => (w.heap.size ≤ k_) ∧ some k_ ≠ (u3 : Value).ownBlock ∧ some k_ ≠ (.slice Ao43 t250.length co43 : Value).ownBlock ∧ k_ ≠ gb246 ∧ k_ ≠ g) (.slice Ao26 t242.length co26) t242) := ⟨(by rw [hw]; exact (tNm HO_247005.out))⟩; have n2_ : Aside0 (Kd.N k63 63 w46 w.heap.size (fun k_ => (w.heap.size ≤ k_) ∧ some k_ ≠ (u3 : Value).ownBlock ∧ some k_ ≠ (.slice Ao26 t242.length co26 : Value).ownBlock ∧ k_ ≠ gb246 ∧ k_ ≠ g) (.slice Ao43 t250.length co43) t250) := ⟨(by rw [hw]; exact (tNm HO252.out))⟩; have n3_ : Aside0 (w46.heap[gb246]? = some (.cells #[.bool false, .bool false, .int .i64 255, .int .i64 0, .int .i64 0, .slice Ao43 t250.length co43] 46 (0, 0))) := ⟨(by rw [hw]; exact (tP BK246.out))⟩; have n4_ : Aside0 (IsS65 w0 w46 g s0_0 t253) := ⟨(by rw [hw]; exact zi65)⟩; have n5_ : Aside0 (KeepBut w w46 g none) := ⟨(by rw [hw]; exact zk)⟩; have n6_ : Aside0 (Below w0.heap.size w0 w46) := ⟨(by rw [hw]; exact zb)⟩; clear hw; clear HO_3; clear HO_247005; clear HO252; clear BK246; clear HI0; clear HK; clear HB; have HO_3 := n0_; have HO_247005 := n1_; have HO252 := n2_; have BK246 := n3_; have HI0 := n4_; have HK := n5_; have HB := n6_; clear n0_ n1_ n2_ n3_ n4_ n5_ n6_; obtain ⟨hcz47_0, hcz47_1, hcz47_2, hcz47_3, hcz47_4, hcz47_5, hfz47_0, hfz47_1, hfz47_2, hfz47_3, hfz47_4, hfz47_5⟩ := cells6 BK246.out) | ((with_reducible refine gate_builtin (b := .append) (xs := #[.tmp 42, .tmp 44]) rfl ?_); at_builtin; refine Kd.N_append k46 w.heap.size rfl (.tmp 42) (.tmp 44) 23 46 (.agg #[(.bool false), (.bool false), (.int .i64 0), (.int .i64 0), (.int .i64 0), (.slice none 0 0)]) 56 rfl Try.underlying23 info46 rfl (by decide) (by omega) u3 x3_2 (⟨false, false, 255, 0, 0, t250⟩ : S46) [.bool false, .bool false, .int .i64 255, .int .i64 0, .int .i64 0, .slice Ao43 t250.length co43] (fun k_ => (w.heap.size ≤ k_) ∧ some k_ ≠ (.slice Ao26 t242.length co26 : Value).ownBlock ∧ k_ ≠ gb246 ∧ k_ ≠ g) (fun k_ => ((fun k_ => (w.heap.size ≤ k_) ∧ some k_ ≠ (.slice Ao26 t242.length co26 : Value).ownBlock ∧ k_ ≠ gb246 ∧ k_ ≠ g)) k_ ∧ some k_ ≠ (u3 : Value).ownBlock) rfl rfl ?aP (fun _ hk => hk) ?aF ?aO (Below.refl _ _) ?aS ?aL ?_; (case aP => exact (k46_mkF _ _ (⟨false, false, 255, 0, 0, t250⟩ : S46) (Kd.N_reads' (Kd.N_mono (ok' := (fun k_ => ((fun k_ => (w.heap.size ≤ k_) ∧ some k_ ≠ (.slice Ao26 t242.length co26 : Value).ownBlock ∧ k_ ≠ gb246 ∧ k_ ≠ g)) k_ ∧ some k_ ≠ (u3 : Value).ownBlock)) (HO252.out) (fun k_ hk => ⟨⟨hk.1, ⟨hk.2.2.1, ⟨hk.2.2.2.1, hk.2.2.2.2⟩⟩⟩, hk.2.1⟩))).2.1 (Kd.N_F (Kd.N_mono (ok' := (fun k_ => ((fun k_ => (w.heap.size ≤ k_) ∧ some k_ ≠ (.slice Ao26 t242.length co26 : Value).ownBlock ∧ k_ ≠ gb246 ∧ k_ ≠ g)) k_ ∧ some k_ ≠ (u3 : Value).ownBlock)) (HO252.out) (fun k_ hk => ⟨⟨hk.1, ⟨hk.2.2.1, ⟨hk.2.2.2.1, hk.2.2.2.2⟩⟩⟩, hk.2.1⟩))))); (case aF => exact (fun k_ hk => ⟨(Nat.le_trans (keep_size (w := w) (g := g) (row := none) zk) hk), tfr HO_247005 k_ hk, tfB BK246 k_ hk, IsS65.fresh zi65 k_ hk⟩)); (case aO => exact (tNm HO_3.out)); (case aS => exact (keep_size (w := w) (g := g) (row := none) zk)); (case aL => have := LMc37.out; omega); intro v255 w48 ho hb hg hat; rw [← Ny254.out] at ho; have n0_ := Aside0.mk (Kd.N_afterv (ok := (fun k_ => (w.heap.size ≤ k_) ∧ some k_ ≠ (.slice Ao43 t250.length co43 : Value).ownBlock ∧ k_ ≠ gb246 ∧ k_ ≠ g)) (tNm HO_247005.out) hg hat); have n1_ := Aside0.mk (blk_grown (tH BK246.out) hg (Kd.N_away HO_3.out (fun _ hk => hk.2.2.2.1))); have n2_ := Aside0.mk (IsS65.grown zi65 hg (IsS65.own_neN HI0.out HO_3.out (by decide))); have n3_ := Aside0.mk (below_weaken zb HL.out hb); have n4_ := Aside0.mk (KeepBut.trans zk (KeepBut.of_grown hg g) (Kd.N_base2 HO_3.out)); have n5_ := Aside0.mk (ho); have nx_ := Aside0.mk (Kd.N_grown (tN HO252.out) hg (fun k_ hk => by first | exact hk.2.1 | exact hk.2.2.1 | exact hk.1.2.1 | exact hk.1.2.2.1)); clear HO_247005; clear BK246; clear HI0; clear HB; clear HK; clear HO_3; clear HO252; have HO_247005 := n0_; have BK246 := n1_; have HI0 := n2_; have HB := n3_; have HK := n4_; have HO256 := n5_; clear n0_ n1_ n2_ n3_ n4_ n5_; have HO252 := nx_; clear nx_; clear ho hb hg hat))
            replace HO_247005 := Aside0.mk (Kd.N_drew HO_247005.out)
            replace HO256 := Aside0.mk (Kd.N_drew HO256.out)
            replace BK246 := Aside0.mk (blk_drew BK246.out)
            replace HI0 := Aside0.mk (IsS65.drew HI0.out)
            replace HK := Aside0.mk (keep_drew HK.out)
            replace HB := Aside0.mk (below_drew1 HB.out)
            have p257 : 0 ≤ ((ji38) : Int) := td
            have q257 : (ji38) < (t250.length : Int) := td
            have HO252 := Aside0.mk (Kd.N_drew HO252.out)
            obtain ⟨ad257, A257_3, c257_3, A257_5, c257_5, e257, hx257_0, hx257_1, hx257_2, hx257_3, hx257_4, hx257_5, hl257_3, hi257_3, hl257_5, hi257_5⟩ := at_T63 (Kd.N_reads' HO252.out).2.2 (ji38) p257 q257
            cases e257
            have HR257_3 := Aside0.mk hi257_3
            have HC257_3 := Aside0.mk hl257_3
            clear hi257_3 hl257_3
            have HR257_5 := Aside0.mk hi257_5
            have HC257_5 := Aside0.mk hl257_5
            clear hi257_5 hl257_5
            replace p257 := eq_true p257
            replace q257 := eq_true q257
            refine start_ (n := 16) (S := fun w' => w'.cell? ⟨gb246, 0, none⟩ = some (.bool false) ∧ w'.cell? ⟨gb246, 1, none⟩ = some (.bool false) ∧ w'.cell? ⟨gb246, 2, none⟩ = some (.int .i64 255) ∧ w'.cell? ⟨gb246, 3, none⟩ = some (.int .i64 0) ∧ w'.cell? ⟨gb246, 4, none⟩ = some (.int .i64 0) ∧ w'.cell? ⟨gb246, 5, none⟩ = some (.slice (some ad257) t250.length co43) ∧ w'.cell? (ad257.add (((ji38)).toNat * 6)) = some (.int .i64 ((rd_T63 t250 (ji38)).f0)) ∧ w'.cell? ⟨(ad257.add (((ji38)).toNat * 6)).block, (ad257.add (((ji38)).toNat * 6)).off + 1, none⟩ = some (.int .i64 ((rd_T63 t250 (ji38)).f1)) ∧ w'.cell? ⟨(ad257.add (((ji38)).toNat * 6)).block, (ad257.add (((ji38)).toNat * 6)).off + 2, none⟩ = some (.bool ((rd_T63 t250 (ji38)).f2)) ∧ w'.cell? ⟨(ad257.add (((ji38)).toNat * 6)).block, (ad257.add (((ji38)).toNat * 6)).off + 3, none⟩ = some (.slice A257_3 ((rd_T63 t250 (ji38)).f3).length c257_3) ∧ w'.cell? ⟨(ad257.add (((ji38)).toNat * 6)).block, (ad257.add (((ji38)).toNat * 6)).off + 4, none⟩ = some (.bool ((rd_T63 t250 (ji38)).f4)) ∧ w'.cell? ⟨(ad257.add (((ji38)).toNat * 6)).block, (ad257.add (((ji38)).toNat * 6)).off + 5, none⟩ = some (.slice A257_5 ((rd_T63 t250 (ji38)).f5).length c257_5)) (ds := []) #[false, false, false, false, false, false, false, false, false, false, false, false, false, false, false, false] (by kernel_rfl) rfl rfl ⟨(blk_cell BK246.out 0).trans rfl, (blk_cell BK246.out 1).trans rfl, (blk_cell BK246.out 2).trans rfl, (blk_cell BK246.out 3).trans rfl, (blk_cell BK246.out 4).trans rfl, (blk_cell BK246.out 5).trans rfl, hx257_0, hx257_1, hx257_2, hx257_3, hx257_4, hx257_5⟩ (fun hHeld => ?_); refine with_tabW spec_l92Log.tab13 spec_l92Log.bits13 (fun HT_ HW_ => ?_)
            generalize w48.drew = w49 at HO252 HO_247005 HO256 BK246 HI0 HK HB HR257_3 HR257_5 hx257_0 hx257_1 hx257_2 hx257_3 hx257_4 hx257_5 hHeld ⊢
            refine tpu 0 (some 46) #[true, false, false, false, false, false, false, false, false, false, false, false, false, false, false, false] ?_
            refine tpu 2 (some 48) #[true, false, true, false, false, false, false, false, false, false, false, false, false, false, false, false] ?_
            refine tpu 10 (some 56) #[true, false, true, false, false, false, false, false, false, false, true, false, false, false, false, false] ?_
            refine tta 1 (some 47) #[true, true, true, false, false, false, false, false, false, false, true, false, false, false, false, false] hHeld ?_ (hy := by rintro w' ⟨s0, s1, s2, s3, s4, s5, s6, s7, s8, s9, s10, s11⟩; go_simp; with_reducible rfl)
            refine tta 3 (some 49) #[true, true, true, true, false, false, false, false, false, false, true, false, false, false, false, false] hHeld ?_ (hy := by rintro w' ⟨s0, s1, s2, s3, s4, s5, s6, s7, s8, s9, s10, s11⟩; go_simp; with_reducible rfl)
            refine tpu 4 (some 50) #[true, true, true, true, true, false, false, false, false, false, true, false, false, false, false, false] ?_
            refine tpu 5 (some 51) #[true, true, true, true, true, true, false, false, false, false, true, false, false, false, false, false] ?_
            refine tpu 6 (some 52) #[true, true, true, true, true, true, true, false, false, false, true, false, false, false, false, false] ?_
            refine tpu 7 (some 53) #[true, true, true, true, true, true, true, true, false, false, true, false, false, false, false, false] ?_
            refine tta 8 (some 54) #[true, true, true, true, true, true, true, true, true, false, true, false, false, false, false, false] hHeld ?_ (hy := by rintro w' ⟨s0, s1, s2, s3, s4, s5, s6, s7, s8, s9, s10, s11⟩; go_simp; with_reducible rfl)
            refine tpu 9 (some 55) #[true, true, true, true, true, true, true, true, true, true, true, false, false, false, false, false] ?_
            refine one_ (i := 11) (N := some 57) #[true, true, true, true, true, true, true, true, true, true, true, true, false, false, false, false] rfl rfl (one_of HT_.out (by kernel_rfl)) (by decide) (fun K hK => ?_)
            refine goes_ Try.func26 (by kernel_rfl) rfl #[.pointer (some ⟨g, 0, none⟩), .int .i64 4] (by rfl) rfl rfl tq ?_
            with_reducible refine (spec_l6Rd_pick.calls kj20 g s0_0 t253 4 t258 t259 w0 _ ?side1 ?side2 A41.out).mono ?_
            (case side1 => exact zi65)
            (case side2 => exact zb)
            rintro e w50 ⟨rfl, hi, hb, hk⟩
            have HS6_ := keep_cell hk (hHeld.2.2.2.2.2.2.1) (tow (Kd.own_blk (IsS65.own_neN HI0.out HO252.out (by decide))))
            have HS7_ := keep_cell hk (hHeld.2.2.2.2.2.2.2.1) (tow (Kd.own_blk (IsS65.own_neN HI0.out HO252.out (by decide))))
            have HS8_ := keep_cell hk (hHeld.2.2.2.2.2.2.2.2.1) (tow (Kd.own_blk (IsS65.own_neN HI0.out HO252.out (by decide))))
            have HS9_ := keep_cell hk (hHeld.2.2.2.2.2.2.2.2.2.1) (tow (Kd.own_blk (IsS65.own_neN HI0.out HO252.out (by decide))))
            have HS10_ := keep_cell hk (hHeld.2.2.2.2.2.2.2.2.2.2.1) (tow (Kd.own_blk (IsS65.own_neN HI0.out HO252.out (by decide))))
            have HS11_ := keep_cell hk (hHeld.2.2.2.2.2.2.2.2.2.2.2) (tow (Kd.own_blk (IsS65.own_neN HI0.out HO252.out (by decide))))
            refine ⟨_, rfl, ?_⟩
            replace HO_247005 := tNk HO_247005 hk
            replace BK246 := tBk BK246 hk NB246_0
            replace HO256 := tNk HO256 hk
            replace HK := tKt HK hk
            replace HB := Aside0.mk (hb)
            replace HI0 := Aside0.mk (hi)
            (try clear hb)
            (try clear hb2)
            (try clear hk)
            (try clear hi)
            refine hK.out _ _ ⟨(blk_cell BK246.out 0).trans rfl, (blk_cell BK246.out 1).trans rfl, (blk_cell BK246.out 2).trans rfl, (blk_cell BK246.out 3).trans rfl, (blk_cell BK246.out 4).trans rfl, (blk_cell BK246.out 5).trans rfl, HS6_, HS7_, HS8_, HS9_, HS10_, HS11_⟩ (fun hHeld => ?_)
            clear hK K
            refine tnm (some 57) ?_
            refine tpu 12 (some 58) #[true, true, true, true, true, true, true, true, true, true, true, true, true, false, false, false] ?_
            refine tpu 13 (some 59) #[true, true, true, true, true, true, true, true, true, true, true, true, true, true, false, false] ?_
            refine tpu 14 (some 60) #[true, true, true, true, true, true, true, true, true, true, true, true, true, true, true, false] ?_
            refine tpu 15 (some 5) #[true, true, true, true, true, true, true, true, true, true, true, true, true, true, true, true] ?_
            refine done_ (done_of HT_.out (by kernel_rfl)) ?_
            try go_wp2
            go_roundg kj20
            case measure => have := HJ3.out; have := HK2.out; have := HJ20.out; omega
            case rel => exact ⟨(y254), (wrap64 ((wrap64 (((rd_T63 t250 (ji38)).f0) + 1)) + (wrap64 ((wrap64 (Int.tdiv t258 3)) * 2)))), (wrap64 (x6_2 + 1)), (t259), (by first | rfl | (simp; done) | (simp only [← hji38] <;> (first | rfl | simp)) | (simp [*]; done)), tr, H', ⟨by have := HJ3.out; have := HK2.out; have := HJ20.out; omega⟩, ⟨tNm HO256.out⟩, ⟨zi65⟩, ⟨zk⟩, ⟨zb⟩⟩
           ·rw [if_neg c40] at H
            exact absurd H (by simp)
          ·rw [if_neg c39] at H
           exact absurd H (by simp)
         ·rw [if_neg c37] at H
          exact absurd H (by simp)
        ·replace c35 := Bool.eq_false_iff.mpr c35
         subst c35
         rw [if_neg (show ¬ (false = true) by decide)] at H
         by_cases c51 : x3_2.length < 2513169434916
         ·rw [if_pos c51] at H
          have LMc51 := Aside0.mk c51
          clear c51
          obtain ⟨y260, hy260⟩ : ∃ y_ : List (S46), y_ = (x3_2 ++ [(⟨t237, t238, t239, t240, t241, t242⟩ : S46)]) := ⟨_, rfl⟩
          replace H : (if 0 ≤ (wrap64 ((t242.length : Int) - 1)) then (if (wrap64 ((t242.length : Int) - 1)) < (t242.length : Int) then ((spec_l6Rd_pick.f kj20 s0_0 x1001_20 4).bind fun bt264 => (spec_l92Log.l0 kj20 y260 x4_3 (wrap64 ((wrap64 (((rd_T63 t242 (wrap64 ((t242.length : Int) - 1))).f0) + 1)) + (wrap64 ((wrap64 (Int.tdiv bt264.1 3)) * 2)))) (wrap64 (x6_2 + 1)) s0_0 bt264.2)) else (none)) else (none)) = some (r1, r2) := by first | (rw [hy260]; with_reducible exact H) | (have H2_ := (Option.bind_some _ _).symm.trans H; rw [hy260]; with_reducible exact H2_) | (have H2_ := (Option.bind_some _ _).symm.trans H; with_reducible exact H2_) | with_reducible exact H | (rw [hy260]; exact H) | exact H
          have Ny260 := Aside0.mk hy260
          clear hy260
          obtain ⟨ji52, hji52⟩ : ∃ j_ : Int, (wrap64 ((t242.length : Int) - 1)) = j_ := ⟨_, rfl⟩
          replace H : (if 0 ≤ (ji52) then (if (ji52) < (t242.length : Int) then ((spec_l6Rd_pick.f kj20 s0_0 x1001_20 4).bind fun bt264 => (spec_l92Log.l0 kj20 y260 x4_3 (wrap64 ((wrap64 (((rd_T63 t242 (ji52)).f0) + 1)) + (wrap64 ((wrap64 (Int.tdiv bt264.1 3)) * 2)))) (wrap64 (x6_2 + 1)) s0_0 bt264.2)) else (none)) else (none)) = some (r1, r2) := by first | (rw [hji52] at H; exact H) | (simp only [hji52] at H ⊢; exact H)
          have hji52w : (IntKind.i64.wrap ((t242.length : Int) - 1)) = ji52 := (i64_w _).trans hji52
          by_cases c53 : 0 ≤ (ji52)
          ·rw [if_pos c53] at H
           have c53b0 : decide (0 ≤ (ji52)) = true := decide_eq_true c53
           clear c53
           by_cases c54 : (ji52) < (t242.length : Int)
           ·rw [if_pos c54] at H
            have c54b0 : decide ((ji52) < (t242.length : Int)) = true := decide_eq_true c54
            clear c54
            replace H := tbe H
            obtain ⟨⟨t264, t265⟩, A55, H⟩ := H
            dsimp only at H
            have H' := Aside0.mk H
            clear H
            have hnb56 := NB246_0.out
            have hnc56 := NB0_246.out
            obtain ⟨hcz57_0, hcz57_1, hcz57_2, hcz57_3, hcz57_4, hcz57_5, hfz57_0, hfz57_1, hfz57_2, hfz57_3, hfz57_4, hfz57_5⟩ := cells6 BK246.out
            try go_wp2_with (first | ((with_reducible refine gate_builtin (b := .append) (xs := #[.tmp 42, .tmp 44]) rfl ?_); at_builtin; refine Kd.N_append k46 w.heap.size rfl (.tmp 42) (.tmp 44) 23 46 (.agg #[(.bool false), (.bool false), (.int .i64 0), (.int .i64 0), (.int .i64 0), (.slice none 0 0)]) 56 rfl Try.underlying23 info46 rfl (by decide) (by omega) u3 x3_2 (⟨t237, t238, t239, t240, t241, t242⟩ : S46) [.bool t237, .bool t238, .int .i64 t239, .int .i64 t240, .int .i64 t241, .slice Ao26 t242.length co26] (fun k_ => (w.heap.size ≤ k_) ∧ k_ ≠ gb246 ∧ k_ ≠ g) (fun k_ => ((fun k_ => (w.heap.size ≤ k_) ∧ k_ ≠ gb246 ∧ k_ ≠ g)) k_ ∧ some k_ ≠ (u3 : Value).ownBlock) rfl rfl ?aP (fun _ hk => hk) ?aF ?aO (Below.refl _ _) ?aS ?aL ?_; (case aP => exact (k46_mkF _ _ (⟨t237, t238, t239, t240, t241, t242⟩ : S46) (Kd.N_reads' (Kd.N_mono (ok' := (fun k_ => ((fun k_ => (w.heap.size ≤ k_) ∧ k_ ≠ gb246 ∧ k_ ≠ g)) k_ ∧ some k_ ≠ (u3 : Value).ownBlock)) (HO_247005.out) (fun k_ hk => ⟨⟨hk.1, ⟨hk.2.2.1, hk.2.2.2⟩⟩, hk.2.1⟩))).2.1 (Kd.N_F (Kd.N_mono (ok' := (fun k_ => ((fun k_ => (w.heap.size ≤ k_) ∧ k_ ≠ gb246 ∧ k_ ≠ g)) k_ ∧ some k_ ≠ (u3 : Value).ownBlock)) (HO_247005.out) (fun k_ hk => ⟨⟨hk.1, ⟨hk.2.2.1, hk.2.2.2⟩⟩, hk.2.1⟩))))); (case aF => exact (fun k_ hk => ⟨(Nat.le_trans (keep_size (w := w) (g := g) (row := none) zk) hk), tfB BK246 k_ hk, IsS65.fresh zi65 k_ hk⟩)); (case aO => exact (tNm HO_3.out)); (case aS => exact (keep_size (w := w) (g := g) (row := none) zk)); (case aL => have := LMc51.out; omega); intro v261 w58 ho hb hg hat; rw [← Ny260.out] at ho; have n0_ := Aside0.mk (blk_grown (tH BK246.out) hg (Kd.N_away HO_3.out (fun _ hk => hk.2.2.1))); have n1_ := Aside0.mk (IsS65.grown zi65 hg (IsS65.own_neN HI0.out HO_3.out (by decide))); have n2_ := Aside0.mk (below_weaken zb HL.out hb); have n3_ := Aside0.mk (KeepBut.trans zk (KeepBut.of_grown hg g) (Kd.N_base2 HO_3.out)); have n4_ := Aside0.mk (ho); have nx_ := Aside0.mk (Kd.N_grown (tN HO_247005.out) hg (fun k_ hk => by first | exact hk.2.1 | exact hk.2.2.1 | exact hk.1.2.1 | exact hk.1.2.2.1)); clear BK246; clear HI0; clear HB; clear HK; clear HO_3; clear HO_247005; have BK246 := n0_; have HI0 := n1_; have HB := n2_; have HK := n3_; have HO262 := n4_; clear n0_ n1_ n2_ n3_ n4_; have HO_247005 := nx_; clear nx_; clear ho hb hg hat))
            replace HO262 := Aside0.mk (Kd.N_drew HO262.out)
            replace BK246 := Aside0.mk (blk_drew BK246.out)
            replace HI0 := Aside0.mk (IsS65.drew HI0.out)
            replace HK := Aside0.mk (keep_drew HK.out)
            replace HB := Aside0.mk (below_drew1 HB.out)
            have p263 : 0 ≤ ((ji52) : Int) := td
            have q263 : (ji52) < (t242.length : Int) := td
            have HO_247005 := Aside0.mk (Kd.N_drew HO_247005.out)
            obtain ⟨ad263, A263_3, c263_3, A263_5, c263_5, e263, hx263_0, hx263_1, hx263_2, hx263_3, hx263_4, hx263_5, hl263_3, hi263_3, hl263_5, hi263_5⟩ := at_T63 (Kd.N_reads' HO_247005.out).2.2 (ji52) p263 q263
            cases e263
            have HR263_3 := Aside0.mk hi263_3
            have HC263_3 := Aside0.mk hl263_3
            clear hi263_3 hl263_3
            have HR263_5 := Aside0.mk hi263_5
            have HC263_5 := Aside0.mk hl263_5
            clear hi263_5 hl263_5
            replace p263 := eq_true p263
            replace q263 := eq_true q263
            refine start_ (n := 16) (S := fun w' => w'.cell? ⟨gb246, 0, none⟩ = some (.bool t237) ∧ w'.cell? ⟨gb246, 1, none⟩ = some (.bool t238) ∧ w'.cell? ⟨gb246, 2, none⟩ = some (.int .i64 t239) ∧ w'.cell? ⟨gb246, 3, none⟩ = some (.int .i64 t240) ∧ w'.cell? ⟨gb246, 4, none⟩ = some (.int .i64 t241) ∧ w'.cell? ⟨gb246, 5, none⟩ = some (.slice (some ad263) t242.length co26) ∧ w'.cell? (ad263.add (((ji52)).toNat * 6)) = some (.int .i64 ((rd_T63 t242 (ji52)).f0)) ∧ w'.cell? ⟨(ad263.add (((ji52)).toNat * 6)).block, (ad263.add (((ji52)).toNat * 6)).off + 1, none⟩ = some (.int .i64 ((rd_T63 t242 (ji52)).f1)) ∧ w'.cell? ⟨(ad263.add (((ji52)).toNat * 6)).block, (ad263.add (((ji52)).toNat * 6)).off + 2, none⟩ = some (.bool ((rd_T63 t242 (ji52)).f2)) ∧ w'.cell? ⟨(ad263.add (((ji52)).toNat * 6)).block, (ad263.add (((ji52)).toNat * 6)).off + 3, none⟩ = some (.slice A263_3 ((rd_T63 t242 (ji52)).f3).length c263_3) ∧ w'.cell? ⟨(ad263.add (((ji52)).toNat * 6)).block, (ad263.add (((ji52)).toNat * 6)).off + 4, none⟩ = some (.bool ((rd_T63 t242 (ji52)).f4)) ∧ w'.cell? ⟨(ad263.add (((ji52)).toNat * 6)).block, (ad263.add (((ji52)).toNat * 6)).off + 5, none⟩ = some (.slice A263_5 ((rd_T63 t242 (ji52)).f5).length c263_5)) (ds := []) #[false, false, false, false, false, false, false, false, false, false, false, false, false, false, false, false] (by kernel_rfl) rfl rfl ⟨(blk_cell BK246.out 0).trans rfl, (blk_cell BK246.out 1).trans rfl, (blk_cell BK246.out 2).trans rfl, (blk_cell BK246.out 3).trans rfl, (blk_cell BK246.out 4).trans rfl, (blk_cell BK246.out 5).trans rfl, hx263_0, hx263_1, hx263_2, hx263_3, hx263_4, hx263_5⟩ (fun hHeld => ?_); refine with_tabW spec_l92Log.tab13 spec_l92Log.bits13 (fun HT_ HW_ => ?_)
            generalize w58.drew = w59 at HO_247005 HO262 BK246 HI0 HK HB HR263_3 HR263_5 hx263_0 hx263_1 hx263_2 hx263_3 hx263_4 hx263_5 hHeld ⊢
            refine tpu 0 (some 46) #[true, false, false, false, false, false, false, false, false, false, false, false, false, false, false, false] ?_
            refine tpu 2 (some 48) #[true, false, true, false, false, false, false, false, false, false, false, false, false, false, false, false] ?_
            refine tpu 10 (some 56) #[true, false, true, false, false, false, false, false, false, false, true, false, false, false, false, false] ?_
            refine tta 1 (some 47) #[true, true, true, false, false, false, false, false, false, false, true, false, false, false, false, false] hHeld ?_ (hy := by rintro w' ⟨s0, s1, s2, s3, s4, s5, s6, s7, s8, s9, s10, s11⟩; go_simp; with_reducible rfl)
            refine tta 3 (some 49) #[true, true, true, true, false, false, false, false, false, false, true, false, false, false, false, false] hHeld ?_ (hy := by rintro w' ⟨s0, s1, s2, s3, s4, s5, s6, s7, s8, s9, s10, s11⟩; go_simp; with_reducible rfl)
            refine tpu 4 (some 50) #[true, true, true, true, true, false, false, false, false, false, true, false, false, false, false, false] ?_
            refine tpu 5 (some 51) #[true, true, true, true, true, true, false, false, false, false, true, false, false, false, false, false] ?_
            refine tpu 6 (some 52) #[true, true, true, true, true, true, true, false, false, false, true, false, false, false, false, false] ?_
            refine tpu 7 (some 53) #[true, true, true, true, true, true, true, true, false, false, true, false, false, false, false, false] ?_
            refine tta 8 (some 54) #[true, true, true, true, true, true, true, true, true, false, true, false, false, false, false, false] hHeld ?_ (hy := by rintro w' ⟨s0, s1, s2, s3, s4, s5, s6, s7, s8, s9, s10, s11⟩; go_simp; with_reducible rfl)
            refine tpu 9 (some 55) #[true, true, true, true, true, true, true, true, true, true, true, false, false, false, false, false] ?_
            refine one_ (i := 11) (N := some 57) #[true, true, true, true, true, true, true, true, true, true, true, true, false, false, false, false] rfl rfl (one_of HT_.out (by kernel_rfl)) (by decide) (fun K hK => ?_)
            refine goes_ Try.func26 (by kernel_rfl) rfl #[.pointer (some ⟨g, 0, none⟩), .int .i64 4] (by rfl) rfl rfl tq ?_
            with_reducible refine (spec_l6Rd_pick.calls kj20 g s0_0 x1001_20 4 t264 t265 w0 _ ?side1 ?side2 A55.out).mono ?_
            (case side1 => exact zi65)
            (case side2 => exact zb)
            rintro e w60 ⟨rfl, hi, hb, hk⟩
            have HS6_ := keep_cell hk (hHeld.2.2.2.2.2.2.1) (tow (Kd.own_blk (IsS65.own_neN HI0.out HO_247005.out (by decide))))
            have HS7_ := keep_cell hk (hHeld.2.2.2.2.2.2.2.1) (tow (Kd.own_blk (IsS65.own_neN HI0.out HO_247005.out (by decide))))
            have HS8_ := keep_cell hk (hHeld.2.2.2.2.2.2.2.2.1) (tow (Kd.own_blk (IsS65.own_neN HI0.out HO_247005.out (by decide))))
            have HS9_ := keep_cell hk (hHeld.2.2.2.2.2.2.2.2.2.1) (tow (Kd.own_blk (IsS65.own_neN HI0.out HO_247005.out (by decide))))
            have HS10_ := keep_cell hk (hHeld.2.2.2.2.2.2.2.2.2.2.1) (tow (Kd.own_blk (IsS65.own_neN HI0.out HO_247005.out (by decide))))
            have HS11_ := keep_cell hk (hHeld.2.2.2.2.2.2.2.2.2.2.2) (tow (Kd.own_blk (IsS65.own_neN HI0.out HO_247005.out (by decide))))
            refine ⟨_, rfl, ?_⟩
            replace BK246 := tBk BK246 hk NB246_0
            replace HO262 := tNk HO262 hk
            replace HK := tKt HK hk
            replace HB := Aside0.mk (hb)
            replace HI0 := Aside0.mk (hi)
            (try clear hb)
            (try clear hb2)
            (try clear hk)
            (try clear hi)
            refine hK.out _ _ ⟨(blk_cell BK246.out 0).trans rfl, (blk_cell BK246.out 1).trans rfl, (blk_cell BK246.out 2).trans rfl, (blk_cell BK246.out 3).trans rfl, (blk_cell BK246.out 4).trans rfl, (blk_cell BK246.out 5).trans rfl, HS6_, HS7_, HS8_, HS9_, HS10_, HS11_⟩ (fun hHeld => ?_)
            clear hK K
            refine tnm (some 57) ?_
            refine tpu 12 (some 58) #[true, true, true, true, true, true, true, true, true, true, true, true, true, false, false, false] ?_
            refine tpu 13 (some 59) #[true, true, true, true, true, true, true, true, true, true, true, true, true, true, false, false] ?_
            refine tpu 14 (some 60) #[true, true, true, true, true, true, true, true, true, true, true, true, true, true, true, false] ?_
            refine tpu 15 (some 5) #[true, true, true, true, true, true, true, true, true, true, true, true, true, true, true, true] ?_
            refine done_ (done_of HT_.out (by kernel_rfl)) ?_
            try go_wp2
            go_roundg kj20
            case measure => have := HJ3.out; have := HK2.out; have := HJ20.out; omega
            case rel => exact ⟨(y260), (wrap64 ((wrap64 (((rd_T63 t242 (ji52)).f0) + 1)) + (wrap64 ((wrap64 (Int.tdiv t264 3)) * 2)))), (wrap64 (x6_2 + 1)), (t265), (by first | rfl | (simp; done) | (simp only [← hji52] <;> (first | rfl | simp)) | (simp [*]; done)), tr, H', ⟨by have := HJ3.out; have := HK2.out; have := HJ20.out; omega⟩, ⟨tNm HO262.out⟩, ⟨zi65⟩, ⟨zk⟩, ⟨zb⟩⟩
           ·rw [if_neg c54] at H
            exact absurd H (by simp)
          ·rw [if_neg c53] at H
           exact absurd H (by simp)
         ·rw [if_neg c51] at H
          exact absurd H (by simp)
     ·rw [if_neg c19] at H
      have c19b0 : decide (x6_2 < x4_3) = false := decide_eq_false c19
      clear c19
      by_cases c61 : x4_3 > 1
      ·rw [if_pos c61] at H
       have c61b0 : decide (1 < x4_3) = true := decide_eq_true c61
       clear c61
       replace H := tbe H
       obtain ⟨⟨t233, t234⟩, A62, H⟩ := H
       dsimp only at H
       by_cases c63 : t233 = 0
       ·rw [if_pos c63] at H
        have c63b0 : (t233 == 0) = true := beq_iff_eq.mpr c63
        have c63b1 : (t233 != 0) = false := bne_eq_false_iff_eq.mpr c63
        clear c63
        by_cases c64 : 0 < (x3_2.length : Int)
        ·rw [if_pos c64] at H
         have c64b0 : decide (0 < (x3_2.length : Int)) = true := decide_eq_true c64
         have c64b1 : decide (0 < x3_2.length) = true := decide_eq_true (by omega)
         clear c64
         by_cases c65 : 1 < (x3_2.length : Int)
         ·rw [if_pos c65] at H
          have c65b0 : decide (1 < (x3_2.length : Int)) = true := decide_eq_true c65
          have c65b1 : decide (1 < x3_2.length) = true := decide_eq_true (by omega)
          clear c65
          obtain ⟨y236, hy236⟩ : ∃ y_ : List (S46), y_ = (x3_2.set (1 : Int).toNat (⟨(rd_T46 x3_2 0).f0, (rd_T46 x3_2 0).f1, (rd_T46 x3_2 0).f2, (rd_T46 x3_2 0).f3, (rd_T46 x3_2 0).f4, (rd_T46 x3_2 0).f5⟩ : S46)) := ⟨_, rfl⟩
          replace H : (some (y236, t234)) = some (r1, r2) := by first | (rw [hy236]; with_reducible exact H) | (have H2_ := (Option.bind_some _ _).symm.trans H; rw [hy236]; with_reducible exact H2_) | (have H2_ := (Option.bind_some _ _).symm.trans H; with_reducible exact H2_) | with_reducible exact H | (rw [hy236]; exact H) | exact H
          have Ny236 := Aside0.mk hy236
          clear hy236
          simp only [Option.some.injEq, Prod.mk.injEq] at H
          obtain ⟨rfl, rfl⟩ := H
          go_wp2_with (first | (go_at_call 26; (with_reducible refine (spec_l6Rd_pick.calls k2 g s0_0 x1001_2 30 t233 t234 w0 _ ?side1 ?side2 A62.out).mono ?_); (case side1 => exact zi65); (case side2 => exact zb); rintro e w67 ⟨rfl, hi, hb, hk⟩; replace HO_3 := tNk HO_3 hk; replace HK := tKt HK hk; replace HB := Aside0.mk (hb); replace HI0 := Aside0.mk (hi); (try clear hb); (try clear hb2); (try clear hk); (try clear hi); obtain ⟨Ao68, co68, eo68⟩ := Kd.N_slice HO_3.out; subst eo68; have p235 : 0 ≤ (0 : Int) := (by omega); have q235 : 0 < (x3_2.length : Int) := td; obtain ⟨ad235, A235_5, c235_5, e235, hx235_0, hx235_1, hx235_2, hx235_3, hx235_4, hx235_5, hl235_5, hi235_5⟩ := at_T46 (Kd.N_reads' HO_3.out).2.2 0 p235 q235; cases e235; obtain ⟨ce235, hce235, hMe235, hcc235⟩ := Kd.N_get HO_3.out z46 0 p235 (by first | exact q235 | exact td | (have e_ := (Kd.N_reads' HO_3.out).1; omega)); obtain ⟨ua235_5, uc235_5, rfl, ul235_5, ge235_5⟩ := k46_openF hMe235; have hv235_5 := hcc235 5 _ rfl; rw [add_field _ _ 5 (by omega)] at hv235_5; replace hv235_5 := Option.some.inj (hv235_5.symm.trans hx235_5); injection hv235_5 with hva_ hvn_ hvc_; rw [hva_] at ge235_5; rw [hvc_] at ul235_5; have HL235_5 := Aside0.mk (show Kd.V k63 63 _ w.heap.size _ _ ((rd_T46 x3_2 0).f5) from Kd.V_mk ul235_5 ge235_5); clear hva_ hvn_ hvc_ ge235_5 ul235_5; clear hcc235 hce235; have qi235 : (0 < x3_2.length) = True := eq_true (by omega); (try rw [show ((0 : Int)).toNat = 0 from rfl] at hx235_0); (try rw [show 0 * 6 = 0 from rfl] at hx235_0); (try rw [Addr.add_zero'] at hx235_0); (try rw [show ((0 : Int)).toNat = 0 from rfl] at hx235_1); (try rw [show 0 * 6 = 0 from rfl] at hx235_1); (try rw [Addr.add_zero'] at hx235_1); (try rw [show ((0 : Int)).toNat = 0 from rfl] at hx235_2); (try rw [show 0 * 6 = 0 from rfl] at hx235_2); (try rw [Addr.add_zero'] at hx235_2); (try rw [show ((0 : Int)).toNat = 0 from rfl] at hx235_3); (try rw [show 0 * 6 = 0 from rfl] at hx235_3); (try rw [Addr.add_zero'] at hx235_3); (try rw [show ((0 : Int)).toNat = 0 from rfl] at hx235_4); (try rw [show 0 * 6 = 0 from rfl] at hx235_4); (try rw [Addr.add_zero'] at hx235_4); (try rw [show ((0 : Int)).toNat = 0 from rfl] at hx235_5); (try rw [show 0 * 6 = 0 from rfl] at hx235_5); (try rw [Addr.add_zero'] at hx235_5); have HR235_5 := Aside0.mk hi235_5; have HC235_5 := Aside0.mk hl235_5; clear hi235_5 hl235_5; replace p235 := eq_true p235; replace q235 := eq_true q235; have p66 : 0 ≤ (1 : Int) := (by omega); have q66 : (1 : Int) < ((x3_2.length : Int) : Int) := td; have qi66 : (1 < x3_2.length) = True := eq_true (by omega); obtain ⟨go66, co66, eo66, gb66, gl66, cl66, HG66⟩ := Kd.N_form HO_3.out (by omega); (first | cases eo66 | (injection eo66 with ea_ en_ ec_; (first | subst ea_ | (injection ea_ with ea_; subst ea_)); subst ec_; clear en_)); have GB66 := Aside0.mk gb66; have GG66 := Aside0.mk HG66; clear gb66 gl66 HG66; (first | simp only [add_plain] at hx235_0 | skip); (first | simp only [add_plain] at hx235_1 | skip); (first | simp only [add_plain] at hx235_2 | skip); (first | simp only [add_plain] at hx235_3 | skip); (first | simp only [add_plain] at hx235_4 | skip); (first | simp only [add_plain] at hx235_5 | skip); obtain ⟨ce66, hcl66, hM66, hcc66, hfr66⟩ := Kd.N_elem HO_3.out z46 (1 : Int) p66 q66; obtain ⟨ua66_5, uc66_5, rfl, ul66_5, ge66_5⟩ := k46_openF hM66; have hx66_0 : w67.cell? ⟨go66, (1 : Int).toNat * 6, none⟩ = some (.bool ((rd_T46 x3_2 1).f0)) := hcc66 0 _ rfl; have hx66_1 : w67.cell? ⟨go66, (1 : Int).toNat * 6 + 1, none⟩ = some (.bool ((rd_T46 x3_2 1).f1)) := hcc66 1 _ rfl; have hx66_2 : w67.cell? ⟨go66, (1 : Int).toNat * 6 + 2, none⟩ = some (.int .i64 ((rd_T46 x3_2 1).f2)) := hcc66 2 _ rfl; have hx66_3 : w67.cell? ⟨go66, (1 : Int).toNat * 6 + 3, none⟩ = some (.int .i64 ((rd_T46 x3_2 1).f3)) := hcc66 3 _ rfl; have hx66_4 : w67.cell? ⟨go66, (1 : Int).toNat * 6 + 4, none⟩ = some (.int .i64 ((rd_T46 x3_2 1).f4)) := hcc66 4 _ rfl; have hx66_5 : w67.cell? ⟨go66, (1 : Int).toNat * 6 + 5, none⟩ = some (.slice ua66_5 ((rd_T46 x3_2 1).f5).length uc66_5) := hcc66 5 _ rfl; have hf66_0 : w67.frozen? ⟨go66, (1 : Int).toNat * 6, none⟩ = false := hfr66 0; have hf66_1 : w67.frozen? ⟨go66, (1 : Int).toNat * 6 + 1, none⟩ = false := hfr66 1; have hf66_2 : w67.frozen? ⟨go66, (1 : Int).toNat * 6 + 2, none⟩ = false := hfr66 2; have hf66_3 : w67.frozen? ⟨go66, (1 : Int).toNat * 6 + 3, none⟩ = false := hfr66 3; have hf66_4 : w67.frozen? ⟨go66, (1 : Int).toNat * 6 + 4, none⟩ = false := hfr66 4; have hf66_5 : w67.frozen? ⟨go66, (1 : Int).toNat * 6 + 5, none⟩ = false := hfr66 5; clear hcl66 hcc66 hfr66 hM66; (try rw [show ((1 : Int)).toNat = 1 from rfl] at hx66_0); (try simp only [Nat.reduceMul, Nat.zero_mul, Nat.zero_add, Nat.reduceAdd] at hx66_0); (try rw [show ((1 : Int)).toNat = 1 from rfl] at hf66_0); (try simp only [Nat.reduceMul, Nat.zero_mul, Nat.zero_add, Nat.reduceAdd] at hf66_0); (try rw [show ((1 : Int)).toNat = 1 from rfl] at hx66_1); (try simp only [Nat.reduceMul, Nat.zero_mul, Nat.zero_add, Nat.reduceAdd] at hx66_1); (try rw [show ((1 : Int)).toNat = 1 from rfl] at hf66_1); (try simp only [Nat.reduceMul, Nat.zero_mul, Nat.zero_add, Nat.reduceAdd] at hf66_1); (try rw [show ((1 : Int)).toNat = 1 from rfl] at hx66_2); (try simp only [Nat.reduceMul, Nat.zero_mul, Nat.zero_add, Nat.reduceAdd] at hx66_2); (try rw [show ((1 : Int)).toNat = 1 from rfl] at hf66_2); (try simp only [Nat.reduceMul, Nat.zero_mul, Nat.zero_add, Nat.reduceAdd] at hf66_2); (try rw [show ((1 : Int)).toNat = 1 from rfl] at hx66_3); (try simp only [Nat.reduceMul, Nat.zero_mul, Nat.zero_add, Nat.reduceAdd] at hx66_3); (try rw [show ((1 : Int)).toNat = 1 from rfl] at hf66_3); (try simp only [Nat.reduceMul, Nat.zero_mul, Nat.zero_add, Nat.reduceAdd] at hf66_3); (try rw [show ((1 : Int)).toNat = 1 from rfl] at hx66_4); (try simp only [Nat.reduceMul, Nat.zero_mul, Nat.zero_add, Nat.reduceAdd] at hx66_4); (try rw [show ((1 : Int)).toNat = 1 from rfl] at hf66_4); (try simp only [Nat.reduceMul, Nat.zero_mul, Nat.zero_add, Nat.reduceAdd] at hf66_4); (try rw [show ((1 : Int)).toNat = 1 from rfl] at hx66_5); (try simp only [Nat.reduceMul, Nat.zero_mul, Nat.zero_add, Nat.reduceAdd] at hx66_5); (try rw [show ((1 : Int)).toNat = 1 from rfl] at hf66_5); (try simp only [Nat.reduceMul, Nat.zero_mul, Nat.zero_add, Nat.reduceAdd] at hf66_5); replace p66 := eq_true p66; replace q66 := eq_true q66; have HX69 := Aside0.mk (show Kd.N k46 46 w67 w.heap.size (fun k_ => (w.heap.size ≤ k_) ∧ k_ ≠ g) (.slice (some ⟨go66, 0, none⟩) x3_2.length co68) x3_2 from (tN HO_3.out)); obtain ⟨ce69, hcl69, hM69, hcc69, hfr69⟩ := Kd.N_elem HX69.out z46 (1 : Int) (by omega) (by have h_ : (1 : Int) < ((x3_2.length : Int) : Int) := td; first | exact h_ | (have e_ := (Kd.N_reads' HO_3.out).1; omega) | simpa using h_); obtain ⟨ua69_5, uc69_5, rfl, ul69_5, ge69_5⟩ := k46_openF hM69; have HP69 := Kd.N_seg HX69.out (1 : Int) (by omega) (by have h_ : (1 : Int) < ((x3_2.length : Int) : Int) := td; first | exact h_ | (have e_ := (Kd.N_reads' HO_3.out).1; omega) | simpa using h_) (seg := [.bool ((rd_T46 x3_2 0).f0), .bool ((rd_T46 x3_2 0).f1), .int .i64 ((rd_T46 x3_2 0).f2), .int .i64 ((rd_T46 x3_2 0).f3), .int .i64 ((rd_T46 x3_2 0).f4), .slice A235_5 ((rd_T46 x3_2 0).f5).length c235_5]) (j := 0) hcl69 hcc69 (show 6 ≤ 6 from by decide) (x' := (⟨(rd_T46 x3_2 0).f0, (rd_T46 x3_2 0).f1, (rd_T46 x3_2 0).f2, (rd_T46 x3_2 0).f3, (rd_T46 x3_2 0).f4, (rd_T46 x3_2 0).f5⟩ : S46)) (k46_mkF _ _ (⟨(rd_T46 x3_2 0).f0, (rd_T46 x3_2 0).f1, (rd_T46 x3_2 0).f2, (rd_T46 x3_2 0).f3, (rd_T46 x3_2 0).f4, (rd_T46 x3_2 0).f5⟩ : S46) (Kd.V_reads' (Kd.V_mono (ok' := (fun k_ => ((fun k_ => (w.heap.size ≤ k_) ∧ k_ ≠ g)) k_ ∧ k_ ≠ go66)) (HL235_5.out) (fun k_ hk => ⟨⟨hk.1.1, hk.1.2⟩, fun e_ => (hk.2) (by rw [e_]; rfl)⟩))).2.1 (Kd.V_F (Kd.V_mono (ok' := (fun k_ => ((fun k_ => (w.heap.size ≤ k_) ∧ k_ ≠ g)) k_ ∧ k_ ≠ go66)) (HL235_5.out) (fun k_ hk => ⟨⟨hk.1.1, hk.1.2⟩, fun e_ => (hk.2) (by rw [e_]; rfl)⟩)))) (fun _ hk => hk); have hx69_0 := hcc69 0 _ rfl; (try simp only [show (k46).sz = 6 from rfl, Nat.mul_one, Nat.add_zero] at hx69_0); (try rw [show ((1 : Int)).toNat = 1 from rfl] at hx69_0); (try simp only [Nat.reduceMul, Nat.zero_mul, Nat.zero_add, Nat.reduceAdd] at hx69_0); have hf69_0 := hfr69 0; (try simp only [show (k46).sz = 6 from rfl, Nat.mul_one, Nat.add_zero] at hf69_0); (try rw [show ((1 : Int)).toNat = 1 from rfl] at hf69_0); (try simp only [Nat.reduceMul, Nat.zero_mul, Nat.zero_add, Nat.reduceAdd] at hf69_0); have hx69_1 := hcc69 1 _ rfl; (try simp only [show (k46).sz = 6 from rfl, Nat.mul_one, Nat.add_zero] at hx69_1); (try rw [show ((1 : Int)).toNat = 1 from rfl] at hx69_1); (try simp only [Nat.reduceMul, Nat.zero_mul, Nat.zero_add, Nat.reduceAdd] at hx69_1); have hf69_1 := hfr69 1; (try simp only [show (k46).sz = 6 from rfl, Nat.mul_one, Nat.add_zero] at hf69_1); (try rw [show ((1 : Int)).toNat = 1 from rfl] at hf69_1); (try simp only [Nat.reduceMul, Nat.zero_mul, Nat.zero_add, Nat.reduceAdd] at hf69_1); have hx69_2 := hcc69 2 _ rfl; (try simp only [show (k46).sz = 6 from rfl, Nat.mul_one, Nat.add_zero] at hx69_2); (try rw [show ((1 : Int)).toNat = 1 from rfl] at hx69_2); (try simp only [Nat.reduceMul, Nat.zero_mul, Nat.zero_add, Nat.reduceAdd] at hx69_2); have hf69_2 := hfr69 2; (try simp only [show (k46).sz = 6 from rfl, Nat.mul_one, Nat.add_zero] at hf69_2); (try rw [show ((1 : Int)).toNat = 1 from rfl] at hf69_2); (try simp only [Nat.reduceMul, Nat.zero_mul, Nat.zero_add, Nat.reduceAdd] at hf69_2); have hx69_3 := hcc69 3 _ rfl; (try simp only [show (k46).sz = 6 from rfl, Nat.mul_one, Nat.add_zero] at hx69_3); (try rw [show ((1 : Int)).toNat = 1 from rfl] at hx69_3); (try simp only [Nat.reduceMul, Nat.zero_mul, Nat.zero_add, Nat.reduceAdd] at hx69_3); have hf69_3 := hfr69 3; (try simp only [show (k46).sz = 6 from rfl, Nat.mul_one, Nat.add_zero] at hf69_3); (try rw [show ((1 : Int)).toNat = 1 from rfl] at hf69_3); (try simp only [Nat.reduceMul, Nat.zero_mul, Nat.zero_add, Nat.reduceAdd] at hf69_3); have hx69_4 := hcc69 4 _ rfl; (try simp only [show (k46).sz = 6 from rfl, Nat.mul_one, Nat.add_zero] at hx69_4); (try rw [show ((1 : Int)).toNat = 1 from rfl] at hx69_4); (try simp only [Nat.reduceMul, Nat.zero_mul, Nat.zero_add, Nat.reduceAdd] at hx69_4); have hf69_4 := hfr69 4; (try simp only [show (k46).sz = 6 from rfl, Nat.mul_one, Nat.add_zero] at hf69_4); (try rw [show ((1 : Int)).toNat = 1 from rfl] at hf69_4); (try simp only [Nat.reduceMul, Nat.zero_mul, Nat.zero_add, Nat.reduceAdd] at hf69_4); have hx69_5 := hcc69 5 _ rfl; (try simp only [show (k46).sz = 6 from rfl, Nat.mul_one, Nat.add_zero] at hx69_5); (try rw [show ((1 : Int)).toNat = 1 from rfl] at hx69_5); (try simp only [Nat.reduceMul, Nat.zero_mul, Nat.zero_add, Nat.reduceAdd] at hx69_5); have hf69_5 := hfr69 5; (try simp only [show (k46).sz = 6 from rfl, Nat.mul_one, Nat.add_zero] at hf69_5); (try rw [show ((1 : Int)).toNat = 1 from rfl] at hf69_5); (try simp only [Nat.reduceMul, Nat.zero_mul, Nat.zero_add, Nat.reduceAdd] at hf69_5); clear hcl69 hcc69 hfr69 hM69) | ((with_reducible refine gate_store (t := 46) (p := 72) rfl ?_); refine store_event (t := 46) (p := 72) (v := ?vo_w70) (w1 := ((((((w67.setCell ⟨go66, 6, none⟩ (.bool ((rd_T46 x3_2 0).f0))).setCell ⟨go66, 7, none⟩ (.bool ((rd_T46 x3_2 0).f1))).setCell ⟨go66, 8, none⟩ (.int .i64 ((rd_T46 x3_2 0).f2))).setCell ⟨go66, 9, none⟩ (.int .i64 ((rd_T46 x3_2 0).f3))).setCell ⟨go66, 10, none⟩ (.int .i64 ((rd_T46 x3_2 0).f4))).setCell ⟨go66, 11, none⟩ (.slice A235_5 ((rd_T46 x3_2 0).f5).length c235_5))) ?hg ?ho ?hn ?hr ?_; (case ho => rfl); (case hg => rfl); (case hn => rfl); (case hr => first | (go_simp; done) | (go_simp; rfl)); intro w70 hw; have hg : w67.grownBy w70 (some go66) := (by rw [hw]; exact HP69.2); have hp_ : Kd.N k46 46 w70 w.heap.size (fun k_ => (w.heap.size ≤ k_) ∧ k_ ≠ g) (.slice (some ⟨go66, 0, none⟩) x3_2.length co68) y236 := (by rw [hw, Ny236.out]; exact HP69.1); clear HP69; replace HI0 := Aside0.mk (IsS65.grown zi65 hg (IsS65.own_neN HI0.out HO_3.out (by decide))); replace HL235_5 := Aside0.mk (Kd.V_afterv (v := (.slice (some ⟨go66, 0, none⟩) x3_2.length co68)) (v1 := (.slice (some ⟨go66, 0, none⟩) x3_2.length co68)) (ok := (fun k_ => (w.heap.size ≤ k_) ∧ k_ ≠ g)) (tV HL235_5.out) hg (.inl rfl)); replace HB := Aside0.mk ((by rw [hw]; exact below_set (below_set (below_set (below_set (below_set (below_set (HB.out) (Nat.le_trans HL.out GB66.out)) (Nat.le_trans HL.out GB66.out)) (Nat.le_trans HL.out GB66.out)) (Nat.le_trans HL.out GB66.out)) (Nat.le_trans HL.out GB66.out)) (Nat.le_trans HL.out GB66.out) : Below w0.heap.size w0 w70)); replace HK := Aside0.mk (KeepBut.trans zk (KeepBut.of_grown hg g) (Kd.N_base2 HO_3.out)); replace HO_3 := Aside0.mk (hp_); clear hg hw hp_))
          go_ret
          exact ⟨_, by first | rfl | (simp [errW_none, errW_some] <;> rfl) | (simp [*, errW_none, errW_some] <;> rfl), tNm HO_3.out, zi65, zb, zk⟩
         ·rw [if_neg c65] at H
          exact absurd H (by simp)
        ·rw [if_neg c64] at H
         exact absurd H (by simp)
       ·rw [if_neg c63] at H
        have c63b0 : (t233 == 0) = false := beq_eq_false_iff_ne.mpr c63
        have c63b1 : (t233 != 0) = true := bne_iff_ne.mpr c63
        simp only [Option.some.injEq, Prod.mk.injEq] at H
        obtain ⟨rfl, rfl⟩ := H
        go_wp2_with (first | (go_at_call 26; (with_reducible refine (spec_l6Rd_pick.calls k2 g s0_0 x1001_2 30 t233 t234 w0 _ ?side1 ?side2 A62.out).mono ?_); (case side1 => exact zi65); (case side2 => exact zb); rintro e w71 ⟨rfl, hi, hb, hk⟩; replace HO_3 := tNk HO_3 hk; replace HK := tKt HK hk; replace HB := Aside0.mk (hb); replace HI0 := Aside0.mk (hi); (try clear hb); (try clear hb2); (try clear hk); (try clear hi)))
        go_ret
        exact ⟨_, by first | rfl | (simp [errW_none, errW_some] <;> rfl) | (simp [*, errW_none, errW_some] <;> rfl), tNm HO_3.out, zi65, zb, zk⟩
      ·rw [if_neg c61] at H
       have c61b0 : decide (1 < x4_3) = false := decide_eq_false c61
       clear c61
       simp only [Option.some.injEq, Prod.mk.injEq] at H
       obtain ⟨rfl, rfl⟩ := H
       go_wp2
       go_ret
       exact ⟨_, by first | rfl | (simp [errW_none, errW_some] <;> rfl) | (simp [*, errW_none, errW_some] <;> rfl), tNm HO_3.out, zi65, zb, zk⟩

end Go.Proofs.Ythoioccmnphfgaa.G

