/- A text of seat YtbbboachakkgiaaDoor: what the law FnLogCut needs of this repo's texts (by pack.py). Not trusted: Lean checks it. -/
import Derived.Test.YtbbboachakkgiaaDoorKFnLogCut4
import Derived.OwnWalkIn
namespace Go.Proofs.YtbbboachakkgiaaDoor.G
open Go.RowKit Go.Proofs.YtbbboachakkgiaaDoorW.PrintWords Go.Proofs.YtbbboachakkgiaaDoorW.PrintLast Go.Proofs.YtbbboachakkgiaaDoorW.PrintMore Go.Proofs.YtbbboachakkgiaaDoor.Pu
set_option linter.unusedVariables false
set_option linter.unusedSimpArgs false
/-- The cells that hold a record. -/
def CellsR (W : World) (p : Addr) (r : S33) (A3 : Option Addr) (c3 : Nat) (A5 : Option Addr) (c5 : Nat) : Prop :=
  W.cell? p = some (.int .i64 r.f0) ∧ W.cell? ⟨p.block, p.off + 1, none⟩ = some (.int .i64 r.f1) ∧ W.cell? ⟨p.block, p.off + 2, none⟩ = some (.bool r.f2) ∧ W.cell? ⟨p.block, p.off + 3, none⟩ = some (.slice A3 r.f3.length c3) ∧ W.cell? ⟨p.block, p.off + 4, none⟩ = some (.bool r.f4) ∧ W.cell? ⟨p.block, p.off + 5, none⟩ = some (.slice A5 r.f5.length c5)
theorem CellsR.below {W W' : World} {p : Addr} {r : S33} {A3 A5 : Option Addr} {c3 c5 : Nat} (h : CellsR W p r A3 c3 A5 c5) (hb : Below W.heap.size W W') : CellsR W' p r A3 c3 A5 c5 := ⟨pw_cell_below hb h.1, pw_cell_below hb h.2.1, pw_cell_below hb h.2.2.1, pw_cell_below hb h.2.2.2.1, pw_cell_below hb h.2.2.2.2.1, pw_cell_below hb h.2.2.2.2.2⟩
theorem in_q (a b c : Int) (w : World) : Calls Tryd.prog 85 #[.int .i64 a, .int .i64 b, .int .i64 c] w fun e w' => e = .returned (.bool (decide (b ≤ a) && decide (a ≤ c))) ∧ ∃ n, w' = w.drewN n :=
  (spec_l6In.calls a b c _ w (in_ev a b c)).mono fun e w' h => ⟨h.1, h.2.out⟩
set_option maxRecDepth 100000 in
set_option maxHeartbeats 4000000 in
theorem specrecs_q (l : List S33) (A : Option Addr) (c : Nat) (w : World) (hr : Kd.C k33 w A l.length l) (hc : l.length ≤ c) :
    Calls Tryd.prog 84 #[.slice A l.length c] w fun e w' => e = .returned (.bool (recsInc l && lenOk l)) ∧ Below w.heap.size w w' := by
  have hl := hr.2.1
  have HR := Aside0.mk hr
  clear hr
  go_enter Tryd.func84, Tryd.ntmps84
  go_wp2
  go_loopw [3] (fun v3 wr => ∃ i : Nat, v3 = .int .i64 i ∧ i ≤ l.length ∧ (∀ j, j < i → recStep l j = true) ∧ Below w.heap.size w wr) (fun v3 _ => l.length - (intOf v3).toNat)
  case atStart => exact ⟨0, rfl, Nat.zero_le _, fun j hj => absurd hj (Nat.not_lt_zero j), Below.refl _ _⟩
  case round =>
    obtain ⟨i, rfl, hi, hall, hB1⟩ := hrel
    by_cases hlt : i < l.length
    · obtain ⟨ad, A3, c3, A5, c5, rfl, e0, e1, e2, e3, e4, e5, l3, g3, l5, g5⟩ := at_T33 (Kd.C_below HR.out hB1) (i : Int) (by omega) (by omega)
      rw [show ((i : Int)).toNat = i from rfl] at e0 e1 e2 e3 e4 e5
      have hrec : recStep l i = (recOk (rd_T33 l (i : Int)) && (decide (i = 0) || decide ((rd_T33 l ((i : Int) - 1)).f0 < (rd_T33 l (i : Int)).f0))) := rfl
      generalize rd_T33 l (i : Int) = ri at *
      have ci : CellsR wr (ad.add (i * 6)) ri A3 c3 A5 c5 := ⟨e0, e1, e2, e3, e4, e5⟩
      clear e0 e1 e2 e3 e4 e5
      go_wp2
      obtain ⟨kR, hkR⟩ := (sRecordValid_ev ri ⟨g3.2.1, g5.2.1⟩).rounds
      have hrc : ∀ (W2 : World), Below wr.heap.size wr W2 → Calls Tryd.prog 100 #[.agg #[.int .i64 ri.f0, .int .i64 ri.f1, .bool ri.f2, .slice A3 ri.f3.length c3, .bool ri.f4, .slice A5 ri.f5.length c5]] W2 fun e w' => e = .returned (.bool (recOk ri)) ∧ Below W2.heap.size W2 w' := fun (W2 : World) (hb : Below wr.heap.size wr W2) => spec_RecordValid.calls kR ri.f0 ri.f1 ri.f2 A3 c3 ri.f3 ri.f4 A5 c5 ri.f5 _ W2 (Kd.C_below g3 hb) l3 (Kd.C_below g5 hb) l5 hkR
      have HRC := Aside0.mk hrc
      clear hrc
      have kS : ∀ w' : World, Below wr.drew.heap.size wr.drew w' → CellsR w' (ad.add (i * 6)) ri A3 c3 A5 c5 ∧ Below wr.heap.size wr w' := fun w' h => ⟨ci.below (below_step (below_drew (Below.refl _ wr)) h), below_step (below_drew (Below.refl _ wr)) h⟩
      have hil : (i : Int) < (l.length : Int) := by omega
      rcases hok : recOk ri with _ | _ <;> rw [hok] at hkR HRC
      · have hno := Aside0.mk (incs_no hlt (hrec.trans (by rw [hok]; rfl)))
        refine r_begin (fun w' => CellsR w' (ad.add (i * 6)) ri A3 c3 A5 c5 ∧ Below wr.heap.size wr w') 24 (by kernel_rfl) rfl (kS _ (Below.refl _ _)) (fun hH => ?_)
        repeat (first | (refine r_skip (by kernel_rfl) (by rfl) (fun _ _ _ h => h) hH ?_; simp only [Act.put, List.setIfInBounds_toArray, List.set_cons_zero, List.set_cons_succ, Nat.reduceAdd]) | (refine r_go (v := ?_) (by kernel_rfl) (by rfl) (fun _ _ _ h => h) hH ?_ ?_; rotate_left; (focus (intro w hS; obtain ⟨⟨e0, e1, e2, e3, e4, e5⟩, e6⟩ := hS; go_simp; first | done | with_reducible rfl)); simp only [Act.put, List.setIfInBounds_toArray, List.set_cons_zero, List.set_cons_succ, Nat.reduceAdd]) | (fail "x"))
        refine r_one (by kernel_rfl) (by rfl) (fun K hK => ?_)
        go_simp
        go_at_call 100
        refine (HRC.out _ hH.2).mono ?_
        rintro e w2 ⟨rfl, hb⟩
        go_wp2_with fail
        refine hK.out _ _ (kS _ hb) (fun hH => ?_)
        clear hK K
        simp only [Act.put, List.setIfInBounds_toArray, List.set_cons_zero, List.set_cons_succ, Nat.reduceAdd]
        repeat (first | (refine r_skip (by kernel_rfl) (by rfl) (fun _ _ _ h => h) hH ?_; simp only [Act.put, List.setIfInBounds_toArray, List.set_cons_zero, List.set_cons_succ, Nat.reduceAdd]) | (refine r_go (v := ?_) (by kernel_rfl) (by rfl) (fun _ _ _ h => h) hH ?_ ?_; rotate_left; (focus (intro w hS; obtain ⟨⟨e0, e1, e2, e3, e4, e5⟩, e6⟩ := hS; go_simp; first | done | with_reducible rfl)); simp only [Act.put, List.setIfInBounds_toArray, List.set_cons_zero, List.set_cons_succ, Nat.reduceAdd]) | (fail "x"))
        refine r_done (by kernel_rfl) ?_
        go_wp2
        go_ret
        exact ⟨by rw [hno.out]; rfl, below_step hB1 hH.2⟩
      · rcases i with _ | j
        · have ez : ad.add (0 * 6) = ad := by go_simp
          rw [ez] at ci
          simp only [ez] at kS
          refine r_begin (fun w' => CellsR w' ad ri A3 c3 A5 c5 ∧ Below wr.heap.size wr w') 24 (by kernel_rfl) rfl (kS _ (Below.refl _ _)) (fun hH => ?_)
          repeat (first | (refine r_skip (by kernel_rfl) (by rfl) (fun _ _ _ h => h) hH ?_; simp only [Act.put, List.setIfInBounds_toArray, List.set_cons_zero, List.set_cons_succ, Nat.reduceAdd]) | (refine r_go (v := ?_) (by kernel_rfl) (by rfl) (fun _ _ _ h => h) hH ?_ ?_; rotate_left; (focus (intro w hS; obtain ⟨⟨e0, e1, e2, e3, e4, e5⟩, e6⟩ := hS; go_simp; first | done | with_reducible rfl)); simp only [Act.put, List.setIfInBounds_toArray, List.set_cons_zero, List.set_cons_succ, Nat.reduceAdd]) | (fail "x"))
          refine r_one (by kernel_rfl) (by rfl) (fun K hK => ?_)
          go_simp
          go_at_call 100
          refine (HRC.out _ hH.2).mono ?_
          rintro e w2 ⟨rfl, hb⟩
          go_wp2_with fail
          refine hK.out _ _ (kS _ hb) (fun hH => ?_)
          clear hK K
          simp only [Act.put, List.setIfInBounds_toArray, List.set_cons_zero, List.set_cons_succ, Nat.reduceAdd]
          repeat (first | (refine r_skip (by kernel_rfl) (by rfl) (fun _ _ _ h => h) hH ?_; simp only [Act.put, List.setIfInBounds_toArray, List.set_cons_zero, List.set_cons_succ, Nat.reduceAdd]) | (refine r_go (v := ?_) (by kernel_rfl) (by rfl) (fun _ _ _ h => h) hH ?_ ?_; rotate_left; (focus (intro w hS; obtain ⟨⟨e0, e1, e2, e3, e4, e5⟩, e6⟩ := hS; go_simp; first | done | with_reducible rfl)); simp only [Act.put, List.setIfInBounds_toArray, List.set_cons_zero, List.set_cons_succ, Nat.reduceAdd]) | (fail "x"))
          refine r_done (by kernel_rfl) ?_
          go_wp2
          go_roundw
          case rel =>
            have hst : ∀ j, j < 0 + 1 → recStep l j = true := by
              intro j hj
              obtain rfl : j = 0 := by omega
              exact hrec.trans (by rw [hok]; rfl)
            first | exact ⟨0 + 1, by simp, hlt, hst, below_step hB1 hH.2⟩ | ((repeat apply Exists.intro); refine ⟨⟨0 + 1, ?_, hlt, hst, below_step hB1 hH.2⟩, by first | rfl | (repeat' apply And.intro) <;> rfl⟩; simp)
          case measure => simp [intOf]; omega
        · obtain ⟨ad2, _, _, _, _, hq, f0, _⟩ := at_T33 (Kd.C_below HR.out hB1) (j : Int) (by omega) (by omega)
          cases hq
          rw [show ((j : Int)).toNat = j from rfl] at f0
          have hrec2 : recStep l (j + 1) = (recOk ri && (decide (j + 1 = 0) || decide ((rd_T33 l (j : Int)).f0 < ri.f0))) := by
            rw [hrec, show ((j + 1 : Nat) : Int) - 1 = (j : Int) by omega]
          generalize (rd_T33 l (j : Int)).f0 = pj at f0 hrec2
          have hwj : IntKind.i64.wrap (j : Int) = (j : Int) := by rw [i64_w]; unfold wrap64; omega
          have hjl : (j : Int) < (l.length : Int) := by omega
          have hjl1 : (j : Int) + 1 < (l.length : Int) := by omega
          have hj0 : (0 : Int) ≤ (j : Int) + 1 := by omega
          have htn : ((j : Int) + 1).toNat = j + 1 := by omega
          have kS2 : ∀ w' : World, Below wr.drew.heap.size wr.drew w' → (CellsR w' (ad.add ((j + 1) * 6)) ri A3 c3 A5 c5 ∧ Below wr.heap.size wr w') ∧ w'.cell? (ad.add (j * 6)) = some (.int .i64 pj) := fun w' h => ⟨kS w' h, pw_cell_below (below_step (below_drew (Below.refl _ wr)) h) f0⟩
          have hno := Aside0.mk hrec2
          clear hrec hrec2
          refine r_begin (fun w' => (CellsR w' (ad.add ((j + 1) * 6)) ri A3 c3 A5 c5 ∧ Below wr.heap.size wr w') ∧ w'.cell? (ad.add (j * 6)) = some (.int .i64 pj)) 24 (by kernel_rfl) rfl (kS2 _ (Below.refl _ _)) (fun hH => ?_)
          repeat (first | (refine r_skip (by kernel_rfl) (by rfl) (fun _ _ _ h => h) hH ?_; simp only [Act.put, List.setIfInBounds_toArray, List.set_cons_zero, List.set_cons_succ, Nat.reduceAdd]) | (refine r_go (v := ?_) (by kernel_rfl) (by rfl) (fun _ _ _ h => h) hH ?_ ?_; rotate_left; (focus (intro w hS; obtain ⟨⟨⟨e0, e1, e2, e3, e4, e5⟩, e6⟩, e7⟩ := hS; go_simp; first | done | with_reducible rfl)); simp only [Act.put, List.setIfInBounds_toArray, List.set_cons_zero, List.set_cons_succ, Nat.reduceAdd]) | (fail "x"))
          refine r_one (by kernel_rfl) (by rfl) (fun K hK => ?_)
          go_simp
          go_at_call 100
          refine (HRC.out _ hH.1.2).mono ?_
          rintro e w2 ⟨rfl, hb⟩
          go_wp2_with fail
          refine hK.out _ _ (kS2 _ hb) (fun hH => ?_)
          clear hK K
          simp only [Act.put, List.setIfInBounds_toArray, List.set_cons_zero, List.set_cons_succ, Nat.reduceAdd]
          repeat (first | (refine r_skip (by kernel_rfl) (by rfl) (fun _ _ _ h => h) hH ?_; simp only [Act.put, List.setIfInBounds_toArray, List.set_cons_zero, List.set_cons_succ, Nat.reduceAdd]) | (refine r_go (v := ?_) (by kernel_rfl) (by rfl) (fun _ _ _ h => h) hH ?_ ?_; rotate_left; (focus (intro w hS; obtain ⟨⟨⟨e0, e1, e2, e3, e4, e5⟩, e6⟩, e7⟩ := hS; go_simp; first | done | with_reducible rfl)); simp only [Act.put, List.setIfInBounds_toArray, List.set_cons_zero, List.set_cons_succ, Nat.reduceAdd]) | (fail "x"))
          refine r_done (by kernel_rfl) ?_
          have hBw := below_step hB1 hH.1.2
          by_cases hlt2 : pj < ri.f0
          · have hst : ∀ j', j' < j + 1 + 1 → recStep l j' = true := by
              intro j' hj
              by_cases h' : j' < j + 1
              · exact hall j' h'
              · obtain rfl : j' = j + 1 := by omega
                rw [hno.out, hok, decide_eq_true hlt2, Bool.or_true]; rfl
            have hng : ¬ ri.f0 ≤ pj := by omega
            go_wp2
            go_roundw
            case rel => first | exact ⟨j + 1 + 1, by simp, hlt, hst, hBw⟩ | ((repeat apply Exists.intro); refine ⟨⟨j + 1 + 1, ?_, hlt, hst, hBw⟩, by first | rfl | (repeat' apply And.intro) <;> rfl⟩; simp)
            case measure => simp [intOf]; omega
          · have hn2 := Aside0.mk (incs_no hlt (hno.out.trans (by rw [hok, decide_eq_false hlt2, decide_eq_false (show ¬ j + 1 = 0 by omega)]; rfl)))
            have hng : ri.f0 ≤ pj := by omega
            go_wp2
            go_ret
            exact ⟨by rw [hn2.out]; rfl, hBw⟩
    · obtain rfl : i = l.length := by omega
      go_wp2_with (go_at_call 85; refine (in_q _ _ _ _).mono ?_; rintro e w' ⟨rfl, ⟨n, rfl⟩⟩)
      go_ret
      exact ⟨by rw [incs_of hall]; rfl, pw_below_drewN hB1 _⟩
def batTail (b : S47) : Bool := if b.f2 = 255 then decide (b.f3 = 0) && (decide (b.f4 = 0) && !b.f1) else (!b.f1 || decide ((b.f5.length : Int) = 1))
theorem batOk_spec (b : S47) : batOk b = ((recsInc b.f5 && lenOk b.f5) && ((decide (0 ≤ b.f2) && decide (b.f2 ≤ 255)) && ((decide (0 ≤ b.f3) && decide (b.f3 ≤ 99)) && ((decide (0 ≤ b.f4) && decide (b.f4 ≤ 9999)) && batTail b)))) := by
  unfold batOk headOk batTail
  by_cases h : b.f2 = 255
  · rw [if_pos h, if_pos h, h]
    cases recsInc b.f5
    · simp
    · rw [Bool.eq_iff_iff]
      simp only [lenOk, Bool.and_eq_true, Bool.or_eq_true, decide_eq_true_eq, Bool.not_eq_true']
      constructor
      · rintro ⟨⟨h3, h4, h1⟩, hl, hm, _⟩
        exact ⟨⟨trivial, hl⟩, ⟨by omega, by omega⟩, ⟨by omega, by omega⟩, ⟨by omega, by omega⟩, h3, h4, h1⟩
      · rintro ⟨⟨_, hl⟩, _, _, _, h3, h4, h1⟩
        exact ⟨⟨h3, h4, h1⟩, hl, .inl h1, trivial⟩
  · rw [if_neg h, if_neg h]
    rw [Bool.eq_iff_iff]
    simp only [Bool.and_eq_true, decide_eq_true_eq]
    constructor
    · rintro ⟨⟨h2, h3, h4⟩, hl, hm, hr⟩
      exact ⟨⟨hr, hl⟩, ⟨by omega, by omega⟩, h3, h4, hm⟩
    · rintro ⟨⟨hr, hl⟩, h2, h3, h4, hm⟩
      exact ⟨⟨⟨by omega, by omega⟩, h3, h4⟩, hl, hm, hr⟩
theorem sb_no {b2 b3 b4 : Int} {x : Bool} (h : ¬(0 ≤ b2 ∧ b2 ≤ 255) ∨ ¬(0 ≤ b3 ∧ b3 ≤ 99) ∨ ((!decide (0 ≤ b4)) = true ∨ (!decide (b4 ≤ 9999)) = true)) : Ending.returned (.bool false) = .returned (.bool (true && ((decide (0 ≤ b2) && decide (b2 ≤ 255)) && ((decide (0 ≤ b3) && decide (b3 ≤ 99)) && ((decide (0 ≤ b4) && decide (b4 ≤ 9999)) && x))))) := by
  congr 2
  grind
theorem sb_t {b2 b3 b4 : Int} {x y : Bool} (h2 : 0 ≤ b2 ∧ b2 ≤ 255) (h3 : 0 ≤ b3 ∧ b3 ≤ 99) (h4 : (!decide (0 ≤ b4)) = false ∧ (!decide (b4 ≤ 9999)) = false) (hx : x = y) : Ending.returned (.bool y) = .returned (.bool (true && ((decide (0 ≤ b2) && decide (b2 ≤ 255)) && ((decide (0 ≤ b3) && decide (b3 ≤ 99)) && ((decide (0 ≤ b4) && decide (b4 ≤ 9999)) && x))))) := by
  subst hx
  congr 2
  grind
section
variable {b0 b1 : Bool} {b2 b3 b4 : Int} {l : List S33}
theorem tl1 (h : (b2 == 255) = true) (h3 : b3 = 0) (h4 : b4 = 0) : batTail ⟨b0, b1, b2, b3, b4, l⟩ = !b1 := by unfold batTail; grind
theorem tl2 (h : (b2 == 255) = true) (h3 : b3 = 0) (h4 : ¬ b4 = 0) : batTail ⟨b0, b1, b2, b3, b4, l⟩ = false := by unfold batTail; grind
theorem tl3 (h : (b2 == 255) = true) (h3 : ¬ b3 = 0) : batTail ⟨b0, b1, b2, b3, b4, l⟩ = false := by unfold batTail; grind
theorem tl4 (h : (b2 == 255) = false) (h1 : b1 = true) : batTail ⟨b0, b1, b2, b3, b4, l⟩ = ((l.length : Int) == 1) := by unfold batTail; grind
theorem tl5 (h : (b2 == 255) = false) (h1 : ¬ b1 = true) : batTail ⟨b0, b1, b2, b3, b4, l⟩ = true := by unfold batTail; grind
end
set_option maxRecDepth 100000 in
set_option maxHeartbeats 4000000 in
theorem specbat_q (b : S47) (A : Option Addr) (c : Nat) (w : World) (hr : Kd.C k33 w A b.f5.length b.f5) (hc : b.f5.length ≤ c) :
    Calls Tryd.prog 59 #[.agg #[.bool b.f0, .bool b.f1, .int .i64 b.f2, .int .i64 b.f3, .int .i64 b.f4, .slice A b.f5.length c]] w fun e w' => e = .returned (.bool (batOk b)) ∧ Below w.heap.size w w' := by
  rw [batOk_spec]
  obtain ⟨b0, b1, b2, b3, b4, l⟩ := b
  simp only at hr hc ⊢
  have hl := hr.2.1
  have HL := Aside0.mk (fun (W2 : World) (hb : Below w.heap.size w W2) => specrecs_q l A c W2 (Kd.C_below hr hb) hc)
  clear hr
  rcases hok : (recsInc l && lenOk l) with _ | _ <;> rw [hok] at HL
  · go_enter Tryd.func59, Tryd.ntmps59
    go_wp2_with (go_at_call 84; refine (HL.out _ (below_alloc (Below.refl _ _) _)).mono ?_; rintro e w1 ⟨rfl, hb⟩)
    go_ret
    exact ⟨rfl, below_step (below_alloc (Below.refl _ _) _) hb⟩
  · go_enter Tryd.func59, Tryd.ntmps59
    go_wp2_with (first | (go_at_call 85; refine (in_q _ _ _ _).mono ?_; rintro e w' ⟨rfl, ⟨n, rfl⟩⟩) | (go_at_call 84; refine (HL.out _ (below_alloc (Below.refl _ _) _)).mono ?_; rintro e w1 ⟨rfl, hb⟩; have hB := below_step (below_alloc (Below.refl _ _) _) hb; have hw := blk_below (heap_alloc_new w _) hb; have q1 := blk_cell hw 1; have q2 := blk_cell hw 2; have q3 := blk_cell hw 3; have q4 := blk_cell hw 4; have q5 := blk_cell hw 5; clear hb hw))
    all_goals (go_ret; exact ⟨by first | exact sb_no (.inl ‹_›) | exact sb_no (.inr (.inl ‹_›)) | exact sb_no (.inr (.inr ‹_›)) | exact sb_t ‹_› ‹_› ‹_› (tl1 ‹_› ‹_› ‹_›) | exact sb_t ‹_› ‹_› ‹_› (tl2 ‹_› ‹_› ‹_›) | exact sb_t ‹_› ‹_› ‹_› (tl3 ‹_› ‹_›) | exact sb_t ‹_› ‹_› ‹_› (tl4 ‹_› ‹_›) | exact sb_t ‹_› ‹_› ‹_› (tl5 ‹_› ‹_›), pw_below_drewN hB _⟩)
def spec_BatchValid.f (k : Nat) (a0 : Bool) (a1 : Bool) (a2 a3 a4 : Int) (a5 : List S33) : Option Bool := some (batOk ⟨a0, a1, a2, a3, a4, a5⟩)
theorem spec_BatchValid.calls (k : Nat) (a0_0 : Bool) (a0_1 : Bool) (a0_2 : Int) (a0_3 : Int) (a0_4 : Int) (A0_5 : Option Addr) (c0_5 : Nat) (l0_5 : List (S33)) (r : Bool) (w : World) (hr0_5 : Kd.C k33 w A0_5 l0_5.length l0_5) (hc0_5 : l0_5.length ≤ c0_5) (h : spec_BatchValid.f k a0_0 a0_1 a0_2 a0_3 a0_4 l0_5 = some r) :
    Calls Tryd.prog 59 #[.agg #[.bool a0_0, .bool a0_1, .int .i64 a0_2, .int .i64 a0_3, .int .i64 a0_4, .slice A0_5 l0_5.length c0_5]] w fun e w' => e = .returned (.bool r) ∧ Below w.heap.size w w' := by
  obtain rfl := Option.some.inj h
  exact specbat_q ⟨a0_0, a0_1, a0_2, a0_3, a0_4, l0_5⟩ A0_5 c0_5 w hr0_5 hc0_5
end Go.Proofs.YtbbboachakkgiaaDoor.G

namespace Go.Proofs.YtbbboachakkgiaaDoor.G
open Go.RowKit Go.Proofs.YtbbboachakkgiaaDoorW.PrintWords Go.Proofs.YtbbboachakkgiaaDoorW.PrintLast Go.Proofs.YtbbboachakkgiaaDoorW.PrintMore
attribute [local go_sem] max2_int min2_int max_two min_two max_three min_three max_four min_four   -- for this text's walks alone
set_option linter.unusedVariables false
set_option linter.unusedSimpArgs false

mutual
def spec_l91Records.l0 : Nat → Int → List (S33) → Int → Int → Int → List Int → Int → Option ((List (S33)) × Int)
 | 0, _, _, _, _, _, _, _ => none
 | k + 1, x1, x7, x8, x9, x10, x1000, x1001 => if x10 < x8 then ((spec_l91Part.f k x1000 x1001).bind fun bt138 => ((spec_l91Part.f k x1000 bt138.2.2).bind fun bt143 => (if bt138.1 = true then ((spec_l6Rd_pick.f k x1000 bt143.2.2 2).bind fun bt148 => (spec_l91Records.j1 k x1 x7 x8 x9 x10 bt143.1 bt143.2.1 (bt148.1 == 0) x1000 bt148.2 x1 x9 bt138.1 bt138.2.1 false)) else (spec_l91Records.j1 k x1 x7 x8 x9 x10 bt143.1 bt143.2.1 false x1000 bt143.2.2 x1 x9 bt138.1 bt138.2.1 false)))) else (some (x7, x1001))
def spec_l91Records.j1 : Nat → Int → List (S33) → Int → Int → Int → Bool → List Int → Bool → List Int → Int → Int → Int → Bool → List Int → Bool → Option ((List (S33)) × Int)
 | 0, _, _, _, _, _, _, _, _, _, _, _, _, _, _, _ => none
 | k + 1, x1, x7, x8, x9, x10, x14, x15, x50, x1000, x1001, x138000, x138001, x138002, x138003, x138004 => if x50 = true then ((spec_l6Rd_pick.f k x1000 x1001 3).bind fun bt150 => (if x7.length < 1759218604441 then ((spec_l6Rd_pick.f k x1000 bt150.2 5).bind fun bt158 => ((spec_l6Rd_pick.f k x1000 bt158.2 30).bind fun bt160 => (spec_l91Records.l0 k (wrap64 ((wrap64 (x1 + 1)) + (wrap64 (Int.tdiv bt158.1 4)))) (x7 ++ [(⟨x138000, x138001, x138002, (([bt150.1] : List Int)), x14, x15⟩ : S33)]) x8 (mx (wrap64 ((wrap64 (x9 + bt160.1)) - 6)) 0) (wrap64 (x10 + 1)) x1000 bt160.2))) else (none))) else (if x7.length < 1759218604441 then ((spec_l6Rd_pick.f k x1000 x1001 5).bind fun bt165 => ((spec_l6Rd_pick.f k x1000 bt165.2 30).bind fun bt167 => (spec_l91Records.l0 k (wrap64 ((wrap64 (x1 + 1)) + (wrap64 (Int.tdiv bt165.1 4)))) (x7 ++ [(⟨x138000, x138001, x138002, x138003, x14, x15⟩ : S33)]) x8 (mx (wrap64 ((wrap64 (x9 + bt167.1)) - 6)) 0) (wrap64 (x10 + 1)) x1000 bt167.2))) else (none))
end
def spec_l91Records.f (k : Nat) (s0_0 : List Int) (s0_1 : Int) (a1 : Int) (a2 : Int) : Option ((List (S33)) × Int) := (spec_l6Rd_pick.f k s0_0 s0_1 a2).bind fun bt133 => ((spec_l6Rd_pick.f k s0_0 bt133.2 200).bind fun bt135 => (spec_l91Records.l0 k a1 (([] : List (S33))) (wrap64 (1 + bt133.1)) bt135.1 0 s0_0 bt135.2))
set_option maxHeartbeats 8000000 in
set_option maxRecDepth 100000 in
theorem spec_l91Records.calls (k : Nat) (g : Nat) (s0_0 : List Int) (s0_1 : Int) (a1 : Int) (a2 : Int) (r1 : List (S33)) (r2 : Int) (w0 w : World) (hI : IsS88 w0 w g s0_0 s0_1) (hB : Below w0.heap.size w0 w) (h : spec_l91Records.f k s0_0 s0_1 a1 a2 = some (r1, r2)) :
  Calls Tryd.prog 60 #[.pointer (some ⟨g, 0, none⟩), .int .i64 a1, .int .i64 a2] w fun e w' => ∃ v0_ : Value, e = .returned (v0_) ∧ Kd.S k33 33 w' w.heap.size (fun _ => True) v0_ r1 ∧ IsS88 w0 w' g s0_0 r2 ∧ Below w0.heap.size w0 w' ∧ KeepBut w w' g none := by
 have hu33 := Tryd.underlying33
 have HI0 := Aside0.mk hI
 have HK := Aside0.mk (KeepBut.refl w g none)
 have HL := Aside0.mk hB.size
 clear hI
 have HW0 := Aside0.mk hB.size
 have HB := Aside0.mk hB
 clear hB
 have H : ((spec_l6Rd_pick.f k s0_0 s0_1 a2).bind fun bt133 => ((spec_l6Rd_pick.f k s0_0 bt133.2 200).bind fun bt135 => (spec_l91Records.l0 k a1 (([] : List (S33))) (wrap64 (1 + bt133.1)) bt135.1 0 s0_0 bt135.2))) = some (r1, r2) := h
 clear h
 obtain ⟨y130, hy130⟩ : ∃ y_ : List (S33), y_ = (([] : List (S33))) := ⟨_, rfl⟩
 replace H : ((spec_l6Rd_pick.f k s0_0 s0_1 a2).bind fun bt133 => ((spec_l6Rd_pick.f k s0_0 bt133.2 200).bind fun bt135 => (spec_l91Records.l0 k a1 y130 (wrap64 (1 + bt133.1)) bt135.1 0 s0_0 bt135.2))) = some (r1, r2) := by first | (rw [hy130]; with_reducible exact H) | (have H2_ := (Option.bind_some _ _).symm.trans H; rw [hy130]; with_reducible exact H2_) | (have H2_ := (Option.bind_some _ _).symm.trans H; with_reducible exact H2_) | with_reducible exact H | (rw [hy130]; exact H) | exact H
 have Ny130 := Aside0.mk hy130
 clear hy130
 replace H := tbe H
 obtain ⟨⟨t133, t134⟩, A4, H⟩ := H
 dsimp only at H
 replace H := tbe H
 obtain ⟨⟨t135, t136⟩, A5, H⟩ := H
 dsimp only at H
 have H' := Aside0.mk H
 clear H
 go_enter Tryd.func60, Tryd.ntmps60
 go_wp2_with (first | ((with_reducible refine gate_dst (N := 16) rfl ?_); refine Kd.S_lit k33 _ 33 ?hg (N := 16) ?hd (xs := ([] : List (S33))) (inner := []) (ok := fun _ => True) (okp := fun _ => True) ?hr ?hp (fun _ hk => hk) trivial (Below.refl _ _) (Nat.le_refl _) (by simp) ?_; (case hd => rfl); (case hg => rfl); (case hr => first | (go_simp; done) | (go_simp; rfl)); (case hp => exact (Reps.none _ _)); intro v131 w6 ho7 hb hg_ hnew_; clear hg_ hnew_; (first | rw [← Ny130.out] at ho7 | (simp only [Int.reduceToNat] at ho7; rw [← Ny130.out] at ho7)); have HO132 := Aside0.mk (Kd.S_lower ho7 (keep_size (w := w) (g := g) (row := none) zk)); replace HI0 := tIb88 HI0 hb; replace HK := tKb HK hb; replace HB := tBs HB hb; clear hb ho7) | ((with_reducible refine gate_callee (f := 33) rfl ?_); refine goesL_ (some 19) rfl rfl Tryd.func33 (by kernel_rfl) rfl #[.pointer (some ⟨g, 0, none⟩), .int .i64 a2] rfl tq ?_; (with_reducible refine (spec_l6Rd_pick.calls k g s0_0 s0_1 a2 t133 t134 w0 _ ?side1 ?side2 A4.out).mono ?_); (case side1 => exact zi88); (case side2 => exact zb); rintro e w8 ⟨rfl, hi, hb, hk⟩; refine ⟨_, rfl, ?_⟩; replace HO132 := tSp88 HO132 HI0 hk; replace HK := tKt HK hk; replace HB := Aside0.mk (hb); replace HI0 := Aside0.mk (hi); (try clear hb); (try clear hb2); (try clear hk); (try clear hi)) | ((with_reducible refine gate_callee (f := 33) rfl ?_); refine goesL_ (some 22) rfl rfl Tryd.func33 (by kernel_rfl) rfl #[.pointer (some ⟨g, 0, none⟩), .int .i64 200] rfl tq ?_; (with_reducible refine (spec_l6Rd_pick.calls k g s0_0 t134 200 t135 t136 w0 _ ?side1 ?side2 A5.out).mono ?_); (case side1 => exact zi88); (case side2 => exact zb); rintro e w9 ⟨rfl, hi, hb, hk⟩; refine ⟨_, rfl, ?_⟩; replace HO132 := tSp88 HO132 HI0 hk; replace HK := tKt HK hk; replace HB := Aside0.mk (hb); replace HI0 := Aside0.mk (hi); (try clear hb); (try clear hb2); (try clear hk); (try clear hi)))
 go_loopg [1, 7, 9, 10] k (fun kq v1 v7 v9 v10 w' => ∃ (x1_1 : Int) (x7_1 : List (S33)) (x9_1 : Int) (x10_1 : Int) (x1001_1 : Int), v1 = .int .i64 x1_1 ∧ v9 = .int .i64 x9_1 ∧ v10 = .int .i64 x10_1 ∧ Aside0 (spec_l91Records.l0 kq x1_1 x7_1 (wrap64 (1 + t133)) x9_1 x10_1 s0_0 x1001_1 = some (r1, r2)) ∧ Aside0 (kq ≤ k) ∧ Aside0 (Kd.S k33 33 w' w.heap.size (fun _ => True) v7 x7_1) ∧ Aside0 (IsS88 w0 w' g s0_0 x1001_1) ∧ Aside0 (KeepBut w w' g none) ∧ Aside0 (Below w0.heap.size w0 w'))
 case atStart => exact ⟨(a1), (y130), (t135), (0), (t136), tr, tr, tr, H', ⟨Nat.le_refl _⟩, ⟨tS HO132.out⟩, ⟨zi88⟩, ⟨zk⟩, ⟨zb⟩⟩
 case round =>
  clear H'
  obtain ⟨x1_1, x7_1, x9_1, x10_1, x1001_1, rfl, rfl, rfl, HA, HK1, HO_7, HI0, HK, HB⟩ := hrel
  cases gk with
  | zero => exact absurd HA.out (by simp [spec_l91Records.l0])
  | succ k1 =>
   have H := HA.out
   clear HA
   simp only [spec_l91Records.l0] at H
   by_cases c10 : x10_1 < (wrap64 (1 + t133))
   ·rw [if_pos c10] at H
    have c10b0 : decide (x10_1 < (wrap64 (1 + t133))) = true := decide_eq_true c10
    clear c10
    replace H := tbe H
    obtain ⟨⟨t138, t139, t142⟩, A11, H⟩ := H
    dsimp only at H
    replace H := tbe H
    obtain ⟨⟨t143, t144, t147⟩, A12, H⟩ := H
    dsimp only at H
    have HC13 := Aside0.mk H
    clear H
    go_upto_region 12 with (first | ((with_reducible refine gate_dst (N := 11) rfl ?_); refine box_event ?hg (N := 11) ?hd (cs := #[.int .i64 0, .int .i64 0, .bool false, .slice none 0 0, .bool false, .slice none 0 0]) (t := 33) ?hr ?_; (case hd => rfl); (case hg => rfl); (case hr => first | (go_simp; done) | (go_simp; rfl)); intro gb137 hg w14 hbox hb; replace HO_7 := tSB HO_7 hg hb; replace HB := tBs HB hb; have BK137 := Aside0.mk (hbox); have GW137 := Aside0.mk ((by rw [hg]; exact (keep_size (w := w) (g := g) (row := none) zk) : w.heap.size ≤ gb137)); have GE137 := Aside0.mk ((Nat.le_trans HW0.out (by rw [hg]; exact (keep_size (w := w) (g := g) (row := none) zk) : w.heap.size ≤ gb137) : w0.heap.size ≤ gb137)); replace HK := tKb HK hb; have NB0_137 := Aside0.mk ((by rw [hg]; exact Nat.ne_of_lt (IsS88.lt (show IsS88 w0 _ g s0_0 x1001_1 from zi88)) : g ≠ gb137)); have NB137_0 := Aside0.mk ((by rw [hg]; exact Nat.ne_of_gt (IsS88.lt (show IsS88 w0 _ g s0_0 x1001_1 from zi88)) : gb137 ≠ g)); replace HI0 := tIb88 HI0 hb; clear hb hbox hg; have hnb15 := NB137_0.out; have hnc15 := NB0_137.out; obtain ⟨hcz16_0, hcz16_1, hcz16_2, hcz16_3, hcz16_4, hcz16_5, hfz16_0, hfz16_1, hfz16_2, hfz16_3, hfz16_4, hfz16_5⟩ := cells6 BK137.out) | ((with_reducible refine gate_callee (f := 86) rfl ?_); refine goesL_ (some 33) rfl rfl Tryd.func86 (by kernel_rfl) rfl #[.pointer (some ⟨g, 0, none⟩)] rfl tq ?_; (with_reducible refine (spec_l91Part.calls k1 g s0_0 x1001_1 t138 t139 t142 w0 _ ?side1 ?side2 A11.out).mono ?_); (case side1 => exact zi88); (case side2 => exact zb); rintro e w17 ⟨v140, rfl, ho0, hi, hb, hk⟩; have u_v140 := tsv Tryd.prog v140 ho0; refine ⟨_, rfl, ?_⟩; replace HO_7 := Aside0.mk (Kd.S_mono (Kd.S_told (Kd.S_oldK (IsS88.apartS (show IsS88 w0 _ g s0_0 x1001_1 from zi88) (tS HO_7.out) (by decide)) hk) (Kd.R_base ho0)) (fun _ h_ => h_.1)); replace BK137 := tBq (o' := .cells #[.int .i64 x1_1, .int .i64 x9_1, .bool false, .slice none 0 0, .bool false, .slice none 0 0] 33 (0, 0)) BK137 hk NB137_0; have HO141 := Aside0.mk (Kd.R_lower ho0 (keep_size (w := w) (g := g) (row := none) zk)); replace HK := tKt HK hk; replace HB := Aside0.mk (hb); replace HI0 := Aside0.mk (hi); (try clear hb); (try clear hb2); (try clear hk); (try clear hi); (try clear ho0)) | ((with_reducible refine gate_callee (f := 86) rfl ?_); refine goesL_ (some 38) rfl rfl Tryd.func86 (by kernel_rfl) rfl #[.pointer (some ⟨g, 0, none⟩)] rfl tq ?_; (with_reducible refine (spec_l91Part.calls k1 g s0_0 t142 t143 t144 t147 w0 _ ?side1 ?side2 A12.out).mono ?_); (case side1 => exact zi88); (case side2 => exact zb); rintro e w18 ⟨v145, rfl, ho0, hi, hb, hk⟩; have u_v145 := tsv Tryd.prog v145 ho0; refine ⟨_, rfl, ?_⟩; replace HO_7 := Aside0.mk (Kd.S_mono (Kd.S_told (Kd.S_oldK (IsS88.apartS (show IsS88 w0 _ g s0_0 t142 from zi88) (tS HO_7.out) (by decide)) hk) (Kd.R_base ho0)) (fun _ h_ => h_.1)); replace BK137 := tBk BK137 hk NB137_0; have HO146 := Aside0.mk (Kd.R_lower (Kd.R_new' ho0 (Kd.R_lt (tR HO141.out))) (keep_size (w := w) (g := g) (row := none) zk)); replace HO141 := Aside0.mk (Kd.R_mono (Kd.R_told (Kd.R_oldK (IsS88.apart (show IsS88 w0 _ g s0_0 t142 from zi88) (tR HO141.out) (by decide)) hk) (Kd.R_base ho0)) (fun _ h_ => h_.1)); replace HK := tKt HK hk; replace HB := Aside0.mk (hb); replace HI0 := Aside0.mk (hi); (try clear hb); (try clear hb2); (try clear hk); (try clear hi); (try clear ho0); obtain ⟨hcz19_0, hcz19_1, hcz19_2, hcz19_3, hcz19_4, hcz19_5, hfz19_0, hfz19_1, hfz19_2, hfz19_3, hfz19_4, hfz19_5⟩ := cells6 BK137.out; obtain ⟨Ao20, co20, eo20⟩ := Kd.R_slice HO141.out; subst eo20))
    (try simp only [Act.put, List.setIfInBounds_toArray, List.set_cons_zero, List.set_cons_succ])
    go_cut [50] (fun v50 wc => ∃ (kq : Nat) (x50_12 : Bool) (x1001_12 : Int), v50 = .bool x50_12 ∧ Aside0 (spec_l91Records.j1 kq x1_1 x7_1 (wrap64 (1 + t133)) x9_1 x10_1 t143 t144 x50_12 s0_0 x1001_12 x1_1 x9_1 t138 t139 false = some (r1, r2)) ∧ Aside0 (kq ≤ k1) ∧ Aside0 (Kd.S k33 33 wc w.heap.size (fun k_ => some k_ ≠ (v145 : Value).ownBlock ∧ some k_ ≠ ((.slice Ao20 t139.length co20) : Value).ownBlock ∧ k_ ≠ gb137) u7 x7_1) ∧ Aside0 (Kd.R (Kd.int .i64) 3 wc w.heap.size (fun k_ => some k_ ≠ ((.slice Ao20 t139.length co20) : Value).ownBlock) v145 t144) ∧ Aside0 (Kd.R (Kd.int .i64) 3 wc w.heap.size (fun k_ => some k_ ≠ (v145 : Value).ownBlock) (.slice Ao20 t139.length co20) t139) ∧ Aside0 (wc.heap[gb137]? = some (.cells #[.int .i64 x1_1, .int .i64 x9_1, .bool t138, (.slice Ao20 t139.length co20), .bool false, (.slice none 0 0)] 33 (0, 0))) ∧ Aside0 (IsS88 w0 wc g s0_0 x1001_12) ∧ Aside0 (KeepBut w wc g none) ∧ Aside0 (Below w0.heap.size w0 wc))
    case first =>
     have H := HC13.out
     clear HC13
     by_cases c21 : t138 = true
     ·subst c21
      rw [if_pos rfl] at H
      replace H := tbe H
      obtain ⟨⟨t148, t149⟩, A22, H⟩ := H
      dsimp only at H
      have H' := Aside0.mk H
      clear H
      go_wp2_with (first | (go_at_call 33; (with_reducible refine (spec_l6Rd_pick.calls k1 g s0_0 t147 2 t148 t149 w0 _ ?side1 ?side2 A22.out).mono ?_); (case side1 => exact zi88); (case side2 => exact zb); rintro e w23 ⟨rfl, hi, hb, hk⟩; replace HO_7 := tSp88 HO_7 HI0 hk; replace HO141 := Aside0.mk (Kd.R_mono (Kd.R_keep (IsS88.apart (show IsS88 w0 _ g s0_0 t147 from zi88) (tRt HO141.out BK137.out) (by decide)) hk (fun _ h => h.2)) (fun _ h => h.1)); replace HO146 := Aside0.mk (Kd.R_mono (Kd.R_keep (IsS88.apart (show IsS88 w0 _ g s0_0 t147 from zi88) (tRt HO146.out BK137.out) (by decide)) hk (fun _ h => h.2)) (fun _ h => h.1)); replace BK137 := tBq (o' := .cells #[.int .i64 x1_1, .int .i64 x9_1, .bool true, .slice Ao20 t139.length co20, .bool false, .slice none 0 0] 33 (0, 0)) BK137 hk NB137_0; replace HK := tKt HK hk; replace HB := Aside0.mk (hb); replace HI0 := Aside0.mk (hi); (try clear hb); (try clear hb2); (try clear hk); (try clear hi)))
      go_meet
      case rel => exact ⟨_, ((t148 == 0)), (t149), tr, H', ⟨by have := HK1.out; first | omega | exact Nat.le_refl _⟩, ⟨tSm HO_7.out⟩, ⟨tRm HO146.out⟩, ⟨tRm HO141.out⟩, ⟨tH BK137.out⟩, ⟨zi88⟩, ⟨zk⟩, ⟨zb⟩⟩
     ·replace c21 := Bool.eq_false_iff.mpr c21
      subst c21
      rw [if_neg (show ¬ (false = true) by decide)] at H
      have H' := Aside0.mk H
      clear H
      go_wp2
      go_meet
      case rel => exact ⟨_, (false), (t147), tr, H', ⟨by have := HK1.out; first | omega | exact Nat.le_refl _⟩, ⟨tSm HO_7.out⟩, ⟨tRm (Kd.R_types HO146.out BK137.out (by decide))⟩, ⟨tRm (Kd.R_types HO141.out BK137.out (by decide))⟩, ⟨tP BK137.out⟩, ⟨zi88⟩, ⟨zk⟩, ⟨zb⟩⟩
    case rest =>
     clear HC13
     try clear c10; try clear c10b0; try clear hcz16_0; try clear hcz16_1; try clear hcz16_2; try clear hcz16_3; try clear hcz16_4; try clear hcz16_5; try clear hcz19_0; try clear hcz19_1; try clear hcz19_2; try clear hcz19_3; try clear hcz19_4; try clear hcz19_5; try clear hfz16_0; try clear hfz16_1; try clear hfz16_2; try clear hfz16_3; try clear hfz16_4; try clear hfz16_5; try clear hfz19_0; try clear hfz19_1; try clear hfz19_2; try clear hfz19_3; try clear hfz19_4; try clear hfz19_5
     obtain ⟨kq, x50_12, x1001_12, rfl, HA, HJ12, HO_7, HO_15, HO_138003, BK137, HI0, HK, HB⟩ := hcut
     cases kq with
     | zero => exact absurd HA.out (by simp [spec_l91Records.j1])
     | succ kj12 =>
      have H := HA.out
      clear HA
      simp only [spec_l91Records.j1] at H
      by_cases c24 : x50_12 = true
      ·subst c24
       rw [if_pos rfl] at H
       replace H := tbe H
       obtain ⟨⟨t150, t151⟩, A25, H⟩ := H
       dsimp only at H
       obtain ⟨y152, hy152⟩ : ∃ y_ : List Int, y_ = (([t150] : List Int)) := ⟨_, rfl⟩
       replace H : (if x7_1.length < 1759218604441 then ((spec_l6Rd_pick.f kj12 s0_0 t151 5).bind fun bt158 => ((spec_l6Rd_pick.f kj12 s0_0 bt158.2 30).bind fun bt160 => (spec_l91Records.l0 kj12 (wrap64 ((wrap64 (x1_1 + 1)) + (wrap64 (Int.tdiv bt158.1 4)))) (x7_1 ++ [(⟨x1_1, x9_1, t138, y152, t143, t144⟩ : S33)]) (wrap64 (1 + t133)) (mx (wrap64 ((wrap64 (x9_1 + bt160.1)) - 6)) 0) (wrap64 (x10_1 + 1)) s0_0 bt160.2))) else (none)) = some (r1, r2) := by first | (rw [hy152]; with_reducible exact H) | (have H2_ := (Option.bind_some _ _).symm.trans H; rw [hy152]; with_reducible exact H2_) | (have H2_ := (Option.bind_some _ _).symm.trans H; with_reducible exact H2_) | with_reducible exact H | (rw [hy152]; exact H) | exact H
       have Ny152 := Aside0.mk hy152
       clear hy152
       by_cases c26 : x7_1.length < 1759218604441
       ·rw [if_pos c26] at H
        have LMc26 := Aside0.mk c26
        clear c26
        obtain ⟨y155, hy155⟩ : ∃ y_ : List (S33), y_ = (x7_1 ++ [(⟨x1_1, x9_1, t138, y152, t143, t144⟩ : S33)]) := ⟨_, rfl⟩
        replace H : ((spec_l6Rd_pick.f kj12 s0_0 t151 5).bind fun bt158 => ((spec_l6Rd_pick.f kj12 s0_0 bt158.2 30).bind fun bt160 => (spec_l91Records.l0 kj12 (wrap64 ((wrap64 (x1_1 + 1)) + (wrap64 (Int.tdiv bt158.1 4)))) y155 (wrap64 (1 + t133)) (mx (wrap64 ((wrap64 (x9_1 + bt160.1)) - 6)) 0) (wrap64 (x10_1 + 1)) s0_0 bt160.2))) = some (r1, r2) := by first | (rw [hy155]; with_reducible exact H) | (have H2_ := (Option.bind_some _ _).symm.trans H; rw [hy155]; with_reducible exact H2_) | (have H2_ := (Option.bind_some _ _).symm.trans H; with_reducible exact H2_) | with_reducible exact H | (rw [hy155]; exact H) | exact H
        have Ny155 := Aside0.mk hy155
        clear hy155
        replace H := tbe H
        obtain ⟨⟨t158, t159⟩, A27, H⟩ := H
        dsimp only at H
        replace H := tbe H
        obtain ⟨⟨t160, t161⟩, A28, H⟩ := H
        dsimp only at H
        obtain ⟨ji29, hji29⟩ : ∃ j_ : Int, (mx (wrap64 ((wrap64 (x9_1 + t160)) - 6)) 0) = j_ := ⟨_, rfl⟩
        replace H : (spec_l91Records.l0 kj12 (wrap64 ((wrap64 (x1_1 + 1)) + (wrap64 (Int.tdiv t158 4)))) y155 (wrap64 (1 + t133)) ji29 (wrap64 (x10_1 + 1)) s0_0 t161) = some (r1, r2) := by first | (rw [hji29] at H; exact H) | (simp only [hji29] at H ⊢; exact H)
        (try rw [hji29] at A25)
        (try rw [hji29] at A27)
        (try rw [hji29] at A28)
        have hji29_ : (if (wrap64 ((wrap64 (x9_1 + t160)) - 6)) < 0 then 0 else (wrap64 ((wrap64 (x9_1 + t160)) - 6))) = ji29 := hji29
        have H' := Aside0.mk H
        clear H
        go_wp2_with (first | ((with_reducible refine gate_callee (f := 33) rfl ?_); refine goesL_ (some 52) rfl rfl Tryd.func33 (by kernel_rfl) rfl #[.pointer (some ⟨g, 0, none⟩), .int .i64 3] rfl tq ?_; (with_reducible refine (spec_l6Rd_pick.calls kj12 g s0_0 x1001_12 3 t150 t151 w0 _ ?side1 ?side2 A25.out).mono ?_); (case side1 => exact zi88); (case side2 => exact zb); rintro e w30 ⟨rfl, hi, hb, hk⟩; refine ⟨_, rfl, ?_⟩; replace HO_7 := tSp88 HO_7 HI0 hk; replace HO_15 := tRp88 HO_15 HI0 hk; replace HO_138003 := tRp88 HO_138003 HI0 hk; replace BK137 := tBk BK137 hk NB137_0; replace HK := tKt HK hk; replace HB := Aside0.mk (hb); replace HI0 := Aside0.mk (hi); (try clear hb); (try clear hb2); (try clear hk); (try clear hi)) | ((with_reducible refine gate_dst (N := 53) rfl ?_); refine Kd.R_lit (Kd.int .i64) _ 3 ?hg (N := 53) ?hd (xs := ([t150] : List Int)) (inner := [.int .i64 t150]) (ok := fun _ => True) (okp := fun _ => True) ?hr ?hp (fun _ hk => hk) trivial (Below.refl _ _) (Nat.le_refl _) (by simp) ?_; (case hd => rfl); (case hg => rfl); (case hr => first | (go_simp; done) | (go_simp; rfl)); (case hp => exact (Reps.one (show Kd.M (Kd.int .i64) _ _ _ t150 [.int .i64 t150] from rfl) (Reps.none _ _))); intro v153 w31 ho32 hb hg_ hnew_; clear hg_ hnew_; (first | rw [← Ny152.out] at ho32 | (simp only [Int.reduceToNat] at ho32; rw [← Ny152.out] at ho32)); replace HO_7 := Aside0.mk (Kd.S_elder' (tS HO_7.out) (Kd.R_base ho32) hb); have HO154 := Aside0.mk (Kd.R_lower (Kd.R_new' (Kd.R_new' ho32 (Kd.R_lt (tR HO_15.out))) (Kd.R_lt (tR HO_138003.out))) (keep_size (w := w) (g := g) (row := none) zk)); replace HO_15 := Aside0.mk (Kd.R_elder' (tR HO_15.out) (Kd.R_base ho32) hb); replace HO_138003 := Aside0.mk (Kd.R_elder' (tR HO_138003.out) (Kd.R_base ho32) hb); replace BK137 := tBb BK137 hb; replace HI0 := tIb88 HI0 hb; replace HK := tKb HK hb; replace HB := tBs HB hb; clear hb ho32; obtain ⟨Ao33, co33, eo33⟩ := Kd.R_slice HO154.out; subst eo33; have hnb34 := NB137_0.out; have hnc34 := NB0_137.out; obtain ⟨hcz35_0, hcz35_1, hcz35_2, hcz35_3, hcz35_4, hcz35_5, hfz35_0, hfz35_1, hfz35_2, hfz35_3, hfz35_4, hfz35_5⟩ := cells6 BK137.out) | ((with_reducible refine gate_store (t := 31) (p := 54) rfl ?_); refine store_event (t := 31) (p := 54) (v := ?vo_w36) (w1 := (w31.setCell ⟨gb137, 3, none⟩ (.slice Ao33 y152.length co33))) ?hg ?ho ?hn ?hr ?_; (case ho => rfl); (case hg => rfl); (case hn => rfl); (case hr => first | (go_simp; done) | (go_simp; rfl)); intro w36 hw; have n0_ : Aside0 (Kd.S k33 33 w36 w.heap.size (fun k_ => some k_ ≠ (v145 : Value).ownBlock ∧ some k_ ≠ (.slice Ao20 t139.length co20 : Value).ownBlock ∧ some k_ ≠ (.slice Ao33 y152.length co33 : Value).ownBlock ∧ k_ ≠ gb137) u7 x7_1) := ⟨(by rw [hw]; exact (tSm HO_7.out))⟩; have n1_ : Aside0 (Kd.R (Kd.int .i64) 3 w36 w.heap.size (fun k_ => some k_ ≠ (.slice Ao20 t139.length co20 : Value).ownBlock ∧ some k_ ≠ (.slice Ao33 y152.length co33 : Value).ownBlock) v145 t144) := ⟨(by rw [hw]; exact (tRm (Kd.R_types HO_15.out BK137.out (by decide))))⟩; have n2_ : Aside0 (Kd.R (Kd.int .i64) 3 w36 w.heap.size (fun k_ => some k_ ≠ (v145 : Value).ownBlock ∧ some k_ ≠ (.slice Ao33 y152.length co33 : Value).ownBlock) (.slice Ao20 t139.length co20) t139) := ⟨(by rw [hw]; exact (tRm (Kd.R_types HO_138003.out BK137.out (by decide))))⟩; have n3_ : Aside0 (Kd.R (Kd.int .i64) 3 w36 w.heap.size (fun k_ => some k_ ≠ (v145 : Value).ownBlock ∧ some k_ ≠ (.slice Ao20 t139.length co20 : Value).ownBlock) (.slice Ao33 y152.length co33) y152) := ⟨(by rw [hw]; exact (tRm (Kd.R_types HO154.out BK137.out (by decide))))⟩; have n4_ : Aside0 (w36.heap[gb137]? = some (.cells #[.int .i64 x1_1, .int .i64 x9_1, .bool t138, .slice Ao33 y152.length co33, .bool false, .slice none 0 0] 33 (0, 0))) := ⟨(by rw [hw]; exact (tP BK137.out))⟩; have n5_ : Aside0 (IsS88 w0 w36 g s0_0 t151) := ⟨(by rw [hw]; exact zi88)⟩; have n6_ : Aside0 (KeepBut w w36 g none) := ⟨(by rw [hw]; exact zk)⟩; have n7_ : Aside0 (Below w0.heap.size w0 w36) := ⟨(by rw [hw]; exact zb)⟩; clear hw; clear HO_7; clear HO_15; clear HO_138003; clear HO154; clear BK137; clear HI0; clear HK; clear HB; have HO_7 := n0_; have HO_15 := n1_; have HO_138003 := n2_; have HO154 := n3_; have BK137 := n4_; have HI0 := n5_; have HK := n6_; have HB := n7_; clear n0_ n1_ n2_ n3_ n4_ n5_ n6_ n7_; obtain ⟨hcz37_0, hcz37_1, hcz37_2, hcz37_3, hcz37_4, hcz37_5, hfz37_0, hfz37_1, hfz37_2, hfz37_3, hfz37_4, hfz37_5⟩ := cells6 BK137.out) | ((with_reducible refine gate_store (t := 4) (p := 56) rfl ?_); refine store_event (t := 4) (p := 56) (v := ?vo_w38) (w1 := (w36.setCell ⟨gb137, 4, none⟩ (.bool t143))) ?hg ?ho ?hn ?hr ?_; (case ho => rfl); (case hg => rfl); (case hn => rfl); (case hr => first | (go_simp; done) | (go_simp; rfl)); intro w38 hw; have n0_ : Aside0 (Kd.S k33 33 w38 w.heap.size (fun k_ => some k_ ≠ (v145 : Value).ownBlock ∧ some k_ ≠ (.slice Ao20 t139.length co20 : Value).ownBlock ∧ some k_ ≠ (.slice Ao33 y152.length co33 : Value).ownBlock ∧ k_ ≠ gb137) u7 x7_1) := ⟨(by rw [hw]; exact (tSm HO_7.out))⟩; have n1_ : Aside0 (Kd.R (Kd.int .i64) 3 w38 w.heap.size (fun k_ => some k_ ≠ (.slice Ao20 t139.length co20 : Value).ownBlock ∧ some k_ ≠ (.slice Ao33 y152.length co33 : Value).ownBlock) v145 t144) := ⟨(by rw [hw]; exact (tRm (Kd.R_types HO_15.out BK137.out (by decide))))⟩; have n2_ : Aside0 (Kd.R (Kd.int .i64) 3 w38 w.heap.size (fun k_ => some k_ ≠ (v145 : Value).ownBlock ∧ some k_ ≠ (.slice Ao33 y152.length co33 : Value).ownBlock) (.slice Ao20 t139.length co20) t139) := ⟨(by rw [hw]; exact (tRm (Kd.R_types HO_138003.out BK137.out (by decide))))⟩; have n3_ : Aside0 (Kd.R (Kd.int .i64) 3 w38 w.heap.size (fun k_ => some k_ ≠ (v145 : Value).ownBlock ∧ some k_ ≠ (.slice Ao20 t139.length co20 : Value).ownBlock) (.slice Ao33 y152.length co33) y152) := ⟨(by rw [hw]; exact (tRm (Kd.R_types HO154.out BK137.out (by decide))))⟩; have n4_ : Aside0 (w38.heap[gb137]? = some (.cells #[.int .i64 x1_1, .int .i64 x9_1, .bool t138, .slice Ao33 y152.length co33, .bool t143, .slice none 0 0] 33 (0, 0))) := ⟨(by rw [hw]; exact (tP BK137.out))⟩; have n5_ : Aside0 (IsS88 w0 w38 g s0_0 t151) := ⟨(by rw [hw]; exact zi88)⟩; have n6_ : Aside0 (KeepBut w w38 g none) := ⟨(by rw [hw]; exact zk)⟩; have n7_ : Aside0 (Below w0.heap.size w0 w38) := ⟨(by rw [hw]; exact zb)⟩; clear hw; clear HO_7; clear HO_15; clear HO_138003; clear HO154; clear BK137; clear HI0; clear HK; clear HB; have HO_7 := n0_; have HO_15 := n1_; have HO_138003 := n2_; have HO154 := n3_; have BK137 := n4_; have HI0 := n5_; have HK := n6_; have HB := n7_; clear n0_ n1_ n2_ n3_ n4_ n5_ n6_ n7_; obtain ⟨Ao39, co39, eo39⟩ := Kd.R_slice HO_15.out; subst eo39; obtain ⟨hcz40_0, hcz40_1, hcz40_2, hcz40_3, hcz40_4, hcz40_5, hfz40_0, hfz40_1, hfz40_2, hfz40_3, hfz40_4, hfz40_5⟩ := cells6 BK137.out) | ((with_reducible refine gate_store (t := 31) (p := 58) rfl ?_); refine store_event (t := 31) (p := 58) (v := ?vo_w41) (w1 := (w38.setCell ⟨gb137, 5, none⟩ (.slice Ao39 t144.length co39))) ?hg ?ho ?hn ?hr ?_; (case ho => rfl); (case hg => rfl); (case hn => rfl); (case hr => first | (go_simp; done) | (go_simp; rfl)); intro w41 hw; have n0_ : Aside0 (Kd.S k33 33 w41 w.heap.size (fun k_ => some k_ ≠ (.slice Ao39 t144.length co39 : Value).ownBlock ∧ some k_ ≠ (.slice Ao20 t139.length co20 : Value).ownBlock ∧ some k_ ≠ (.slice Ao33 y152.length co33 : Value).ownBlock ∧ k_ ≠ gb137) u7 x7_1) := ⟨(by rw [hw]; exact (tSm HO_7.out))⟩; have n1_ : Aside0 (Kd.R (Kd.int .i64) 3 w41 w.heap.size (fun k_ => some k_ ≠ (.slice Ao20 t139.length co20 : Value).ownBlock ∧ some k_ ≠ (.slice Ao33 y152.length co33 : Value).ownBlock) (.slice Ao39 t144.length co39) t144) := ⟨(by rw [hw]; exact (tRm (Kd.R_types HO_15.out BK137.out (by decide))))⟩; have n2_ : Aside0 (Kd.R (Kd.int .i64) 3 w41 w.heap.size (fun k_ => some k_ ≠ (.slice Ao39 t144.length co39 : Value).ownBlock ∧ some k_ ≠ (.slice Ao33 y152.length co33 : Value).ownBlock) (.slice Ao20 t139.length co20) t139) := ⟨(by rw [hw]; exact (tRm (Kd.R_types HO_138003.out BK137.out (by decide))))⟩; have n3_ : Aside0 (Kd.R (Kd.int .i64) 3 w41 w.heap.size (fun k_ => some k_ ≠ (.slice Ao39 t144.length co39 : Value).ownBlock ∧ some k_ ≠ (.slice Ao20 t139.length co20 : Value).ownBlock) (.slice Ao33 y152.length co33) y152) := ⟨(by rw [hw]; exact (tRm (Kd.R_types HO154.out BK137.out (by decide))))⟩; have n4_ : Aside0 (w41.heap[gb137]? = some (.cells #[.int .i64 x1_1, .int .i64 x9_1, .bool t138, .slice Ao33 y152.length co33, .bool t143, .slice Ao39 t144.length co39] 33 (0, 0))) := ⟨(by rw [hw]; exact (tP BK137.out))⟩; have n5_ : Aside0 (IsS88 w0 w41 g s0_0 t151) := ⟨(by rw [hw]; exact zi88)⟩; have n6_ : Aside0 (KeepBut w w41 g none) := ⟨(by rw [hw]; exact zk)⟩; have n7_ : Aside0 (Below w0.heap.size w0 w41) := ⟨(by rw [hw]; exact zb)⟩; clear hw; clear HO_7; clear HO_15; clear HO_138003; clear HO154; clear BK137; clear HI0; clear HK; clear HB; have HO_7 := n0_; have HO_15 := n1_; have HO_138003 := n2_; have HO154 := n3_; have BK137 := n4_; have HI0 := n5_; have HK := n6_; have HB := n7_; clear n0_ n1_ n2_ n3_ n4_ n5_ n6_ n7_; obtain ⟨hcz42_0, hcz42_1, hcz42_2, hcz42_3, hcz42_4, hcz42_5, hfz42_0, hfz42_1, hfz42_2, hfz42_3, hfz42_4, hfz42_5⟩ := cells6 BK137.out) | ((with_reducible refine gate_builtin (b := .append) (xs := #[.tmp 59, .tmp 61]) rfl ?_); at_builtin; refine Kd.S_append k33 w.heap.size rfl (.tmp 59) (.tmp 61) 29 33 (.agg #[(.int .i64 0), (.int .i64 0), (.bool false), (.slice none 0 0), (.bool false), (.slice none 0 0)]) 80 rfl Tryd.underlying29 info33 rfl (by decide) (by omega) u7 x7_1 (⟨x1_1, x9_1, t138, y152, t143, t144⟩ : S33) [.int .i64 x1_1, .int .i64 x9_1, .bool t138, .slice Ao33 y152.length co33, .bool t143, .slice Ao39 t144.length co39] (fun k_ => some k_ ≠ (.slice Ao20 t139.length co20 : Value).ownBlock ∧ k_ ≠ gb137) (fun k_ => some k_ = (.slice Ao33 y152.length co33 : Value).ownBlock ∨ some k_ = (.slice Ao39 t144.length co39 : Value).ownBlock) rfl rfl ?aP (fun k_ hk_ => hk_.elim (fun h_ => ((Kd.R_mono (ok' := fun k_ => ((fun k_ => some k_ ≠ (.slice Ao20 t139.length co20 : Value).ownBlock ∧ k_ ≠ gb137)) k_ ∧ some k_ ≠ (u7 : Value).ownBlock) (Kd.R_types (Kd.R_apart' (HO154.out) (Kd.S_typed HO_7.out) (by decide)) BK137.out (by decide)) (fun k_ hk => ⟨⟨hk.1.1.2, hk.2⟩, hk.1.2⟩))).1 k_ h_.symm) (fun h_ => ((Kd.R_mono (ok' := fun k_ => ((fun k_ => some k_ ≠ (.slice Ao20 t139.length co20 : Value).ownBlock ∧ k_ ≠ gb137)) k_ ∧ some k_ ≠ (u7 : Value).ownBlock) (Kd.R_types (Kd.R_apart' (HO_15.out) (Kd.S_typed HO_7.out) (by decide)) BK137.out (by decide)) (fun k_ hk => ⟨⟨hk.1.1.1, hk.2⟩, hk.1.2⟩))).1 k_ h_.symm)) ?aF ?aO (Below.refl _ _) ?aS ?aL ?_; (case aP => exact k33_mkM _ _ _ (⟨x1_1, x9_1, t138, y152, t143, t144⟩ : S33) (Kd.R_mono (Kd.R_tight rfl (Kd.R_mono (ok' := fun k_ => ((fun k_ => some k_ ≠ (.slice Ao20 t139.length co20 : Value).ownBlock ∧ k_ ≠ gb137)) k_ ∧ some k_ ≠ (u7 : Value).ownBlock) (Kd.R_types (Kd.R_apart' (HO154.out) (Kd.S_typed HO_7.out) (by decide)) BK137.out (by decide)) (fun k_ hk => ⟨⟨hk.1.1.2, hk.2⟩, hk.1.2⟩))) (fun _ h_ => Or.inl h_)) (Kd.R_mono (Kd.R_tight rfl (Kd.R_mono (ok' := fun k_ => ((fun k_ => some k_ ≠ (.slice Ao20 t139.length co20 : Value).ownBlock ∧ k_ ≠ gb137)) k_ ∧ some k_ ≠ (u7 : Value).ownBlock) (Kd.R_types (Kd.R_apart' (HO_15.out) (Kd.S_typed HO_7.out) (by decide)) BK137.out (by decide)) (fun k_ hk => ⟨⟨hk.1.1.1, hk.2⟩, hk.1.2⟩))) (fun _ h_ => Or.inr (h_)))); (case aF => exact (fun k_ hk => ⟨Kd.fresh' (Kd.R_lt (tR HO_138003.out)) k_ hk, tfB BK137 k_ hk⟩)); (case aO => exact (tSm HO_7.out)); (case aS => exact (keep_size (w := w) (g := g) (row := none) zk)); (case aL => have := LMc26.out; omega); intro v156 w43 ho hb hg hat; rw [← Ny155.out] at ho; replace HO_138003 := Aside0.mk (Kd.R_over' (tR HO_138003.out) (Kd.S_typed (tS HO_7.out)) (by decide) hg); replace BK137 := Aside0.mk (blk_grown (tH BK137.out) hg (Kd.S_away HO_7.out (fun _ hk => hk.2.2.2))); replace HB := Aside0.mk (below_weaken zb HL.out hb); replace HI0 := Aside0.mk (IsS88.grown zi88 hg (IsS88.own_neS HI0.out HO_7.out (by decide))); replace HK := Aside0.mk (KeepBut.trans zk (KeepBut.of_grown hg g) (Kd.S_base2 HO_7.out)); have HO157 := Aside0.mk (ho); clear HO_7 HO154 HO_15; clear ho hb hg hat) | ((with_reducible refine gate_callee (f := 33) rfl ?_); refine goesL_ (some 66) rfl rfl Tryd.func33 (by kernel_rfl) rfl #[.pointer (some ⟨g, 0, none⟩), .int .i64 5] rfl tq ?_; (with_reducible refine (spec_l6Rd_pick.calls kj12 g s0_0 t151 5 t158 t159 w0 _ ?side1 ?side2 A27.out).mono ?_); (case side1 => exact zi88); (case side2 => exact zb); rintro e w44 ⟨rfl, hi, hb, hk⟩; refine ⟨_, rfl, ?_⟩; replace HO_138003 := tRp88 HO_138003 HI0 hk; replace BK137 := tBk BK137 hk NB137_0; replace HO157 := tSp88 HO157 HI0 hk; replace HK := tKt HK hk; replace HB := Aside0.mk (hb); replace HI0 := Aside0.mk (hi); (try clear hb); (try clear hb2); (try clear hk); (try clear hi)) | ((with_reducible refine gate_callee (f := 33) rfl ?_); refine goesL_ (some 71) rfl rfl Tryd.func33 (by kernel_rfl) rfl #[.pointer (some ⟨g, 0, none⟩), .int .i64 30] rfl tq ?_; (with_reducible refine (spec_l6Rd_pick.calls kj12 g s0_0 t159 30 t160 t161 w0 _ ?side1 ?side2 A28.out).mono ?_); (case side1 => exact zi88); (case side2 => exact zb); rintro e w45 ⟨rfl, hi, hb, hk⟩; refine ⟨_, rfl, ?_⟩; replace HO_138003 := tRp88 HO_138003 HI0 hk; replace BK137 := tBk BK137 hk NB137_0; replace HO157 := tSp88 HO157 HI0 hk; replace HK := tKt HK hk; replace HB := Aside0.mk (hb); replace HI0 := Aside0.mk (hi); (try clear hb); (try clear hb2); (try clear hk); (try clear hi)))
        go_roundg kj12
        case measure => have := HK1.out; have := HJ12.out; omega
        case rel => exact ⟨(wrap64 ((wrap64 (x1_1 + 1)) + (wrap64 (Int.tdiv t158 4)))), (y155), (ji29), (wrap64 (x10_1 + 1)), (t161), tr, (by first | rfl | (simp; done) | (simp only [← hji29] <;> (first | rfl | simp)) | (simp [*]; done)), tr, H', ⟨by have := HK1.out; have := HJ12.out; omega⟩, ⟨tSm HO157.out⟩, ⟨zi88⟩, ⟨zk⟩, ⟨zb⟩⟩
       ·rw [if_neg c26] at H
        exact absurd H (by simp)
      ·replace c24 := Bool.eq_false_iff.mpr c24
       subst c24
       rw [if_neg (show ¬ (false = true) by decide)] at H
       by_cases c46 : x7_1.length < 1759218604441
       ·rw [if_pos c46] at H
        have LMc46 := Aside0.mk c46
        clear c46
        obtain ⟨y162, hy162⟩ : ∃ y_ : List (S33), y_ = (x7_1 ++ [(⟨x1_1, x9_1, t138, t139, t143, t144⟩ : S33)]) := ⟨_, rfl⟩
        replace H : ((spec_l6Rd_pick.f kj12 s0_0 x1001_12 5).bind fun bt165 => ((spec_l6Rd_pick.f kj12 s0_0 bt165.2 30).bind fun bt167 => (spec_l91Records.l0 kj12 (wrap64 ((wrap64 (x1_1 + 1)) + (wrap64 (Int.tdiv bt165.1 4)))) y162 (wrap64 (1 + t133)) (mx (wrap64 ((wrap64 (x9_1 + bt167.1)) - 6)) 0) (wrap64 (x10_1 + 1)) s0_0 bt167.2))) = some (r1, r2) := by first | (rw [hy162]; with_reducible exact H) | (have H2_ := (Option.bind_some _ _).symm.trans H; rw [hy162]; with_reducible exact H2_) | (have H2_ := (Option.bind_some _ _).symm.trans H; with_reducible exact H2_) | with_reducible exact H | (rw [hy162]; exact H) | exact H
        have Ny162 := Aside0.mk hy162
        clear hy162
        replace H := tbe H
        obtain ⟨⟨t165, t166⟩, A47, H⟩ := H
        dsimp only at H
        replace H := tbe H
        obtain ⟨⟨t167, t168⟩, A48, H⟩ := H
        dsimp only at H
        obtain ⟨ji49, hji49⟩ : ∃ j_ : Int, (mx (wrap64 ((wrap64 (x9_1 + t167)) - 6)) 0) = j_ := ⟨_, rfl⟩
        replace H : (spec_l91Records.l0 kj12 (wrap64 ((wrap64 (x1_1 + 1)) + (wrap64 (Int.tdiv t165 4)))) y162 (wrap64 (1 + t133)) ji49 (wrap64 (x10_1 + 1)) s0_0 t168) = some (r1, r2) := by first | (rw [hji49] at H; exact H) | (simp only [hji49] at H ⊢; exact H)
        (try rw [hji49] at A47)
        (try rw [hji49] at A48)
        have hji49_ : (if (wrap64 ((wrap64 (x9_1 + t167)) - 6)) < 0 then 0 else (wrap64 ((wrap64 (x9_1 + t167)) - 6))) = ji49 := hji49
        have H' := Aside0.mk H
        clear H
        have hnb50 := NB137_0.out
        have hnc50 := NB0_137.out
        obtain ⟨hcz51_0, hcz51_1, hcz51_2, hcz51_3, hcz51_4, hcz51_5, hfz51_0, hfz51_1, hfz51_2, hfz51_3, hfz51_4, hfz51_5⟩ := cells6 BK137.out
        go_wp2_with (first | ((with_reducible refine gate_store (t := 4) (p := 56) rfl ?_); refine store_event (t := 4) (p := 56) (v := ?vo_w52) (w1 := (wc.setCell ⟨gb137, 4, none⟩ (.bool t143))) ?hg ?ho ?hn ?hr ?_; (case ho => rfl); (case hg => rfl); (case hn => rfl); (case hr => first | (go_simp; done) | (go_simp; rfl)); intro w52 hw; have n0_ : Aside0 (Kd.S k33 33 w52 w.heap.size (fun k_ => some k_ ≠ (v145 : Value).ownBlock ∧ some k_ ≠ (.slice Ao20 t139.length co20 : Value).ownBlock ∧ k_ ≠ gb137) u7 x7_1) := ⟨(by rw [hw]; exact (tSm HO_7.out))⟩; have n1_ : Aside0 (Kd.R (Kd.int .i64) 3 w52 w.heap.size (fun k_ => some k_ ≠ (.slice Ao20 t139.length co20 : Value).ownBlock) v145 t144) := ⟨(by rw [hw]; exact (tRm (Kd.R_types HO_15.out BK137.out (by decide))))⟩; have n2_ : Aside0 (Kd.R (Kd.int .i64) 3 w52 w.heap.size (fun k_ => some k_ ≠ (v145 : Value).ownBlock) (.slice Ao20 t139.length co20) t139) := ⟨(by rw [hw]; exact (tRm (Kd.R_types HO_138003.out BK137.out (by decide))))⟩; have n3_ : Aside0 (w52.heap[gb137]? = some (.cells #[.int .i64 x1_1, .int .i64 x9_1, .bool t138, .slice Ao20 t139.length co20, .bool t143, .slice none 0 0] 33 (0, 0))) := ⟨(by rw [hw]; exact (tP BK137.out))⟩; have n4_ : Aside0 (IsS88 w0 w52 g s0_0 x1001_12) := ⟨(by rw [hw]; exact zi88)⟩; have n5_ : Aside0 (KeepBut w w52 g none) := ⟨(by rw [hw]; exact zk)⟩; have n6_ : Aside0 (Below w0.heap.size w0 w52) := ⟨(by rw [hw]; exact zb)⟩; clear hw; clear HO_7; clear HO_15; clear HO_138003; clear BK137; clear HI0; clear HK; clear HB; have HO_7 := n0_; have HO_15 := n1_; have HO_138003 := n2_; have BK137 := n3_; have HI0 := n4_; have HK := n5_; have HB := n6_; clear n0_ n1_ n2_ n3_ n4_ n5_ n6_; obtain ⟨Ao53, co53, eo53⟩ := Kd.R_slice HO_15.out; subst eo53; obtain ⟨hcz54_0, hcz54_1, hcz54_2, hcz54_3, hcz54_4, hcz54_5, hfz54_0, hfz54_1, hfz54_2, hfz54_3, hfz54_4, hfz54_5⟩ := cells6 BK137.out) | ((with_reducible refine gate_store (t := 31) (p := 58) rfl ?_); refine store_event (t := 31) (p := 58) (v := ?vo_w55) (w1 := (w52.setCell ⟨gb137, 5, none⟩ (.slice Ao53 t144.length co53))) ?hg ?ho ?hn ?hr ?_; (case ho => rfl); (case hg => rfl); (case hn => rfl); (case hr => first | (go_simp; done) | (go_simp; rfl)); intro w55 hw; have n0_ : Aside0 (Kd.S k33 33 w55 w.heap.size (fun k_ => some k_ ≠ (.slice Ao53 t144.length co53 : Value).ownBlock ∧ some k_ ≠ (.slice Ao20 t139.length co20 : Value).ownBlock ∧ k_ ≠ gb137) u7 x7_1) := ⟨(by rw [hw]; exact (tSm HO_7.out))⟩; have n1_ : Aside0 (Kd.R (Kd.int .i64) 3 w55 w.heap.size (fun k_ => some k_ ≠ (.slice Ao20 t139.length co20 : Value).ownBlock) (.slice Ao53 t144.length co53) t144) := ⟨(by rw [hw]; exact (tRm (Kd.R_types HO_15.out BK137.out (by decide))))⟩; have n2_ : Aside0 (Kd.R (Kd.int .i64) 3 w55 w.heap.size (fun k_ => some k_ ≠ (.slice Ao53 t144.length co53 : Value).ownBlock) (.slice Ao20 t139.length co20) t139) := ⟨(by rw [hw]; exact (tRm (Kd.R_types HO_138003.out BK137.out (by decide))))⟩; have n3_ : Aside0 (w55.heap[gb137]? = some (.cells #[.int .i64 x1_1, .int .i64 x9_1, .bool t138, .slice Ao20 t139.length co20, .bool t143, .slice Ao53 t144.length co53] 33 (0, 0))) := ⟨(by rw [hw]; exact (tP BK137.out))⟩; have n4_ : Aside0 (IsS88 w0 w55 g s0_0 x1001_12) := ⟨(by rw [hw]; exact zi88)⟩; have n5_ : Aside0 (KeepBut w w55 g none) := ⟨(by rw [hw]; exact zk)⟩; have n6_ : Aside0 (Below w0.heap.size w0 w55) := ⟨(by rw [hw]; exact zb)⟩; clear hw; clear HO_7; clear HO_15; clear HO_138003; clear BK137; clear HI0; clear HK; clear HB; have HO_7 := n0_; have HO_15 := n1_; have HO_138003 := n2_; have BK137 := n3_; have HI0 := n4_; have HK := n5_; have HB := n6_; clear n0_ n1_ n2_ n3_ n4_ n5_ n6_; obtain ⟨hcz56_0, hcz56_1, hcz56_2, hcz56_3, hcz56_4, hcz56_5, hfz56_0, hfz56_1, hfz56_2, hfz56_3, hfz56_4, hfz56_5⟩ := cells6 BK137.out) | ((with_reducible refine gate_builtin (b := .append) (xs := #[.tmp 59, .tmp 61]) rfl ?_); at_builtin; refine Kd.S_append k33 w.heap.size rfl (.tmp 59) (.tmp 61) 29 33 (.agg #[(.int .i64 0), (.int .i64 0), (.bool false), (.slice none 0 0), (.bool false), (.slice none 0 0)]) 80 rfl Tryd.underlying29 info33 rfl (by decide) (by omega) u7 x7_1 (⟨x1_1, x9_1, t138, t139, t143, t144⟩ : S33) [.int .i64 x1_1, .int .i64 x9_1, .bool t138, .slice Ao20 t139.length co20, .bool t143, .slice Ao53 t144.length co53] (fun k_ => k_ ≠ gb137) (fun k_ => some k_ = (.slice Ao20 t139.length co20 : Value).ownBlock ∨ some k_ = (.slice Ao53 t144.length co53 : Value).ownBlock) rfl rfl ?aP (fun k_ hk_ => hk_.elim (fun h_ => ((Kd.R_mono (ok' := fun k_ => ((fun k_ => k_ ≠ gb137)) k_ ∧ some k_ ≠ (u7 : Value).ownBlock) (Kd.R_types (Kd.R_apart' (HO_138003.out) (Kd.S_typed HO_7.out) (by decide)) BK137.out (by decide)) (fun k_ hk => ⟨hk.2, hk.1.2⟩))).1 k_ h_.symm) (fun h_ => ((Kd.R_mono (ok' := fun k_ => ((fun k_ => k_ ≠ gb137)) k_ ∧ some k_ ≠ (u7 : Value).ownBlock) (Kd.R_types (Kd.R_apart' (HO_15.out) (Kd.S_typed HO_7.out) (by decide)) BK137.out (by decide)) (fun k_ hk => ⟨hk.2, hk.1.2⟩))).1 k_ h_.symm)) ?aF ?aO (Below.refl _ _) ?aS ?aL ?_; (case aP => exact k33_mkM _ _ _ (⟨x1_1, x9_1, t138, t139, t143, t144⟩ : S33) (Kd.R_mono (Kd.R_tight rfl (Kd.R_mono (ok' := fun k_ => ((fun k_ => k_ ≠ gb137)) k_ ∧ some k_ ≠ (u7 : Value).ownBlock) (Kd.R_types (Kd.R_apart' (HO_138003.out) (Kd.S_typed HO_7.out) (by decide)) BK137.out (by decide)) (fun k_ hk => ⟨hk.2, hk.1.2⟩))) (fun _ h_ => Or.inl h_)) (Kd.R_mono (Kd.R_tight rfl (Kd.R_mono (ok' := fun k_ => ((fun k_ => k_ ≠ gb137)) k_ ∧ some k_ ≠ (u7 : Value).ownBlock) (Kd.R_types (Kd.R_apart' (HO_15.out) (Kd.S_typed HO_7.out) (by decide)) BK137.out (by decide)) (fun k_ hk => ⟨hk.2, hk.1.2⟩))) (fun _ h_ => Or.inr (h_)))); (case aF => exact (fun k_ hk => tfB BK137 k_ hk)); (case aO => exact (tSm HO_7.out)); (case aS => exact (keep_size (w := w) (g := g) (row := none) zk)); (case aL => have := LMc46.out; omega); intro v163 w57 ho hb hg hat; rw [← Ny162.out] at ho; replace BK137 := Aside0.mk (blk_grown (tH BK137.out) hg (Kd.S_away HO_7.out (fun _ hk => hk.2.2))); replace HB := Aside0.mk (below_weaken zb HL.out hb); replace HI0 := Aside0.mk (IsS88.grown zi88 hg (IsS88.own_neS HI0.out HO_7.out (by decide))); replace HK := Aside0.mk (KeepBut.trans zk (KeepBut.of_grown hg g) (Kd.S_base2 HO_7.out)); have HO164 := Aside0.mk (ho); clear HO_7 HO_138003 HO_15; clear ho hb hg hat) | ((with_reducible refine gate_callee (f := 33) rfl ?_); refine goesL_ (some 66) rfl rfl Tryd.func33 (by kernel_rfl) rfl #[.pointer (some ⟨g, 0, none⟩), .int .i64 5] rfl tq ?_; (with_reducible refine (spec_l6Rd_pick.calls kj12 g s0_0 x1001_12 5 t165 t166 w0 _ ?side1 ?side2 A47.out).mono ?_); (case side1 => exact zi88); (case side2 => exact zb); rintro e w58 ⟨rfl, hi, hb, hk⟩; refine ⟨_, rfl, ?_⟩; replace BK137 := tBk BK137 hk NB137_0; replace HO164 := tSp88 HO164 HI0 hk; replace HK := tKt HK hk; replace HB := Aside0.mk (hb); replace HI0 := Aside0.mk (hi); (try clear hb); (try clear hb2); (try clear hk); (try clear hi)) | ((with_reducible refine gate_callee (f := 33) rfl ?_); refine goesL_ (some 71) rfl rfl Tryd.func33 (by kernel_rfl) rfl #[.pointer (some ⟨g, 0, none⟩), .int .i64 30] rfl tq ?_; (with_reducible refine (spec_l6Rd_pick.calls kj12 g s0_0 t166 30 t167 t168 w0 _ ?side1 ?side2 A48.out).mono ?_); (case side1 => exact zi88); (case side2 => exact zb); rintro e w59 ⟨rfl, hi, hb, hk⟩; refine ⟨_, rfl, ?_⟩; replace BK137 := tBk BK137 hk NB137_0; replace HO164 := tSp88 HO164 HI0 hk; replace HK := tKt HK hk; replace HB := Aside0.mk (hb); replace HI0 := Aside0.mk (hi); (try clear hb); (try clear hb2); (try clear hk); (try clear hi)))
        go_roundg kj12
        case measure => have := HK1.out; have := HJ12.out; omega
        case rel => exact ⟨(wrap64 ((wrap64 (x1_1 + 1)) + (wrap64 (Int.tdiv t165 4)))), (y162), (ji49), (wrap64 (x10_1 + 1)), (t168), tr, (by first | rfl | (simp; done) | (simp only [← hji49] <;> (first | rfl | simp)) | (simp [*]; done)), tr, H', ⟨by have := HK1.out; have := HJ12.out; omega⟩, ⟨tSm HO164.out⟩, ⟨zi88⟩, ⟨zk⟩, ⟨zb⟩⟩
       ·rw [if_neg c46] at H
        exact absurd H (by simp)
   ·rw [if_neg c10] at H
    have c10b0 : decide (x10_1 < (wrap64 (1 + t133))) = false := decide_eq_false c10
    clear c10
    simp only [Option.some.injEq, Prod.mk.injEq] at H
    obtain ⟨rfl, rfl⟩ := H
    go_wp2
    go_ret
    exact ⟨_, by first | rfl | (simp [errW_none, errW_some] <;> rfl) | (simp [*, errW_none, errW_some] <;> rfl), tS HO_7.out, zi88, zb, zk⟩

end Go.Proofs.YtbbboachakkgiaaDoor.G

namespace Go.Proofs.YtbbboachakkgiaaDoor.G
open Go.RowKit Go.Proofs.YtbbboachakkgiaaDoorW.PrintWords Go.Proofs.YtbbboachakkgiaaDoorW.PrintLast Go.Proofs.YtbbboachakkgiaaDoorW.PrintMore
attribute [local go_sem] max2_int min2_int max_two min_two max_three min_three max_four min_four   -- for this text's walks alone
set_option linter.unusedVariables false
set_option linter.unusedSimpArgs false

def spec_l91Batch.j0 : Nat → List Int → Int → Bool → Bool → Int → Int → Int → List (S33) → Option (Bool × Bool × Int × Int × Int × (List (S33)) × Int)
 | 0, _, _, _, _, _, _, _, _ => none
 | k + 1, x1000, x1001, x177000, x177001, x177002, x177003, x177004, x177005 => (spec_l6Rd_pick.f k x1000 x1001 40).bind fun bt200 => (if bt200.1 = 0 then ((some (([(-1), 1, 100] : List Int) : List Int)).bind fun y202 => ((spec_l6Rd_pick.f k x1000 bt200.2 3).bind fun bt205 => (if 0 ≤ bt205.1 then (if bt205.1 < (y202.length : Int) then (some (x177000, x177001, x177002, rd y202 bt205.1, x177004, x177005, bt205.2)) else (none)) else (none)))) else (if bt200.1 = 1 then (if 0 < (x177005.length : Int) then (if x177005.length < 1759218604441 then (some (x177000, x177001, x177002, x177003, x177004, (x177005 ++ [(⟨(rd_T33 x177005 0).f0, (rd_T33 x177005 0).f1, (rd_T33 x177005 0).f2, (rd_T33 x177005 0).f3, (rd_T33 x177005 0).f4, (rd_T33 x177005 0).f5⟩ : S33)]), bt200.2)) else (none)) else (none)) else (if bt200.1 = 2 then (some (x177000, !x177001, x177002, x177003, x177004, x177005, bt200.2)) else (some (x177000, x177001, x177002, x177003, x177004, x177005, bt200.2)))))
def spec_l91Batch.f (k : Nat) (s0_0 : List Int) (s0_1 : Int) (a1 : Int) : Option (Bool × Bool × Int × Int × Int × (List (S33)) × Int) := (spec_l6Rd_pick.f k s0_0 s0_1 2).bind fun bt170 => ((spec_l91Records.f k s0_0 bt170.2 a1 4).bind fun bt172 => ((spec_l6Rd_pick.f k s0_0 bt172.2 3).bind fun bt177 => (if bt177.1 = 0 then ((spec_l6Rd_pick.f k s0_0 bt177.2 3).bind fun bt179 => ((spec_l6Rd_pick.f k s0_0 bt179.2 3).bind fun bt181 => ((spec_l6Rd_pick.f k s0_0 bt181.2 5).bind fun bt183 => ((spec_l6Rd_pick.f k s0_0 bt183.2 3).bind fun bt185 => (if bt185.1 = 0 then ((spec_l6Rd_pick.f k s0_0 bt185.2 200).bind fun bt187 => ((spec_l6Rd_pick.f k s0_0 bt187.2 2).bind fun bt192 => (spec_l91Batch.j0 k s0_0 bt192.2 (bt170.1 == 0) true bt179.1 bt181.1 bt183.1 (([(⟨a1, bt187.1, false, (([] : List Int)), true, (([bt192.1] : List Int))⟩ : S33)] : List (S33)))))) else (spec_l91Batch.j0 k s0_0 bt185.2 (bt170.1 == 0) false bt179.1 bt181.1 bt183.1 bt172.1)))))) else (spec_l91Batch.j0 k s0_0 bt177.2 (bt170.1 == 0) false 255 0 0 bt172.1))))
def spec_l91Batch.T13 : Bool × List (List Nat × List Nat) := (true, [([], []), ([0], [0]), ([], []), ([2], [2]), ([3], [3]), ([4], [4]), ([5], [5]), ([1, 6], [1, 6]), ([0, 1, 2, 3, 4, 5, 6, 7], []), ([8, 7, 7, 0, 1, 2, 3, 4, 5, 6, 7], [7, 8])])
def spec_l91Batch.B13 : List Nat := [0, 1, 0, 4, 12, 28, 60, 127, 255, 511]
theorem spec_l91Batch.tab13 : rtab .any (opsOf Tryd.f58 13) = spec_l91Batch.T13 := by kernel_rfl
theorem spec_l91Batch.bits13 : waitsOk spec_l91Batch.T13.2 spec_l91Batch.B13 = true := by kernel_rfl
set_option maxHeartbeats 8000000 in
set_option maxRecDepth 100000 in
theorem spec_l91Batch.calls (k : Nat) (g : Nat) (s0_0 : List Int) (s0_1 : Int) (a1 : Int) (r1 : Bool) (r2 : Bool) (r3 : Int) (r4 : Int) (r5 : Int) (r6 : List (S33)) (r7 : Int) (w0 w : World) (hI : IsS88 w0 w g s0_0 s0_1) (hB : Below w0.heap.size w0 w) (h : spec_l91Batch.f k s0_0 s0_1 a1 = some (r1, r2, r3, r4, r5, r6, r7)) :
  Calls Tryd.prog 58 #[.pointer (some ⟨g, 0, none⟩), .int .i64 a1] w fun e w' => ∃ v5_ : Value, e = .returned (.agg #[.bool r1, .bool r2, .int .i64 r3, .int .i64 r4, .int .i64 r5, v5_]) ∧ Kd.N k33 33 w' w.heap.size (fun k_ => (w.heap.size ≤ k_)) v5_ r6 ∧ IsS88 w0 w' g s0_0 r7 ∧ Below w0.heap.size w0 w' ∧ KeepBut w w' g none := by
 have hu47 := Tryd.underlying47
 have hu33 := Tryd.underlying33
 have HI0 := Aside0.mk hI
 have HK := Aside0.mk (KeepBut.refl w g none)
 have HL := Aside0.mk hB.size
 clear hI
 have HW0 := Aside0.mk hB.size
 have HB := Aside0.mk hB
 clear hB
 have H : ((spec_l6Rd_pick.f k s0_0 s0_1 2).bind fun bt170 => ((spec_l91Records.f k s0_0 bt170.2 a1 4).bind fun bt172 => ((spec_l6Rd_pick.f k s0_0 bt172.2 3).bind fun bt177 => (if bt177.1 = 0 then ((spec_l6Rd_pick.f k s0_0 bt177.2 3).bind fun bt179 => ((spec_l6Rd_pick.f k s0_0 bt179.2 3).bind fun bt181 => ((spec_l6Rd_pick.f k s0_0 bt181.2 5).bind fun bt183 => ((spec_l6Rd_pick.f k s0_0 bt183.2 3).bind fun bt185 => (if bt185.1 = 0 then ((spec_l6Rd_pick.f k s0_0 bt185.2 200).bind fun bt187 => ((spec_l6Rd_pick.f k s0_0 bt187.2 2).bind fun bt192 => (spec_l91Batch.j0 k s0_0 bt192.2 (bt170.1 == 0) true bt179.1 bt181.1 bt183.1 (([(⟨a1, bt187.1, false, (([] : List Int)), true, (([bt192.1] : List Int))⟩ : S33)] : List (S33)))))) else (spec_l91Batch.j0 k s0_0 bt185.2 (bt170.1 == 0) false bt179.1 bt181.1 bt183.1 bt172.1)))))) else (spec_l91Batch.j0 k s0_0 bt177.2 (bt170.1 == 0) false 255 0 0 bt172.1))))) = some (r1, r2, r3, r4, r5, r6, r7) := h
 clear h
 replace H := tbe H
 obtain ⟨⟨t170, t171⟩, A3, H⟩ := H
 dsimp only at H
 replace H := tbe H
 obtain ⟨⟨t172, t175⟩, A4, H⟩ := H
 dsimp only at H
 replace H := tbe H
 obtain ⟨⟨t177, t178⟩, A5, H⟩ := H
 dsimp only at H
 have HC6 := Aside0.mk H
 clear H
 go_enter Tryd.func58, Tryd.ntmps58
 go_upto_if 15 with (first | ((with_reducible refine gate_dst (N := 4) rfl ?_); refine box_event ?hg (N := 4) ?hd (cs := #[.bool false, .bool false, .int .i64 0, .int .i64 0, .int .i64 0, .slice none 0 0]) (t := 47) ?hr ?_; (case hd => rfl); (case hg => rfl); (case hr => first | (go_simp; done) | (go_simp; rfl)); intro gb169 hg w7 hbox hb; replace HB := tBs HB hb; have BK169 := Aside0.mk (hbox); have GW169 := Aside0.mk ((by rw [hg]; exact (keep_size (w := w) (g := g) (row := none) zk) : w.heap.size ≤ gb169)); have GE169 := Aside0.mk ((Nat.le_trans HW0.out (by rw [hg]; exact (keep_size (w := w) (g := g) (row := none) zk) : w.heap.size ≤ gb169) : w0.heap.size ≤ gb169)); replace HK := tKb HK hb; have NB0_169 := Aside0.mk ((by rw [hg]; exact Nat.ne_of_lt (IsS88.lt (show IsS88 w0 _ g s0_0 s0_1 from zi88)) : g ≠ gb169)); have NB169_0 := Aside0.mk ((by rw [hg]; exact Nat.ne_of_gt (IsS88.lt (show IsS88 w0 _ g s0_0 s0_1 from zi88)) : gb169 ≠ g)); replace HI0 := tIb88 HI0 hb; clear hb hbox hg) | ((with_reducible refine gate_callee (f := 33) rfl ?_); refine goesL_ (some 7) rfl rfl Tryd.func33 (by kernel_rfl) rfl #[.pointer (some ⟨g, 0, none⟩), .int .i64 2] rfl tq ?_; (with_reducible refine (spec_l6Rd_pick.calls k g s0_0 s0_1 2 t170 t171 w0 _ ?side1 ?side2 A3.out).mono ?_); (case side1 => exact zi88); (case side2 => exact zb); rintro e w8 ⟨rfl, hi, hb, hk⟩; refine ⟨_, rfl, ?_⟩; replace BK169 := tBk BK169 hk NB169_0; replace HK := tKt HK hk; replace HB := Aside0.mk (hb); replace HI0 := Aside0.mk (hi); (try clear hb); (try clear hb2); (try clear hk); (try clear hi)) | ((with_reducible refine gate_callee (f := 60) rfl ?_); refine goesL_ (some 11) rfl rfl Tryd.func60 (by kernel_rfl) rfl #[.pointer (some ⟨g, 0, none⟩), .int .i64 a1, .int .i64 4] rfl tq ?_; (with_reducible refine (spec_l91Records.calls k g s0_0 t171 a1 4 t172 t175 w0 _ ?side1 ?side2 A4.out).mono ?_); (case side1 => exact zi88); (case side2 => exact zb); rintro e w9 ⟨v173, rfl, ho0, hi, hb, hk⟩; have u_v173 := tsv Tryd.prog v173 ho0; refine ⟨_, rfl, ?_⟩; have HO174 := Aside0.mk (Kd.N_lower (Kd.N_mono (ok' := fun k_ => (w.heap.size ≤ k_) ∧ k_ ≠ gb169 ∧ k_ ≠ g) (Kd.S_N (Kd.S_bound ho0)) (fun k_ hk_ => ⟨(Nat.le_trans (keep_size (w := w) (g := g) (row := none) zk) hk_.2.1), (tfB BK169 k_ hk_.2.1), (IsS88.fresh zi88 k_ hk_.2.1)⟩)) (keep_size (w := w) (g := g) (row := none) zk)); replace BK169 := tBk BK169 hk NB169_0; replace HK := tKt HK hk; replace HB := Aside0.mk (hb); replace HI0 := Aside0.mk (hi); (try clear hb); (try clear hb2); (try clear hk); (try clear hi); (try clear ho0); obtain ⟨Ao10, co10, eo10⟩ := Kd.N_slice HO174.out; subst eo10) | ((with_reducible refine gate_dst (N := 5) rfl ?_); refine box_event ?hg (N := 5) ?hd (cs := #[.bool false, .bool false, .int .i64 0, .int .i64 0, .int .i64 0, .slice none 0 0]) (t := 47) ?hr ?_; (case hd => rfl); (case hg => rfl); (case hr => first | (go_simp; done) | (go_simp; rfl)); intro gb176 hg w11 hbox hb; replace HO174 := tNB HO174 hg hb; replace HB := tBs HB hb; have BK176 := Aside0.mk (hbox); have GW176 := Aside0.mk ((by rw [hg]; exact (keep_size (w := w) (g := g) (row := none) zk) : w.heap.size ≤ gb176)); have GE176 := Aside0.mk ((Nat.le_trans HW0.out (by rw [hg]; exact (keep_size (w := w) (g := g) (row := none) zk) : w.heap.size ≤ gb176) : w0.heap.size ≤ gb176)); replace HK := tKb HK hb; have NB169_176 := tlt BK169 hg; have NB176_169 := tgt BK169 hg; replace BK169 := tBb BK169 hb; have NB0_176 := Aside0.mk ((by rw [hg]; exact Nat.ne_of_lt (IsS88.lt (show IsS88 w0 _ g s0_0 t175 from zi88)) : g ≠ gb176)); have NB176_0 := Aside0.mk ((by rw [hg]; exact Nat.ne_of_gt (IsS88.lt (show IsS88 w0 _ g s0_0 t175 from zi88)) : gb176 ≠ g)); replace HI0 := tIb88 HI0 hb; clear hb hbox hg; have hnb12 := NB176_169.out; have hnc12 := NB169_176.out; have hnb13 := NB176_0.out; have hnc13 := NB0_176.out; obtain ⟨hcz14_0, hcz14_1, hcz14_2, hcz14_3, hcz14_4, hcz14_5, hfz14_0, hfz14_1, hfz14_2, hfz14_3, hfz14_4, hfz14_5⟩ := cells6 BK176.out) | ((with_reducible refine gate_callee (f := 33) rfl ?_); refine goesL_ (some 14) rfl rfl Tryd.func33 (by kernel_rfl) rfl #[.pointer (some ⟨g, 0, none⟩), .int .i64 3] rfl tq ?_; (with_reducible refine (spec_l6Rd_pick.calls k g s0_0 t175 3 t177 t178 w0 _ ?side1 ?side2 A5.out).mono ?_); (case side1 => exact zi88); (case side2 => exact zb); rintro e w15 ⟨rfl, hi, hb, hk⟩; refine ⟨_, rfl, ?_⟩; replace BK169 := tBk BK169 hk NB169_0; replace HO174 := tNk HO174 hk; replace BK176 := tBq (o' := .cells #[.bool (t170 == 0), .bool false, .int .i64 255, .int .i64 0, .int .i64 0, .slice Ao10 t172.length co10] 47 (0, 0)) BK176 hk NB176_0; replace HK := tKt HK hk; replace HB := Aside0.mk (hb); replace HI0 := Aside0.mk (hi); (try clear hb); (try clear hb2); (try clear hk); (try clear hi)))
 (try simp only [Act.put, List.setIfInBounds_toArray, List.set_cons_zero, List.set_cons_succ])
 go_cut [] (fun wc => ∃ (kq : Nat) (x1001_5 : Int) (x177001_5 : Bool) (x177002_5 : Int) (x177003_5 : Int) (x177004_5 : Int) (x177005_5 : List (S33)) (u177005 : Value), Aside0 (spec_l91Batch.j0 kq s0_0 x1001_5 (t170 == 0) x177001_5 x177002_5 x177003_5 x177004_5 x177005_5 = some (r1, r2, r3, r4, r5, r6, r7)) ∧ Aside0 (kq ≤ k) ∧ Aside0 (Kd.N k33 33 wc w.heap.size (fun k_ => (w.heap.size ≤ k_) ∧ k_ ≠ gb169 ∧ k_ ≠ gb176 ∧ k_ ≠ g) u177005 x177005_5) ∧ Aside0 (wc.heap[gb169]? = some (.cells #[.bool false, .bool false, .int .i64 0, .int .i64 0, .int .i64 0, (.slice none 0 0)] 47 (0, 0))) ∧ Aside0 (wc.heap[gb176]? = some (.cells #[.bool (t170 == 0), .bool x177001_5, .int .i64 x177002_5, .int .i64 x177003_5, .int .i64 x177004_5, u177005] 47 (0, 0))) ∧ Aside0 (IsS88 w0 wc g s0_0 x1001_5) ∧ Aside0 (KeepBut w wc g none) ∧ Aside0 (Below w0.heap.size w0 wc))
 case first =>
  have H := HC6.out
  clear HC6
  by_cases c16 : t177 = 0
  ·rw [if_pos c16] at H
   have c16b0 : (t177 == 0) = true := beq_iff_eq.mpr c16
   have c16b1 : (t177 != 0) = false := bne_eq_false_iff_eq.mpr c16
   clear c16
   (first | rw [c16b0] | (simp only [i64_w, i32_w]; rw [c16b0]) | skip)
   replace H := tbe H
   obtain ⟨⟨t179, t180⟩, A17, H⟩ := H
   dsimp only at H
   replace H := tbe H
   obtain ⟨⟨t181, t182⟩, A18, H⟩ := H
   dsimp only at H
   replace H := tbe H
   obtain ⟨⟨t183, t184⟩, A19, H⟩ := H
   dsimp only at H
   replace H := tbe H
   obtain ⟨⟨t185, t186⟩, A20, H⟩ := H
   dsimp only at H
   by_cases c21 : t185 = 0
   ·rw [if_pos c21] at H
    have c21b0 : (t185 == 0) = true := beq_iff_eq.mpr c21
    have c21b1 : (t185 != 0) = false := bne_eq_false_iff_eq.mpr c21
    clear c21
    replace H := tbe H
    obtain ⟨⟨t187, t188⟩, A22, H⟩ := H
    dsimp only at H
    obtain ⟨y189, hy189⟩ : ∃ y_ : List Int, y_ = (([] : List Int)) := ⟨_, rfl⟩
    replace H : ((spec_l6Rd_pick.f k s0_0 t188 2).bind fun bt192 => (spec_l91Batch.j0 k s0_0 bt192.2 (t170 == 0) true t179 t181 t183 (([(⟨a1, t187, false, y189, true, (([bt192.1] : List Int))⟩ : S33)] : List (S33))))) = some (r1, r2, r3, r4, r5, r6, r7) := by first | (rw [hy189]; with_reducible exact H) | (have H2_ := (Option.bind_some _ _).symm.trans H; rw [hy189]; with_reducible exact H2_) | (have H2_ := (Option.bind_some _ _).symm.trans H; with_reducible exact H2_) | with_reducible exact H | (rw [hy189]; exact H) | exact H
    have Ny189 := Aside0.mk hy189
    clear hy189
    replace H := tbe H
    obtain ⟨⟨t192, t193⟩, A23, H⟩ := H
    dsimp only at H
    obtain ⟨y194, hy194⟩ : ∃ y_ : List Int, y_ = (([t192] : List Int)) := ⟨_, rfl⟩
    replace H : (spec_l91Batch.j0 k s0_0 t193 (t170 == 0) true t179 t181 t183 (([(⟨a1, t187, false, y189, true, y194⟩ : S33)] : List (S33)))) = some (r1, r2, r3, r4, r5, r6, r7) := by first | (rw [hy194]; with_reducible exact H) | (have H2_ := (Option.bind_some _ _).symm.trans H; rw [hy194]; with_reducible exact H2_) | (have H2_ := (Option.bind_some _ _).symm.trans H; with_reducible exact H2_) | with_reducible exact H | (rw [hy194]; exact H) | exact H
    have Ny194 := Aside0.mk hy194
    clear hy194
    obtain ⟨y197, hy197⟩ : ∃ y_ : List (S33), y_ = (([(⟨a1, t187, false, y189, true, y194⟩ : S33)] : List (S33))) := ⟨_, rfl⟩
    replace H : (spec_l91Batch.j0 k s0_0 t193 (t170 == 0) true t179 t181 t183 y197) = some (r1, r2, r3, r4, r5, r6, r7) := by first | (rw [hy197]; with_reducible exact H) | (have H2_ := (Option.bind_some _ _).symm.trans H; rw [hy197]; with_reducible exact H2_) | (have H2_ := (Option.bind_some _ _).symm.trans H; with_reducible exact H2_) | with_reducible exact H | (rw [hy197]; exact H) | exact H
    have Ny197 := Aside0.mk hy197
    clear hy197
    have H' := Aside0.mk H
    clear H
    go_wp2_with (first | ((with_reducible refine gate_callee (f := 33) rfl ?_); refine goesL_ (some 17) rfl rfl Tryd.func33 (by kernel_rfl) rfl #[.pointer (some ⟨g, 0, none⟩), .int .i64 3] rfl tq ?_; (with_reducible refine (spec_l6Rd_pick.calls k g s0_0 t178 3 t179 t180 w0 _ ?side1 ?side2 A17.out).mono ?_); (case side1 => exact zi88); (case side2 => exact zb); rintro e w24 ⟨rfl, hi, hb, hk⟩; refine ⟨_, rfl, ?_⟩; replace BK169 := tBk BK169 hk NB169_0; replace HO174 := tNk HO174 hk; replace BK176 := tBk BK176 hk NB176_0; replace HK := tKt HK hk; replace HB := Aside0.mk (hb); replace HI0 := Aside0.mk (hi); (try clear hb); (try clear hb2); (try clear hk); (try clear hi); have hnb25 := NB176_169.out; have hnc25 := NB169_176.out; have hnb26 := NB176_0.out; have hnc26 := NB0_176.out; obtain ⟨hcz27_0, hcz27_1, hcz27_2, hcz27_3, hcz27_4, hcz27_5, hfz27_0, hfz27_1, hfz27_2, hfz27_3, hfz27_4, hfz27_5⟩ := cells6 BK176.out) | ((with_reducible refine gate_callee (f := 33) rfl ?_); refine goesL_ (some 20) rfl rfl Tryd.func33 (by kernel_rfl) rfl #[.pointer (some ⟨g, 0, none⟩), .int .i64 3] rfl tq ?_; (with_reducible refine (spec_l6Rd_pick.calls k g s0_0 t180 3 t181 t182 w0 _ ?side1 ?side2 A18.out).mono ?_); (case side1 => exact zi88); (case side2 => exact zb); rintro e w28 ⟨rfl, hi, hb, hk⟩; refine ⟨_, rfl, ?_⟩; replace BK169 := tBk BK169 hk NB169_0; replace HO174 := tNk HO174 hk; replace BK176 := tBq (o' := .cells #[.bool (t170 == 0), .bool false, .int .i64 t179, .int .i64 0, .int .i64 0, .slice Ao10 t172.length co10] 47 (0, 0)) BK176 hk NB176_0; replace HK := tKt HK hk; replace HB := Aside0.mk (hb); replace HI0 := Aside0.mk (hi); (try clear hb); (try clear hb2); (try clear hk); (try clear hi); obtain ⟨hcz29_0, hcz29_1, hcz29_2, hcz29_3, hcz29_4, hcz29_5, hfz29_0, hfz29_1, hfz29_2, hfz29_3, hfz29_4, hfz29_5⟩ := cells6 BK176.out) | ((with_reducible refine gate_callee (f := 33) rfl ?_); refine goesL_ (some 23) rfl rfl Tryd.func33 (by kernel_rfl) rfl #[.pointer (some ⟨g, 0, none⟩), .int .i64 5] rfl tq ?_; (with_reducible refine (spec_l6Rd_pick.calls k g s0_0 t182 5 t183 t184 w0 _ ?side1 ?side2 A19.out).mono ?_); (case side1 => exact zi88); (case side2 => exact zb); rintro e w30 ⟨rfl, hi, hb, hk⟩; refine ⟨_, rfl, ?_⟩; replace BK169 := tBk BK169 hk NB169_0; replace HO174 := tNk HO174 hk; replace BK176 := tBq (o' := .cells #[.bool (t170 == 0), .bool false, .int .i64 t179, .int .i64 t181, .int .i64 0, .slice Ao10 t172.length co10] 47 (0, 0)) BK176 hk NB176_0; replace HK := tKt HK hk; replace HB := Aside0.mk (hb); replace HI0 := Aside0.mk (hi); (try clear hb); (try clear hb2); (try clear hk); (try clear hi); obtain ⟨hcz31_0, hcz31_1, hcz31_2, hcz31_3, hcz31_4, hcz31_5, hfz31_0, hfz31_1, hfz31_2, hfz31_3, hfz31_4, hfz31_5⟩ := cells6 BK176.out) | ((with_reducible refine gate_callee (f := 33) rfl ?_); refine goesL_ (some 26) rfl rfl Tryd.func33 (by kernel_rfl) rfl #[.pointer (some ⟨g, 0, none⟩), .int .i64 3] rfl tq ?_; (with_reducible refine (spec_l6Rd_pick.calls k g s0_0 t184 3 t185 t186 w0 _ ?side1 ?side2 A20.out).mono ?_); (case side1 => exact zi88); (case side2 => exact zb); rintro e w32 ⟨rfl, hi, hb, hk⟩; refine ⟨_, rfl, ?_⟩; replace BK169 := tBk BK169 hk NB169_0; replace HO174 := tNk HO174 hk; replace BK176 := tBq (o' := .cells #[.bool (t170 == 0), .bool false, .int .i64 t179, .int .i64 t181, .int .i64 t183, .slice Ao10 t172.length co10] 47 (0, 0)) BK176 hk NB176_0; replace HK := tKt HK hk; replace HB := Aside0.mk (hb); replace HI0 := Aside0.mk (hi); (try clear hb); (try clear hb2); (try clear hk); (try clear hi); obtain ⟨hcz33_0, hcz33_1, hcz33_2, hcz33_3, hcz33_4, hcz33_5, hfz33_0, hfz33_1, hfz33_2, hfz33_3, hfz33_4, hfz33_5⟩ := cells6 BK176.out) | ((with_reducible refine gate_callee (f := 33) rfl ?_); refine goesL_ (some 31) rfl rfl Tryd.func33 (by kernel_rfl) rfl #[.pointer (some ⟨g, 0, none⟩), .int .i64 200] rfl tq ?_; (with_reducible refine (spec_l6Rd_pick.calls k g s0_0 t186 200 t187 t188 w0 _ ?side1 ?side2 A22.out).mono ?_); (case side1 => exact zi88); (case side2 => exact zb); rintro e w34 ⟨rfl, hi, hb, hk⟩; refine ⟨_, rfl, ?_⟩; replace BK169 := tBk BK169 hk NB169_0; replace HO174 := tNk HO174 hk; replace BK176 := tBq (o' := .cells #[.bool (t170 == 0), .bool true, .int .i64 t179, .int .i64 t181, .int .i64 t183, .slice Ao10 t172.length co10] 47 (0, 0)) BK176 hk NB176_0; replace HK := tKt HK hk; replace HB := Aside0.mk (hb); replace HI0 := Aside0.mk (hi); (try clear hb); (try clear hb2); (try clear hk); (try clear hi)) | ((with_reducible refine gate_dst (N := 32) rfl ?_); refine Kd.R_lit (Kd.int .i64) _ 3 ?hg (N := 32) ?hd (xs := ([] : List Int)) (inner := []) (ok := fun _ => True) (okp := fun _ => True) ?hr ?hp (fun _ hk => hk) trivial (Below.refl _ _) (Nat.le_refl _) (by simp) ?_; (case hd => rfl); (case hg => rfl); (case hr => first | (go_simp; done) | (go_simp; rfl)); (case hp => exact (Reps.none _ _)); intro v190 w35 ho36 hb hg_ hnew_; clear hg_ hnew_; (first | rw [← Ny189.out] at ho36 | (simp only [Int.reduceToNat] at ho36; rw [← Ny189.out] at ho36)); replace HO174 := Aside0.mk (Kd.N_elder' (tN HO174.out) (Kd.R_base ho36) hb); have HO191 := Aside0.mk (Kd.R_lower (Kd.R_newM (M := fun k_ => (w.heap.size ≤ k_)) ho36 (keep_size (w := w) (g := g) (row := none) zk) (fun k_ h_ => h_)) (keep_size (w := w) (g := g) (row := none) zk)); replace HI0 := tIb88 HI0 hb; replace BK169 := tBb BK169 hb; replace BK176 := tBb BK176 hb; replace HK := tKb HK hb; replace HB := tBs HB hb; clear hb ho36) | ((with_reducible refine gate_callee (f := 33) rfl ?_); refine goesL_ (some 34) rfl rfl Tryd.func33 (by kernel_rfl) rfl #[.pointer (some ⟨g, 0, none⟩), .int .i64 2] rfl tq ?_; (with_reducible refine (spec_l6Rd_pick.calls k g s0_0 t188 2 t192 t193 w0 _ ?side1 ?side2 A23.out).mono ?_); (case side1 => exact zi88); (case side2 => exact zb); rintro e w37 ⟨rfl, hi, hb, hk⟩; refine ⟨_, rfl, ?_⟩; replace BK169 := tBk BK169 hk NB169_0; replace HO174 := tNk HO174 hk; replace BK176 := tBk BK176 hk NB176_0; replace HO191 := tRp88 HO191 HI0 hk; replace HK := tKt HK hk; replace HB := Aside0.mk (hb); replace HI0 := Aside0.mk (hi); (try clear hb); (try clear hb2); (try clear hk); (try clear hi)) | ((with_reducible refine gate_dst (N := 35) rfl ?_); refine Kd.R_lit (Kd.int .i64) _ 3 ?hg (N := 35) ?hd (xs := ([t192] : List Int)) (inner := [.int .i64 t192]) (ok := fun _ => True) (okp := fun _ => True) ?hr ?hp (fun _ hk => hk) trivial (Below.refl _ _) (Nat.le_refl _) (by simp) ?_; (case hd => rfl); (case hg => rfl); (case hr => first | (go_simp; done) | (go_simp; rfl)); (case hp => exact (Reps.one (show Kd.M (Kd.int .i64) _ _ _ t192 [.int .i64 t192] from rfl) (Reps.none _ _))); intro v195 w38 ho39 hb hg_ hnew_; clear hg_ hnew_; (first | rw [← Ny194.out] at ho39 | (simp only [Int.reduceToNat] at ho39; rw [← Ny194.out] at ho39)); replace HO174 := Aside0.mk (Kd.N_elder' (tN HO174.out) (Kd.R_base ho39) hb); have HO196 := Aside0.mk (Kd.R_lower (Kd.R_new' (Kd.R_newM (M := fun k_ => (w.heap.size ≤ k_)) ho39 (keep_size (w := w) (g := g) (row := none) zk) (fun k_ h_ => h_)) (Kd.R_lt (tR HO191.out))) (keep_size (w := w) (g := g) (row := none) zk)); replace HO191 := Aside0.mk (Kd.R_elder' (tR HO191.out) (Kd.R_base ho39) hb); replace HI0 := tIb88 HI0 hb; replace BK169 := tBb BK169 hb; replace BK176 := tBb BK176 hb; replace HK := tKb HK hb; replace HB := tBs HB hb; clear hb ho39; obtain ⟨Ao40, co40, eo40⟩ := Kd.R_slice HO196.out; subst eo40; obtain ⟨Ao41, co41, eo41⟩ := Kd.R_slice HO191.out; subst eo41) | ((with_reducible refine gate_dst (N := 37) rfl ?_); refine Kd.N_lit k33 _ 33 ?hg (N' := 37) ?hd (xs := ([(⟨a1, t187, false, y189, true, y194⟩ : S33)] : List (S33))) (inner := [.int .i64 a1, .int .i64 t187, .bool false, .slice Ao41 y189.length co41, .bool true, .slice Ao40 y194.length co40]) (ok := (fun k_ => (w.heap.size ≤ k_) ∧ some k_ ≠ (.slice Ao10 t172.length co10 : Value).ownBlock ∧ k_ ≠ gb169 ∧ k_ ≠ gb176 ∧ k_ ≠ g)) (okp := (fun k_ => (w.heap.size ≤ k_) ∧ some k_ ≠ (.slice Ao10 t172.length co10 : Value).ownBlock ∧ k_ ≠ gb169 ∧ k_ ≠ gb176 ∧ k_ ≠ g)) ?hr ?hp (fun _ hk => hk) ((show ∀ k_, w38.heap.size ≤ k_ → (fun k_ => (w.heap.size ≤ k_) ∧ some k_ ≠ (.slice Ao10 t172.length co10 : Value).ownBlock ∧ k_ ≠ gb169 ∧ k_ ≠ gb176 ∧ k_ ≠ g) k_ from fun k_ hk => ⟨(Nat.le_trans (keep_size (w := w) (g := g) (row := none) zk) hk), tfr HO174 k_ hk, tfB BK169 k_ hk, tfB BK176 k_ hk, IsS88.fresh zi88 k_ hk⟩) _ (Nat.le_refl _)) (Below.refl _ _) (Nat.le_refl _) (by simp) ?_; (case hd => rfl); (case hg => rfl); (case hr => first | (go_simp; done) | (go_simp; rfl)); (case hp => exact (Reps.c6 (show Kd.FK k33 _ _ (⟨a1, t187, false, y189, true, y194⟩ : S33) [.int .i64 a1, .int .i64 t187, .bool false, .slice Ao41 y189.length co41, .bool true, .slice Ao40 y194.length co40] from (k33_mkF _ _ (⟨a1, t187, false, y189, true, y194⟩ : S33) (Kd.R_reads' (Kd.R_mono (ok' := (fun k_ => (w.heap.size ≤ k_) ∧ some k_ ≠ (.slice Ao10 t172.length co10 : Value).ownBlock ∧ k_ ≠ gb169 ∧ k_ ≠ gb176 ∧ k_ ≠ g)) (IsS88.apart HI0.out (Kd.R_types (Kd.R_types (Kd.R_apart' (HO191.out) (Kd.N_typed HO174.out) (by decide)) BK169.out (by decide)) BK176.out (by decide)) (by decide)) (fun k_ hk => ⟨hk.1.1.1.1.1.1, ⟨hk.1.1.1.2, ⟨hk.1.1.2, ⟨hk.1.2, hk.2⟩⟩⟩⟩))).2.1 (Kd.R_F (Kd.R_mono (ok' := (fun k_ => (w.heap.size ≤ k_) ∧ some k_ ≠ (.slice Ao10 t172.length co10 : Value).ownBlock ∧ k_ ≠ gb169 ∧ k_ ≠ gb176 ∧ k_ ≠ g)) (IsS88.apart HI0.out (Kd.R_types (Kd.R_types (Kd.R_apart' (HO191.out) (Kd.N_typed HO174.out) (by decide)) BK169.out (by decide)) BK176.out (by decide)) (by decide)) (fun k_ hk => ⟨hk.1.1.1.1.1.1, ⟨hk.1.1.1.2, ⟨hk.1.1.2, ⟨hk.1.2, hk.2⟩⟩⟩⟩))) (Kd.R_reads' (Kd.R_mono (ok' := (fun k_ => (w.heap.size ≤ k_) ∧ some k_ ≠ (.slice Ao10 t172.length co10 : Value).ownBlock ∧ k_ ≠ gb169 ∧ k_ ≠ gb176 ∧ k_ ≠ g)) (IsS88.apart HI0.out (Kd.R_types (Kd.R_types (Kd.R_apart' (HO196.out) (Kd.N_typed HO174.out) (by decide)) BK169.out (by decide)) BK176.out (by decide)) (by decide)) (fun k_ hk => ⟨hk.1.1.1.1.1.1, ⟨hk.1.1.1.2, ⟨hk.1.1.2, ⟨hk.1.2, hk.2⟩⟩⟩⟩))).2.1 (Kd.R_F (Kd.R_mono (ok' := (fun k_ => (w.heap.size ≤ k_) ∧ some k_ ≠ (.slice Ao10 t172.length co10 : Value).ownBlock ∧ k_ ≠ gb169 ∧ k_ ≠ gb176 ∧ k_ ≠ g)) (IsS88.apart HI0.out (Kd.R_types (Kd.R_types (Kd.R_apart' (HO196.out) (Kd.N_typed HO174.out) (by decide)) BK169.out (by decide)) BK176.out (by decide)) (by decide)) (fun k_ hk => ⟨hk.1.1.1.1.1.1, ⟨hk.1.1.1.2, ⟨hk.1.1.2, ⟨hk.1.2, hk.2⟩⟩⟩⟩))))) (Reps.none _ _))); intro v198 w42 ho43 hb hg_ hnew_; clear hg_ hnew_; (first | rw [← Ny197.out] at ho43 | (simp only [Int.reduceToNat] at ho43; rw [← Ny197.out] at ho43)); replace HO174 := tNe HO174 ho43 hb; have HO199 := Aside0.mk (Kd.N_lower ho43 (keep_size (w := w) (g := g) (row := none) zk)); replace HI0 := tIb88 HI0 hb; replace BK169 := tBb BK169 hb; replace BK176 := tBb BK176 hb; replace HK := tKb HK hb; replace HB := tBs HB hb; clear HO191 HO196; clear hb ho43; obtain ⟨Ao44, co44, eo44⟩ := Kd.N_slice HO199.out; subst eo44; obtain ⟨hcz45_0, hcz45_1, hcz45_2, hcz45_3, hcz45_4, hcz45_5, hfz45_0, hfz45_1, hfz45_2, hfz45_3, hfz45_4, hfz45_5⟩ := cells6 BK176.out))
    go_meet
    case rel => exact ⟨_, (t193), (true), (t179), (t181), (t183), (y197), (.slice Ao44 y197.length co44), H', ⟨by first | omega | exact Nat.le_refl _⟩, ⟨tNm HO199.out⟩, ⟨tH BK169.out⟩, ⟨tP BK176.out⟩, ⟨zi88⟩, ⟨zk⟩, ⟨zb⟩⟩
   ·rw [if_neg c21] at H
    have c21b0 : (t185 == 0) = false := beq_eq_false_iff_ne.mpr c21
    have c21b1 : (t185 != 0) = true := bne_iff_ne.mpr c21
    have H' := Aside0.mk H
    clear H
    go_wp2_with (first | ((with_reducible refine gate_callee (f := 33) rfl ?_); refine goesL_ (some 17) rfl rfl Tryd.func33 (by kernel_rfl) rfl #[.pointer (some ⟨g, 0, none⟩), .int .i64 3] rfl tq ?_; (with_reducible refine (spec_l6Rd_pick.calls k g s0_0 t178 3 t179 t180 w0 _ ?side1 ?side2 A17.out).mono ?_); (case side1 => exact zi88); (case side2 => exact zb); rintro e w46 ⟨rfl, hi, hb, hk⟩; refine ⟨_, rfl, ?_⟩; replace BK169 := tBk BK169 hk NB169_0; replace HO174 := tNk HO174 hk; replace BK176 := tBk BK176 hk NB176_0; replace HK := tKt HK hk; replace HB := Aside0.mk (hb); replace HI0 := Aside0.mk (hi); (try clear hb); (try clear hb2); (try clear hk); (try clear hi); have hnb47 := NB176_169.out; have hnc47 := NB169_176.out; have hnb48 := NB176_0.out; have hnc48 := NB0_176.out; obtain ⟨hcz49_0, hcz49_1, hcz49_2, hcz49_3, hcz49_4, hcz49_5, hfz49_0, hfz49_1, hfz49_2, hfz49_3, hfz49_4, hfz49_5⟩ := cells6 BK176.out) | ((with_reducible refine gate_callee (f := 33) rfl ?_); refine goesL_ (some 20) rfl rfl Tryd.func33 (by kernel_rfl) rfl #[.pointer (some ⟨g, 0, none⟩), .int .i64 3] rfl tq ?_; (with_reducible refine (spec_l6Rd_pick.calls k g s0_0 t180 3 t181 t182 w0 _ ?side1 ?side2 A18.out).mono ?_); (case side1 => exact zi88); (case side2 => exact zb); rintro e w50 ⟨rfl, hi, hb, hk⟩; refine ⟨_, rfl, ?_⟩; replace BK169 := tBk BK169 hk NB169_0; replace HO174 := tNk HO174 hk; replace BK176 := tBq (o' := .cells #[.bool (t170 == 0), .bool false, .int .i64 t179, .int .i64 0, .int .i64 0, .slice Ao10 t172.length co10] 47 (0, 0)) BK176 hk NB176_0; replace HK := tKt HK hk; replace HB := Aside0.mk (hb); replace HI0 := Aside0.mk (hi); (try clear hb); (try clear hb2); (try clear hk); (try clear hi); obtain ⟨hcz51_0, hcz51_1, hcz51_2, hcz51_3, hcz51_4, hcz51_5, hfz51_0, hfz51_1, hfz51_2, hfz51_3, hfz51_4, hfz51_5⟩ := cells6 BK176.out) | ((with_reducible refine gate_callee (f := 33) rfl ?_); refine goesL_ (some 23) rfl rfl Tryd.func33 (by kernel_rfl) rfl #[.pointer (some ⟨g, 0, none⟩), .int .i64 5] rfl tq ?_; (with_reducible refine (spec_l6Rd_pick.calls k g s0_0 t182 5 t183 t184 w0 _ ?side1 ?side2 A19.out).mono ?_); (case side1 => exact zi88); (case side2 => exact zb); rintro e w52 ⟨rfl, hi, hb, hk⟩; refine ⟨_, rfl, ?_⟩; replace BK169 := tBk BK169 hk NB169_0; replace HO174 := tNk HO174 hk; replace BK176 := tBq (o' := .cells #[.bool (t170 == 0), .bool false, .int .i64 t179, .int .i64 t181, .int .i64 0, .slice Ao10 t172.length co10] 47 (0, 0)) BK176 hk NB176_0; replace HK := tKt HK hk; replace HB := Aside0.mk (hb); replace HI0 := Aside0.mk (hi); (try clear hb); (try clear hb2); (try clear hk); (try clear hi); obtain ⟨hcz53_0, hcz53_1, hcz53_2, hcz53_3, hcz53_4, hcz53_5, hfz53_0, hfz53_1, hfz53_2, hfz53_3, hfz53_4, hfz53_5⟩ := cells6 BK176.out) | ((with_reducible refine gate_callee (f := 33) rfl ?_); refine goesL_ (some 26) rfl rfl Tryd.func33 (by kernel_rfl) rfl #[.pointer (some ⟨g, 0, none⟩), .int .i64 3] rfl tq ?_; (with_reducible refine (spec_l6Rd_pick.calls k g s0_0 t184 3 t185 t186 w0 _ ?side1 ?side2 A20.out).mono ?_); (case side1 => exact zi88); (case side2 => exact zb); rintro e w54 ⟨rfl, hi, hb, hk⟩; refine ⟨_, rfl, ?_⟩; replace BK169 := tBk BK169 hk NB169_0; replace HO174 := tNk HO174 hk; replace BK176 := tBq (o' := .cells #[.bool (t170 == 0), .bool false, .int .i64 t179, .int .i64 t181, .int .i64 t183, .slice Ao10 t172.length co10] 47 (0, 0)) BK176 hk NB176_0; replace HK := tKt HK hk; replace HB := Aside0.mk (hb); replace HI0 := Aside0.mk (hi); (try clear hb); (try clear hb2); (try clear hk); (try clear hi)))
    go_meet
    case rel => exact ⟨_, (t186), (false), (t179), (t181), (t183), (t172), (.slice Ao10 t172.length co10), H', ⟨by first | omega | exact Nat.le_refl _⟩, ⟨tNm HO174.out⟩, ⟨tH BK169.out⟩, ⟨tH BK176.out⟩, ⟨zi88⟩, ⟨zk⟩, ⟨zb⟩⟩
  ·rw [if_neg c16] at H
   have c16b0 : (t177 == 0) = false := beq_eq_false_iff_ne.mpr c16
   have c16b1 : (t177 != 0) = true := bne_iff_ne.mpr c16
   (first | rw [c16b0] | (simp only [i64_w, i32_w]; rw [c16b0]) | skip)
   have H' := Aside0.mk H
   clear H
   go_wp2
   go_meet
   case rel => exact ⟨_, (t178), (false), (255), (0), (0), (t172), (.slice Ao10 t172.length co10), H', ⟨by first | omega | exact Nat.le_refl _⟩, ⟨tNm HO174.out⟩, ⟨tH BK169.out⟩, ⟨tH BK176.out⟩, ⟨zi88⟩, ⟨zk⟩, ⟨zb⟩⟩
 case rest =>
  clear HC6
  try clear hcz14_0; try clear hcz14_1; try clear hcz14_2; try clear hcz14_3; try clear hcz14_4; try clear hcz14_5; try clear hfz14_0; try clear hfz14_1; try clear hfz14_2; try clear hfz14_3; try clear hfz14_4; try clear hfz14_5
  obtain ⟨kq, x1001_5, x177001_5, x177002_5, x177003_5, x177004_5, x177005_5, u177005, HA, HJ5, HO_177005, BK169, BK176, HI0, HK, HB⟩ := hcut
  cases kq with
  | zero => exact absurd HA.out (by simp [spec_l91Batch.j0])
  | succ kj5 =>
   have H := HA.out
   clear HA
   simp only [spec_l91Batch.j0] at H
   replace H := tbe H
   obtain ⟨⟨t200, t201⟩, A55, H⟩ := H
   dsimp only at H
   by_cases c56 : t200 = 0
   ·rw [if_pos c56] at H
    have c56b0 : (t200 == 0) = true := beq_iff_eq.mpr c56
    have c56b1 : (t200 != 0) = false := bne_eq_false_iff_eq.mpr c56
    clear c56
    obtain ⟨y202, hy202⟩ : ∃ y_ : List Int, y_ = (([(-1), 1, 100] : List Int)) := ⟨_, rfl⟩
    replace H : ((spec_l6Rd_pick.f kj5 s0_0 t201 3).bind fun bt205 => (if 0 ≤ bt205.1 then (if bt205.1 < (y202.length : Int) then (some ((t170 == 0), x177001_5, x177002_5, rd y202 bt205.1, x177004_5, x177005_5, bt205.2)) else (none)) else (none))) = some (r1, r2, r3, r4, r5, r6, r7) := by first | (rw [hy202]; with_reducible exact H) | (have H2_ := (Option.bind_some _ _).symm.trans H; rw [hy202]; with_reducible exact H2_) | (have H2_ := (Option.bind_some _ _).symm.trans H; with_reducible exact H2_) | with_reducible exact H | (rw [hy202]; exact H) | exact H
    have Ny202 := Aside0.mk hy202
    clear hy202
    replace H := tbe H
    obtain ⟨⟨t205, t206⟩, A57, H⟩ := H
    dsimp only at H
    by_cases c58 : 0 ≤ t205
    ·rw [if_pos c58] at H
     have c58b0 : decide (0 ≤ t205) = true := decide_eq_true c58
     clear c58
     by_cases c59 : t205 < (y202.length : Int)
     ·rw [if_pos c59] at H
      have c59b0 : decide (t205 < (y202.length : Int)) = true := decide_eq_true c59
      clear c59
      simp only [Option.some.injEq, Prod.mk.injEq] at H
      obtain ⟨rfl, rfl, rfl, rfl, rfl, rfl, rfl⟩ := H
      go_wp2_with (first | ((with_reducible refine gate_callee (f := 33) rfl ?_); refine goesL_ (some 40) rfl rfl Tryd.func33 (by kernel_rfl) rfl #[.pointer (some ⟨g, 0, none⟩), .int .i64 40] rfl tq ?_; (with_reducible refine (spec_l6Rd_pick.calls kj5 g s0_0 x1001_5 40 t200 t201 w0 _ ?side1 ?side2 A55.out).mono ?_); (case side1 => exact zi88); (case side2 => exact zb); rintro e w60 ⟨rfl, hi, hb, hk⟩; refine ⟨_, rfl, ?_⟩; replace HO_177005 := tNk HO_177005 hk; replace BK169 := tBk BK169 hk NB169_0; replace BK176 := tBk BK176 hk NB176_0; replace HK := tKt HK hk; replace HB := Aside0.mk (hb); replace HI0 := Aside0.mk (hi); (try clear hb); (try clear hb2); (try clear hk); (try clear hi)) | ((with_reducible refine gate_dst (N := 43) rfl ?_); refine Kd.R_lit (Kd.int .i64) _ 3 ?hg (N := 43) ?hd (xs := ([(-1), 1, 100] : List Int)) (inner := [.int .i64 (-1), .int .i64 1, .int .i64 100]) (ok := fun _ => True) (okp := fun _ => True) ?hr ?hp (fun _ hk => hk) trivial (Below.refl _ _) (Nat.le_refl _) (by simp) ?_; (case hd => rfl); (case hg => rfl); (case hr => first | (go_simp; done) | (go_simp; rfl)); (case hp => exact (Reps.one (show Kd.M (Kd.int .i64) _ _ _ (-1) [.int .i64 (-1)] from rfl) (Reps.one (show Kd.M (Kd.int .i64) _ _ _ 1 [.int .i64 1] from rfl) (Reps.one (show Kd.M (Kd.int .i64) _ _ _ 100 [.int .i64 100] from rfl) (Reps.none _ _))))); intro v203 w61 ho62 hb hg_ hnew_; clear hg_ hnew_; (first | rw [← Ny202.out] at ho62 | (simp only [Int.reduceToNat] at ho62; rw [← Ny202.out] at ho62)); replace HO_177005 := Aside0.mk (Kd.N_elder' (tN HO_177005.out) (Kd.R_base ho62) hb); have HO204 := Aside0.mk (Kd.R_lower (Kd.R_newM (M := fun k_ => (w.heap.size ≤ k_)) ho62 (keep_size (w := w) (g := g) (row := none) zk) (fun k_ h_ => h_)) (keep_size (w := w) (g := g) (row := none) zk)); replace BK169 := tBb BK169 hb; replace BK176 := tBb BK176 hb; replace HI0 := tIb88 HI0 hb; replace HK := tKb HK hb; replace HB := tBs HB hb; clear hb ho62) | ((with_reducible refine gate_callee (f := 33) rfl ?_); refine goesL_ (some 45) rfl rfl Tryd.func33 (by kernel_rfl) rfl #[.pointer (some ⟨g, 0, none⟩), .int .i64 3] rfl tq ?_; (with_reducible refine (spec_l6Rd_pick.calls kj5 g s0_0 t201 3 t205 t206 w0 _ ?side1 ?side2 A57.out).mono ?_); (case side1 => exact zi88); (case side2 => exact zb); rintro e w63 ⟨rfl, hi, hb, hk⟩; refine ⟨_, rfl, ?_⟩; replace HO_177005 := tNk HO_177005 hk; replace BK169 := tBk BK169 hk NB169_0; replace BK176 := tBk BK176 hk NB176_0; replace HO204 := tRp88 HO204 HI0 hk; replace HK := tKt HK hk; replace HB := Aside0.mk (hb); replace HI0 := Aside0.mk (hi); (try clear hb); (try clear hb2); (try clear hk); (try clear hi); obtain ⟨Ao64, co64, eo64⟩ := Kd.R_slice HO204.out; subst eo64; have p207 : 0 ≤ (t205 : Int) := td; have q207 : t205 < (y202.length : Int) := td; obtain ⟨ad207, e207, hx207_0⟩ := Kd.at_int (Kd.R_reads' HO204.out).2.2 t205 p207 q207; cases e207; replace p207 := eq_true p207; replace q207 := eq_true q207; have hnb65 := NB176_169.out; have hnc65 := NB169_176.out; have hnb66 := NB176_0.out; have hnc66 := NB0_176.out; obtain ⟨hcz67_0, hcz67_1, hcz67_2, hcz67_3, hcz67_4, hcz67_5, hfz67_0, hfz67_1, hfz67_2, hfz67_3, hfz67_4, hfz67_5⟩ := cells6 BK176.out; have hnb68 := NB169_0.out; have hnc68 := NB0_169.out; obtain ⟨hcz69_0, hcz69_1, hcz69_2, hcz69_3, hcz69_4, hcz69_5, hfz69_0, hfz69_1, hfz69_2, hfz69_3, hfz69_4, hfz69_5⟩ := cells6 BK169.out; obtain ⟨Ao70, co70, eo70⟩ := Kd.N_slice HO_177005.out; subst eo70))
      refine bodyPost_ret (results_cell_row rfl _ _ gb169 47 #[.bool (t170 == 0), .bool x177001_5, .int .i64 x177002_5, .int .i64 (rd y202 t205), .int .i64 x177004_5, .slice Ao70 x177005_5.length co70] (0, 0) _ rfl (tP BK169.out) Tryd.underlying47 rfl (by kernel_rfl)) rfl ?_
      exact ⟨_, by first | rfl | (simp [errW_none, errW_some] <;> rfl) | (simp [*, errW_none, errW_some] <;> rfl), by (with_reducible repeat (first | apply Kd.N_alloc | apply Kd.N_drewN | apply Kd.N_drew)); exact Kd.N_mono (Kd.N_far (p := ⟨gb169, 5, none⟩) (Kd.N_far (p := ⟨gb169, 4, none⟩) (Kd.N_far (p := ⟨gb169, 3, none⟩) (Kd.N_far (p := ⟨gb169, 2, none⟩) (Kd.N_far (p := ⟨gb169, 1, none⟩) (Kd.N_far (p := ⟨gb169, 0, none⟩) (Kd.N_far (p := ⟨gb176, 3, none⟩) (Kd.N_mono (Kd.N_mono HO_177005.out (fun k_ hk => (⟨hk, hk.1.2.2.1⟩ : _ ∧ k_ ≠ gb176))) (fun k_ hk => (⟨hk, hk.1.1.2.1⟩ : _ ∧ k_ ≠ gb169))) (fun _ hk => hk.1.2) (.int .i64 (rd y202 t205))) (fun _ hk => hk.2) (.bool (t170 == 0))) (fun _ hk => hk.2) (.bool x177001_5)) (fun _ hk => hk.2) (.int .i64 x177002_5)) (fun _ hk => hk.2) (.int .i64 (rd y202 t205))) (fun _ hk => hk.2) (.int .i64 x177004_5)) (fun _ hk => hk.2) (.slice Ao70 x177005_5.length co70)) (fun _ hk => hk.1.1.1.1), zi88, zb, zk⟩
     ·rw [if_neg c59] at H
      exact absurd H (by simp)
    ·rw [if_neg c58] at H
     exact absurd H (by simp)
   ·rw [if_neg c56] at H
    have c56b0 : (t200 == 0) = false := beq_eq_false_iff_ne.mpr c56
    have c56b1 : (t200 != 0) = true := bne_iff_ne.mpr c56
    by_cases c71 : t200 = 1
    ·rw [if_pos c71] at H
     have c71b0 : (t200 == 1) = true := beq_iff_eq.mpr c71
     have c71b1 : (t200 != 1) = false := bne_eq_false_iff_eq.mpr c71
     clear c71
     by_cases c72 : 0 < (x177005_5.length : Int)
     ·rw [if_pos c72] at H
      have c72b0 : decide (0 < (x177005_5.length : Int)) = true := decide_eq_true c72
      have c72b1 : decide (0 < x177005_5.length) = true := decide_eq_true (by omega)
      clear c72
      by_cases c73 : x177005_5.length < 1759218604441
      ·rw [if_pos c73] at H
       have LMc73 := Aside0.mk c73
       clear c73
       obtain ⟨y209, hy209⟩ : ∃ y_ : List (S33), y_ = (x177005_5 ++ [(⟨(rd_T33 x177005_5 0).f0, (rd_T33 x177005_5 0).f1, (rd_T33 x177005_5 0).f2, (rd_T33 x177005_5 0).f3, (rd_T33 x177005_5 0).f4, (rd_T33 x177005_5 0).f5⟩ : S33)]) := ⟨_, rfl⟩
       replace H : (some ((t170 == 0), x177001_5, x177002_5, x177003_5, x177004_5, y209, t201)) = some (r1, r2, r3, r4, r5, r6, r7) := by first | (rw [hy209]; with_reducible exact H) | (have H2_ := (Option.bind_some _ _).symm.trans H; rw [hy209]; with_reducible exact H2_) | (have H2_ := (Option.bind_some _ _).symm.trans H; with_reducible exact H2_) | with_reducible exact H | (rw [hy209]; exact H) | exact H
       have Ny209 := Aside0.mk hy209
       clear hy209
       simp only [Option.some.injEq, Prod.mk.injEq] at H
       obtain ⟨rfl, rfl, rfl, rfl, rfl, rfl, rfl⟩ := H
       try go_wp2_with (first | ((with_reducible refine gate_callee (f := 33) rfl ?_); refine goesL_ (some 40) rfl rfl Tryd.func33 (by kernel_rfl) rfl #[.pointer (some ⟨g, 0, none⟩), .int .i64 40] rfl tq ?_; (with_reducible refine (spec_l6Rd_pick.calls kj5 g s0_0 x1001_5 40 t200 t201 w0 _ ?side1 ?side2 A55.out).mono ?_); (case side1 => exact zi88); (case side2 => exact zb); rintro e w74 ⟨rfl, hi, hb, hk⟩; refine ⟨_, rfl, ?_⟩; replace HO_177005 := tNk HO_177005 hk; replace BK169 := tBk BK169 hk NB169_0; replace BK176 := tBk BK176 hk NB176_0; replace HK := tKt HK hk; replace HB := Aside0.mk (hb); replace HI0 := Aside0.mk (hi); (try clear hb); (try clear hb2); (try clear hk); (try clear hi)))
       replace HO_177005 := Aside0.mk (Kd.N_drew HO_177005.out)
       replace BK169 := Aside0.mk (blk_drew BK169.out)
       replace BK176 := Aside0.mk (blk_drew BK176.out)
       replace HI0 := Aside0.mk (IsS88.drew HI0.out)
       replace HK := Aside0.mk (keep_drew HK.out)
       replace HB := Aside0.mk (below_drew1 HB.out)
       obtain ⟨Ao76, co76, eo76⟩ := Kd.N_slice HO_177005.out
       (first | subst eo76 | (injection eo76 with f1_ f2_ f3_; have f4_ := f1_.symm; have f5_ := f3_.symm; clear f1_ f2_ f3_; subst f4_; subst f5_))
       have p208 : 0 ≤ (0 : Int) := (by omega)
       have q208 : 0 < (x177005_5.length : Int) := td
       obtain ⟨ad208, A208_3, c208_3, A208_5, c208_5, e208, hx208_0, hx208_1, hx208_2, hx208_3, hx208_4, hx208_5, hl208_3, hi208_3, hl208_5, hi208_5⟩ := at_T33 (Kd.N_reads' HO_177005.out).2.2 0 p208 q208
       cases e208
       obtain ⟨ce208, hce208, hMe208, hcc208⟩ := Kd.N_get HO_177005.out z33 0 p208 (by first | exact q208 | exact td | (have e_ := (Kd.N_reads' HO_177005.out).1; omega))
       obtain ⟨ua208_3, uc208_3, ua208_5, uc208_5, rfl, ul208_3, ge208_3, ul208_5, ge208_5⟩ := k33_openF hMe208
       have hv208_3 := hcc208 3 _ rfl
       rw [add_field _ _ 3 (by omega)] at hv208_3
       replace hv208_3 := Option.some.inj (hv208_3.symm.trans hx208_3)
       injection hv208_3 with hva_ hvn_ hvc_
       rw [hva_] at ge208_3
       rw [hvc_] at ul208_3
       have HL208_3 := Aside0.mk (show Kd.V (Kd.int .i64) 3 _ w.heap.size _ _ ((rd_T33 x177005_5 0).f3) from Kd.V_mk ul208_3 ge208_3)
       clear hva_ hvn_ hvc_ ge208_3 ul208_3
       have hv208_5 := hcc208 5 _ rfl
       rw [add_field _ _ 5 (by omega)] at hv208_5
       replace hv208_5 := Option.some.inj (hv208_5.symm.trans hx208_5)
       injection hv208_5 with hva_ hvn_ hvc_
       rw [hva_] at ge208_5
       rw [hvc_] at ul208_5
       have HL208_5 := Aside0.mk (show Kd.V (Kd.int .i64) 3 _ w.heap.size _ _ ((rd_T33 x177005_5 0).f5) from Kd.V_mk ul208_5 ge208_5)
       clear hva_ hvn_ hvc_ ge208_5 ul208_5
       clear hcc208 hce208
       have qi208 : (0 < x177005_5.length) = True := eq_true (by omega)
       (try rw [show ((0 : Int)).toNat = 0 from rfl] at hx208_0)
       (try rw [show 0 * 6 = 0 from rfl] at hx208_0)
       (try rw [Addr.add_zero'] at hx208_0)
       (try rw [show ((0 : Int)).toNat = 0 from rfl] at hx208_1)
       (try rw [show 0 * 6 = 0 from rfl] at hx208_1)
       (try rw [Addr.add_zero'] at hx208_1)
       (try rw [show ((0 : Int)).toNat = 0 from rfl] at hx208_2)
       (try rw [show 0 * 6 = 0 from rfl] at hx208_2)
       (try rw [Addr.add_zero'] at hx208_2)
       (try rw [show ((0 : Int)).toNat = 0 from rfl] at hx208_3)
       (try rw [show 0 * 6 = 0 from rfl] at hx208_3)
       (try rw [Addr.add_zero'] at hx208_3)
       (try rw [show ((0 : Int)).toNat = 0 from rfl] at hx208_4)
       (try rw [show 0 * 6 = 0 from rfl] at hx208_4)
       (try rw [Addr.add_zero'] at hx208_4)
       (try rw [show ((0 : Int)).toNat = 0 from rfl] at hx208_5)
       (try rw [show 0 * 6 = 0 from rfl] at hx208_5)
       (try rw [Addr.add_zero'] at hx208_5)
       have HR208_3 := Aside0.mk hi208_3
       have HC208_3 := Aside0.mk hl208_3
       clear hi208_3 hl208_3
       have HR208_5 := Aside0.mk hi208_5
       have HC208_5 := Aside0.mk hl208_5
       clear hi208_5 hl208_5
       replace p208 := eq_true p208
       replace q208 := eq_true q208
       refine start_ (n := 10) (S := fun w' => w'.cell? ⟨gb176, 0, none⟩ = some (.bool (t170 == 0)) ∧ w'.cell? ⟨gb176, 1, none⟩ = some (.bool x177001_5) ∧ w'.cell? ⟨gb176, 2, none⟩ = some (.int .i64 x177002_5) ∧ w'.cell? ⟨gb176, 3, none⟩ = some (.int .i64 x177003_5) ∧ w'.cell? ⟨gb176, 4, none⟩ = some (.int .i64 x177004_5) ∧ w'.cell? ⟨gb176, 5, none⟩ = some (.slice (some ad208) x177005_5.length co76) ∧ w'.cell? ad208 = some (.int .i64 ((rd_T33 x177005_5 0).f0)) ∧ w'.cell? ⟨ad208.block, ad208.off + 1, none⟩ = some (.int .i64 ((rd_T33 x177005_5 0).f1)) ∧ w'.cell? ⟨ad208.block, ad208.off + 2, none⟩ = some (.bool ((rd_T33 x177005_5 0).f2)) ∧ w'.cell? ⟨ad208.block, ad208.off + 3, none⟩ = some (.slice A208_3 ((rd_T33 x177005_5 0).f3).length c208_3) ∧ w'.cell? ⟨ad208.block, ad208.off + 4, none⟩ = some (.bool ((rd_T33 x177005_5 0).f4)) ∧ w'.cell? ⟨ad208.block, ad208.off + 5, none⟩ = some (.slice A208_5 ((rd_T33 x177005_5 0).f5).length c208_5)) (ds := [7, 9]) #[false, false, false, false, false, false, false, false, false, false] (by kernel_rfl) rfl rfl ⟨(blk_cell BK176.out 0).trans rfl, (blk_cell BK176.out 1).trans rfl, (blk_cell BK176.out 2).trans rfl, (blk_cell BK176.out 3).trans rfl, (blk_cell BK176.out 4).trans rfl, (blk_cell BK176.out 5).trans rfl, hx208_0, hx208_1, hx208_2, hx208_3, hx208_4, hx208_5⟩ (fun hHeld => ?_); refine with_tabW spec_l91Batch.tab13 spec_l91Batch.bits13 (fun HT_ HW_ => ?_)
       generalize w74.drew = w75 at HO_177005 BK169 BK176 HI0 HK HB HL208_3 HL208_5 HR208_3 HR208_5 hx208_0 hx208_1 hx208_2 hx208_3 hx208_4 hx208_5 hHeld ⊢
       refine pure_ (i := 0) (N := some 51) (v := ?_) (a' := ?_) #[true, false, false, false, false, false, false, false, false, false] rfl rfl (any_of HT_.out (by kernel_rfl)) (fun _ _ _ h => h) (Or.inl ⟨by rfl, ?_⟩) ?_ ?_
       rotate_left
       ·intro w'
        go_simp
        with_reducible rfl
       rotate_left
       ·simp only [Act.put, List.setIfInBounds_toArray, List.set_cons_zero, List.set_cons_succ, i64_w, i32_w]
        rfl
       refine pure_ (i := 2) (N := some 53) (v := ?_) (a' := ?_) #[true, false, true, false, false, false, false, false, false, false] rfl rfl (any_of HT_.out (by kernel_rfl)) (fun _ _ _ h => h) (Or.inl ⟨by rfl, ?_⟩) ?_ ?_
       rotate_left
       ·intro w'
        go_simp
        with_reducible rfl
       rotate_left
       ·simp only [Act.put, List.setIfInBounds_toArray, List.set_cons_zero, List.set_cons_succ, i64_w, i32_w]
        rfl
       refine take_ (i := 1) (N := some 52) (v := ?_) (a' := ?_) #[true, true, true, false, false, false, false, false, false, false] rfl rfl (take_ofW HT_.out HW_.out (by kernel_rfl)) (fun _ _ _ h => h) (Or.inl ⟨by rfl, ?_⟩) hHeld ?_ ?_
       rotate_left
       ·rintro w' ⟨s0, s1, s2, s3, s4, s5, s6, s7, s8, s9, s10, s11⟩
        go_simp
        with_reducible rfl
       rotate_left
       ·simp only [Act.put, List.setIfInBounds_toArray, List.set_cons_zero, List.set_cons_succ, i64_w, i32_w]
        rfl
       refine take_ (i := 3) (N := some 54) (v := ?_) (a' := ?_) #[true, true, true, true, false, false, false, false, false, false] rfl rfl (take_ofW HT_.out HW_.out (by kernel_rfl)) (fun _ _ _ h => h) (Or.inl ⟨by rfl, ?_⟩) hHeld ?_ ?_
       rotate_left
       ·rintro w' ⟨s0, s1, s2, s3, s4, s5, s6, s7, s8, s9, s10, s11⟩
        go_simp
        with_reducible rfl
       rotate_left
       ·simp only [Act.put, List.setIfInBounds_toArray, List.set_cons_zero, List.set_cons_succ, i64_w, i32_w]
        rfl
       refine pure_ (i := 4) (N := some 55) (v := ?_) (a' := ?_) #[true, true, true, true, true, false, false, false, false, false] rfl rfl (any_of HT_.out (by kernel_rfl)) (fun _ _ _ h => h) (Or.inl ⟨by rfl, ?_⟩) ?_ ?_
       rotate_left
       ·intro w'
        go_simp
        with_reducible rfl
       rotate_left
       ·simp only [Act.put, List.setIfInBounds_toArray, List.set_cons_zero, List.set_cons_succ, i64_w, i32_w]
        rfl
       refine take_ (i := 5) (N := some 56) (v := ?_) (a' := ?_) #[true, true, true, true, true, true, false, false, false, false] rfl rfl (take_ofW HT_.out HW_.out (by kernel_rfl)) (fun _ _ _ h => h) (Or.inl ⟨by rfl, ?_⟩) hHeld ?_ ?_
       rotate_left
       ·rintro w' ⟨s0, s1, s2, s3, s4, s5, s6, s7, s8, s9, s10, s11⟩
        go_simp
        with_reducible rfl
       rotate_left
       ·simp only [Act.put, List.setIfInBounds_toArray, List.set_cons_zero, List.set_cons_succ, i64_w, i32_w]
        rfl
       refine one_ (i := 6) (N := some 57) #[true, true, true, true, true, true, true, false, false, false] rfl rfl (one_of HT_.out (by kernel_rfl)) (by decide) (fun K hK => ?_)
       refine value_ (w1 := ?_) (v := ?_) (by rfl) rfl ?_ ?_
       rotate_left 2
       ·go_simp
        constructor
        ·rfl
        ·rfl
       refine hK.out _ _ ⟨(blk_cell (blk_alloc BK176.out _) 0).trans rfl, (blk_cell (blk_alloc BK176.out _) 1).trans rfl, (blk_cell (blk_alloc BK176.out _) 2).trans rfl, (blk_cell (blk_alloc BK176.out _) 3).trans rfl, (blk_cell (blk_alloc BK176.out _) 4).trans rfl, (blk_cell (blk_alloc BK176.out _) 5).trans rfl, (World.cell?_alloc_lt _ _ _ (World.block_lt_of_cell? _ _ (hHeld.2.2.2.2.2.2.1))).trans (hHeld.2.2.2.2.2.2.1), (World.cell?_alloc_lt _ _ _ (World.block_lt_of_cell? _ _ (hHeld.2.2.2.2.2.2.2.1))).trans (hHeld.2.2.2.2.2.2.2.1), (World.cell?_alloc_lt _ _ _ (World.block_lt_of_cell? _ _ (hHeld.2.2.2.2.2.2.2.2.1))).trans (hHeld.2.2.2.2.2.2.2.2.1), (World.cell?_alloc_lt _ _ _ (World.block_lt_of_cell? _ _ (hHeld.2.2.2.2.2.2.2.2.2.1))).trans (hHeld.2.2.2.2.2.2.2.2.2.1), (World.cell?_alloc_lt _ _ _ (World.block_lt_of_cell? _ _ (hHeld.2.2.2.2.2.2.2.2.2.2.1))).trans (hHeld.2.2.2.2.2.2.2.2.2.2.1), (World.cell?_alloc_lt _ _ _ (World.block_lt_of_cell? _ _ (hHeld.2.2.2.2.2.2.2.2.2.2.2))).trans (hHeld.2.2.2.2.2.2.2.2.2.2.2)⟩ (fun hHeld => ?_)
       clear hK K
       refine norm_ (a' := ?_) ?_ ?_
       rotate_left
       ·show Act.put _ (some 57) _ = _
        simp only [Act.put, List.setIfInBounds_toArray, List.set_cons_zero, List.set_cons_succ, i64_w, i32_w]
        rfl
       refine last_ (i := 7) (N := some 58) #[true, true, true, true, true, true, true, true, false, false] rfl rfl (one_of HT_.out (by kernel_rfl)) (by decide) (fun K hK => ?_)
       refine Kd.N_append_step k33 w.heap.size (by rfl) (.tmp 52) (.tmp 57) 29 33 (.agg #[(.int .i64 0), (.int .i64 0), (.bool false), (.slice none 0 0), (.bool false), (.slice none 0 0)]) 80 rfl Tryd.underlying29 info33 rfl (by decide) (by omega) (.slice (some ad208) x177005_5.length co76) x177005_5 (⟨(rd_T33 x177005_5 0).f0, (rd_T33 x177005_5 0).f1, (rd_T33 x177005_5 0).f2, (rd_T33 x177005_5 0).f3, (rd_T33 x177005_5 0).f4, (rd_T33 x177005_5 0).f5⟩ : S33) [.int .i64 ((rd_T33 x177005_5 0).f0), .int .i64 ((rd_T33 x177005_5 0).f1), .bool ((rd_T33 x177005_5 0).f2), .slice A208_3 ((rd_T33 x177005_5 0).f3).length c208_3, .bool ((rd_T33 x177005_5 0).f4), .slice A208_5 ((rd_T33 x177005_5 0).f5).length c208_5] (fun k_ => (w.heap.size ≤ k_) ∧ k_ ≠ gb169 ∧ k_ ≠ gb176 ∧ k_ ≠ g) (fun k_ => ((fun k_ => (w.heap.size ≤ k_) ∧ k_ ≠ gb169 ∧ k_ ≠ gb176 ∧ k_ ≠ g)) k_ ∧ some k_ ≠ (.slice (some ad208) x177005_5.length co76 : Value).ownBlock) rfl rfl ?aP (fun _ hk => hk) ?aF ?aO (Below.refl _ _) ?aS ?aL ?_
       (case aP => exact (k33_mkF _ _ (⟨(rd_T33 x177005_5 0).f0, (rd_T33 x177005_5 0).f1, (rd_T33 x177005_5 0).f2, (rd_T33 x177005_5 0).f3, (rd_T33 x177005_5 0).f4, (rd_T33 x177005_5 0).f5⟩ : S33) (Kd.V_reads' (Kd.V_mono (ok' := (fun k_ => ((fun k_ => (w.heap.size ≤ k_) ∧ k_ ≠ gb169 ∧ k_ ≠ gb176 ∧ k_ ≠ g)) k_ ∧ some k_ ≠ (.slice (some ad208) x177005_5.length co76 : Value).ownBlock)) (HL208_3.out) (fun k_ hk => ⟨⟨hk.1.1, ⟨hk.1.2.1, ⟨hk.1.2.2.1, hk.1.2.2.2⟩⟩⟩, hk.2⟩))).2.1 (Kd.V_F (Kd.V_mono (ok' := (fun k_ => ((fun k_ => (w.heap.size ≤ k_) ∧ k_ ≠ gb169 ∧ k_ ≠ gb176 ∧ k_ ≠ g)) k_ ∧ some k_ ≠ (.slice (some ad208) x177005_5.length co76 : Value).ownBlock)) (HL208_3.out) (fun k_ hk => ⟨⟨hk.1.1, ⟨hk.1.2.1, ⟨hk.1.2.2.1, hk.1.2.2.2⟩⟩⟩, hk.2⟩))) (Kd.V_reads' (Kd.V_mono (ok' := (fun k_ => ((fun k_ => (w.heap.size ≤ k_) ∧ k_ ≠ gb169 ∧ k_ ≠ gb176 ∧ k_ ≠ g)) k_ ∧ some k_ ≠ (.slice (some ad208) x177005_5.length co76 : Value).ownBlock)) (HL208_5.out) (fun k_ hk => ⟨⟨hk.1.1, ⟨hk.1.2.1, ⟨hk.1.2.2.1, hk.1.2.2.2⟩⟩⟩, hk.2⟩))).2.1 (Kd.V_F (Kd.V_mono (ok' := (fun k_ => ((fun k_ => (w.heap.size ≤ k_) ∧ k_ ≠ gb169 ∧ k_ ≠ gb176 ∧ k_ ≠ g)) k_ ∧ some k_ ≠ (.slice (some ad208) x177005_5.length co76 : Value).ownBlock)) (HL208_5.out) (fun k_ hk => ⟨⟨hk.1.1, ⟨hk.1.2.1, ⟨hk.1.2.2.1, hk.1.2.2.2⟩⟩⟩, hk.2⟩)))))
       (case aF => exact (fun k_ hk => ⟨(Nat.le_trans (keep_size (w := w) (g := g) (row := none) zk) hk), tfB BK169 k_ hk, tfB BK176 k_ hk, IsS88.fresh zi88 k_ hk⟩))
       (case aO => exact (tN HO_177005.out))
       (case aS => exact (keep_size (w := w) (g := g) (row := none) zk))
       (case aL => have := LMc73.out; omega)
       intro v210 w77 ho hb hg hat
       rw [← Ny209.out] at ho
       replace BK169 := Aside0.mk (blk_grown (tH BK169.out) hg (Kd.N_ne HO_177005.out BK169.out (by decide)))
       replace BK176 := Aside0.mk (blk_grown (tH BK176.out) hg (Kd.N_ne HO_177005.out BK176.out (by decide)))
       replace HL208_3 := Aside0.mk (Kd.V_afterv (ok := (fun k_ => (w.heap.size ≤ k_) ∧ k_ ≠ gb169 ∧ k_ ≠ gb176 ∧ k_ ≠ g)) (tV HL208_3.out) hg hat)
       replace HL208_5 := Aside0.mk (Kd.V_afterv (ok := (fun k_ => (w.heap.size ≤ k_) ∧ k_ ≠ gb169 ∧ k_ ≠ gb176 ∧ k_ ≠ g)) (tV HL208_5.out) hg hat)
       replace HB := Aside0.mk (below_weaken zb HL.out hb)
       replace HI0 := Aside0.mk (IsS88.grown zi88 hg (IsS88.own_neN HI0.out HO_177005.out (by decide)))
       replace HK := Aside0.mk (KeepBut.trans zk (KeepBut.of_grown hg g) (Kd.N_base2 HO_177005.out))
       have HO211 := Aside0.mk (ho)
       clear HO_177005
       clear ho hb hg hat
       obtain ⟨Ao78, co78, eo78⟩ := Kd.N_slice HO211.out
       (first | subst eo78 | (injection eo78 with f1_ f2_ f3_; have f4_ := f1_.symm; have f5_ := f3_.symm; clear f1_ f2_ f3_; subst f4_; subst f5_))
       refine hK.out _ _ ?_
       clear hK K
       refine norm_ (a' := ?_) ?_ ?_
       rotate_left
       ·show Act.put _ (some 58) _ = _
        simp only [Act.put, List.setIfInBounds_toArray, List.set_cons_zero, List.set_cons_succ, i64_w, i32_w]
        rfl
       refine pure_ (i := 8) (N := some 59) (v := ?_) (a' := ?_) #[true, true, true, true, true, true, true, true, true, false] rfl rfl (any_of HT_.out (by kernel_rfl)) (fun _ _ _ h => h) (Or.inl ⟨by rfl, ?_⟩) ?_ ?_
       rotate_left
       ·intro w'
        go_simp
        with_reducible rfl
       rotate_left
       ·simp only [Act.put, List.setIfInBounds_toArray, List.set_cons_zero, List.set_cons_succ, i64_w, i32_w]
        rfl
       refine last_ (i := 9) (N := none) #[true, true, true, true, true, true, true, true, true, true] rfl rfl (one_of HT_.out (by kernel_rfl)) (by decide) (fun K hK => ?_)
       have hs79 : w77.cell? ⟨gb176, 5, none⟩ = some (.slice (some ad208) x177005_5.length co76) := (blk_cell BK176.out 5).trans rfl
       have hfs79 := blk_frozen BK176.out 5
       have hns79_0 := NB169_176.out
       have hms79_0 := NB176_169.out
       refine skip_ (w1 := ?_) (by rfl) rfl ?_ ?_
       rotate_left
       ·go_simp
        rfl
       refine hK.out _ _ ?_
       clear hK K
       refine done_ (done_of HT_.out (by kernel_rfl)) ?_
       have hnb80 := NB176_169.out
       have hnc80 := NB169_176.out
       have hnb81 := NB176_0.out
       have hnc81 := NB0_176.out
       obtain ⟨hcz82_0, hcz82_1, hcz82_2, hcz82_3, hcz82_4, hcz82_5, hfz82_0, hfz82_1, hfz82_2, hfz82_3, hfz82_4, hfz82_5⟩ := cells6 BK176.out
       have hnb83 := NB169_0.out
       have hnc83 := NB0_169.out
       obtain ⟨hcz84_0, hcz84_1, hcz84_2, hcz84_3, hcz84_4, hcz84_5, hfz84_0, hfz84_1, hfz84_2, hfz84_3, hfz84_4, hfz84_5⟩ := cells6 BK169.out
       try go_wp2
       refine bodyPost_ret (results_cell_row rfl _ _ gb169 47 #[.bool (t170 == 0), .bool x177001_5, .int .i64 x177002_5, .int .i64 x177003_5, .int .i64 x177004_5, .slice Ao78 y209.length co78] (0, 0) _ rfl (tP BK169.out) Tryd.underlying47 rfl (by kernel_rfl)) rfl ?_
       exact ⟨_, by first | rfl | (simp [errW_none, errW_some] <;> rfl) | (simp [*, errW_none, errW_some] <;> rfl), by (with_reducible repeat (first | apply Kd.N_alloc | apply Kd.N_drewN | apply Kd.N_drew)); exact Kd.N_mono (Kd.N_far (p := ⟨gb169, 5, none⟩) (Kd.N_far (p := ⟨gb169, 4, none⟩) (Kd.N_far (p := ⟨gb169, 3, none⟩) (Kd.N_far (p := ⟨gb169, 2, none⟩) (Kd.N_far (p := ⟨gb169, 1, none⟩) (Kd.N_far (p := ⟨gb169, 0, none⟩) (Kd.N_far (p := ⟨gb176, 5, none⟩) (Kd.N_mono (Kd.N_mono HO211.out (fun k_ hk => (⟨hk, hk.2.2.1⟩ : _ ∧ k_ ≠ gb176))) (fun k_ hk => (⟨hk, hk.1.2.1⟩ : _ ∧ k_ ≠ gb169))) (fun _ hk => hk.1.2) (.slice Ao78 y209.length co78)) (fun _ hk => hk.2) (.bool (t170 == 0))) (fun _ hk => hk.2) (.bool x177001_5)) (fun _ hk => hk.2) (.int .i64 x177002_5)) (fun _ hk => hk.2) (.int .i64 x177003_5)) (fun _ hk => hk.2) (.int .i64 x177004_5)) (fun _ hk => hk.2) (.slice Ao78 y209.length co78)) (fun _ hk => hk.1.1.1), zi88, zb, zk⟩
      ·rw [if_neg c73] at H
       exact absurd H (by simp)
     ·rw [if_neg c72] at H
      exact absurd H (by simp)
    ·rw [if_neg c71] at H
     have c71b0 : (t200 == 1) = false := beq_eq_false_iff_ne.mpr c71
     have c71b1 : (t200 != 1) = true := bne_iff_ne.mpr c71
     by_cases c85 : t200 = 2
     ·rw [if_pos c85] at H
      have c85b0 : (t200 == 2) = true := beq_iff_eq.mpr c85
      have c85b1 : (t200 != 2) = false := bne_eq_false_iff_eq.mpr c85
      clear c85
      simp only [Option.some.injEq, Prod.mk.injEq] at H
      obtain ⟨rfl, rfl, rfl, rfl, rfl, rfl, rfl⟩ := H
      go_wp2_with (first | ((with_reducible refine gate_callee (f := 33) rfl ?_); refine goesL_ (some 40) rfl rfl Tryd.func33 (by kernel_rfl) rfl #[.pointer (some ⟨g, 0, none⟩), .int .i64 40] rfl tq ?_; (with_reducible refine (spec_l6Rd_pick.calls kj5 g s0_0 x1001_5 40 t200 t201 w0 _ ?side1 ?side2 A55.out).mono ?_); (case side1 => exact zi88); (case side2 => exact zb); rintro e w86 ⟨rfl, hi, hb, hk⟩; refine ⟨_, rfl, ?_⟩; replace HO_177005 := tNk HO_177005 hk; replace BK169 := tBk BK169 hk NB169_0; replace BK176 := tBk BK176 hk NB176_0; replace HK := tKt HK hk; replace HB := Aside0.mk (hb); replace HI0 := Aside0.mk (hi); (try clear hb); (try clear hb2); (try clear hk); (try clear hi); have hnb87 := NB176_169.out; have hnc87 := NB169_176.out; have hnb88 := NB176_0.out; have hnc88 := NB0_176.out; obtain ⟨hcz89_0, hcz89_1, hcz89_2, hcz89_3, hcz89_4, hcz89_5, hfz89_0, hfz89_1, hfz89_2, hfz89_3, hfz89_4, hfz89_5⟩ := cells6 BK176.out; have hnb90 := NB169_0.out; have hnc90 := NB0_169.out; obtain ⟨hcz91_0, hcz91_1, hcz91_2, hcz91_3, hcz91_4, hcz91_5, hfz91_0, hfz91_1, hfz91_2, hfz91_3, hfz91_4, hfz91_5⟩ := cells6 BK169.out; obtain ⟨Ao92, co92, eo92⟩ := Kd.N_slice HO_177005.out; subst eo92))
      refine bodyPost_ret (results_cell_row rfl _ _ gb169 47 #[.bool (t170 == 0), .bool (!x177001_5), .int .i64 x177002_5, .int .i64 x177003_5, .int .i64 x177004_5, .slice Ao92 x177005_5.length co92] (0, 0) _ rfl (tP BK169.out) Tryd.underlying47 rfl (by kernel_rfl)) rfl ?_
      exact ⟨_, by first | rfl | (simp [errW_none, errW_some] <;> rfl) | (simp [*, errW_none, errW_some] <;> rfl), by (with_reducible repeat (first | apply Kd.N_alloc | apply Kd.N_drewN | apply Kd.N_drew)); exact Kd.N_mono (Kd.N_far (p := ⟨gb169, 5, none⟩) (Kd.N_far (p := ⟨gb169, 4, none⟩) (Kd.N_far (p := ⟨gb169, 3, none⟩) (Kd.N_far (p := ⟨gb169, 2, none⟩) (Kd.N_far (p := ⟨gb169, 1, none⟩) (Kd.N_far (p := ⟨gb169, 0, none⟩) (Kd.N_far (p := ⟨gb176, 1, none⟩) (Kd.N_mono (Kd.N_mono HO_177005.out (fun k_ hk => (⟨hk, hk.2.2.1⟩ : _ ∧ k_ ≠ gb176))) (fun k_ hk => (⟨hk, hk.1.2.1⟩ : _ ∧ k_ ≠ gb169))) (fun _ hk => hk.1.2) (.bool (!x177001_5))) (fun _ hk => hk.2) (.bool (t170 == 0))) (fun _ hk => hk.2) (.bool (!x177001_5))) (fun _ hk => hk.2) (.int .i64 x177002_5)) (fun _ hk => hk.2) (.int .i64 x177003_5)) (fun _ hk => hk.2) (.int .i64 x177004_5)) (fun _ hk => hk.2) (.slice Ao92 x177005_5.length co92)) (fun _ hk => hk.1.1.1), zi88, zb, zk⟩
     ·rw [if_neg c85] at H
      have c85b0 : (t200 == 2) = false := beq_eq_false_iff_ne.mpr c85
      have c85b1 : (t200 != 2) = true := bne_iff_ne.mpr c85
      simp only [Option.some.injEq, Prod.mk.injEq] at H
      obtain ⟨rfl, rfl, rfl, rfl, rfl, rfl, rfl⟩ := H
      go_wp2_with (first | ((with_reducible refine gate_callee (f := 33) rfl ?_); refine goesL_ (some 40) rfl rfl Tryd.func33 (by kernel_rfl) rfl #[.pointer (some ⟨g, 0, none⟩), .int .i64 40] rfl tq ?_; (with_reducible refine (spec_l6Rd_pick.calls kj5 g s0_0 x1001_5 40 t200 t201 w0 _ ?side1 ?side2 A55.out).mono ?_); (case side1 => exact zi88); (case side2 => exact zb); rintro e w93 ⟨rfl, hi, hb, hk⟩; refine ⟨_, rfl, ?_⟩; replace HO_177005 := tNk HO_177005 hk; replace BK169 := tBk BK169 hk NB169_0; replace BK176 := tBk BK176 hk NB176_0; replace HK := tKt HK hk; replace HB := Aside0.mk (hb); replace HI0 := Aside0.mk (hi); (try clear hb); (try clear hb2); (try clear hk); (try clear hi); have hnb94 := NB176_169.out; have hnc94 := NB169_176.out; have hnb95 := NB176_0.out; have hnc95 := NB0_176.out; obtain ⟨hcz96_0, hcz96_1, hcz96_2, hcz96_3, hcz96_4, hcz96_5, hfz96_0, hfz96_1, hfz96_2, hfz96_3, hfz96_4, hfz96_5⟩ := cells6 BK176.out; have hnb97 := NB169_0.out; have hnc97 := NB0_169.out; obtain ⟨hcz98_0, hcz98_1, hcz98_2, hcz98_3, hcz98_4, hcz98_5, hfz98_0, hfz98_1, hfz98_2, hfz98_3, hfz98_4, hfz98_5⟩ := cells6 BK169.out; obtain ⟨Ao99, co99, eo99⟩ := Kd.N_slice HO_177005.out; subst eo99))
      refine bodyPost_ret (results_cell_row rfl _ _ gb169 47 #[.bool (t170 == 0), .bool x177001_5, .int .i64 x177002_5, .int .i64 x177003_5, .int .i64 x177004_5, .slice Ao99 x177005_5.length co99] (0, 0) _ rfl (tP BK169.out) Tryd.underlying47 rfl (by kernel_rfl)) rfl ?_
      exact ⟨_, by first | rfl | (simp [errW_none, errW_some] <;> rfl) | (simp [*, errW_none, errW_some] <;> rfl), tNm HO_177005.out, zi88, zb, zk⟩

end Go.Proofs.YtbbboachakkgiaaDoor.G

