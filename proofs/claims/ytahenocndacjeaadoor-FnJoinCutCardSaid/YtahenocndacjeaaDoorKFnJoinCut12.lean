/- A text of seat YtahenocndacjeaaDoor: what the law FnJoinCut needs of this repo's texts (by pack.py). Not trusted: Lean checks it. -/
import Derived.Test.YtahenocndacjeaaDoorKFnJoinCut11
import Derived.OwnWalkIn
namespace Go.Proofs.YtahenocndacjeaaDoor.G
open Go.RowKit Go.Proofs.YtahenocndacjeaaDoorW.PrintWords Go.Proofs.YtahenocndacjeaaDoorW.PrintLast Go.Proofs.YtahenocndacjeaaDoorW.PrintMore Go.Proofs.YtahenocndacjeaaDoor.Pu
set_option linter.unusedVariables false
set_option linter.unusedSimpArgs false
/-- The cells that hold a record. -/
def CellsR (W : World) (p : Addr) (r : S41) (A3 : Option Addr) (c3 : Nat) (A5 : Option Addr) (c5 : Nat) : Prop :=
  W.cell? p = some (.int .i64 r.f0) ∧ W.cell? ⟨p.block, p.off + 1, none⟩ = some (.int .i64 r.f1) ∧ W.cell? ⟨p.block, p.off + 2, none⟩ = some (.bool r.f2) ∧ W.cell? ⟨p.block, p.off + 3, none⟩ = some (.slice A3 r.f3.length c3) ∧ W.cell? ⟨p.block, p.off + 4, none⟩ = some (.bool r.f4) ∧ W.cell? ⟨p.block, p.off + 5, none⟩ = some (.slice A5 r.f5.length c5)
theorem CellsR.below {W W' : World} {p : Addr} {r : S41} {A3 A5 : Option Addr} {c3 c5 : Nat} (h : CellsR W p r A3 c3 A5 c5) (hb : Below W.heap.size W W') : CellsR W' p r A3 c3 A5 c5 := ⟨pw_cell_below hb h.1, pw_cell_below hb h.2.1, pw_cell_below hb h.2.2.1, pw_cell_below hb h.2.2.2.1, pw_cell_below hb h.2.2.2.2.1, pw_cell_below hb h.2.2.2.2.2⟩
theorem in_q (a b c : Int) (w : World) : Calls Tryd.prog 47 #[.int .i64 a, .int .i64 b, .int .i64 c] w fun e w' => e = .returned (.bool (decide (b ≤ a) && decide (a ≤ c))) ∧ ∃ n, w' = w.drewN n :=
  (spec_l6In.calls a b c _ w (in_ev a b c)).mono fun e w' h => ⟨h.1, h.2.out⟩
set_option maxRecDepth 100000 in
set_option maxHeartbeats 4000000 in
theorem specrecs_q (l : List S41) (A : Option Addr) (c : Nat) (w : World) (hr : Kd.C k41 w A l.length l) (hc : l.length ≤ c) :
    Calls Tryd.prog 46 #[.slice A l.length c] w fun e w' => e = .returned (.bool (recsInc l && lenOk l)) ∧ Below w.heap.size w w' := by
  have hl := hr.2.1
  have HR := Aside0.mk hr
  clear hr
  go_enter Tryd.func46, Tryd.ntmps46
  go_wp2
  go_loopw [3] (fun v3 wr => ∃ i : Nat, v3 = .int .i64 i ∧ i ≤ l.length ∧ (∀ j, j < i → recStep l j = true) ∧ Below w.heap.size w wr) (fun v3 _ => l.length - (intOf v3).toNat)
  case atStart => exact ⟨0, rfl, Nat.zero_le _, fun j hj => absurd hj (Nat.not_lt_zero j), Below.refl _ _⟩
  case round =>
    obtain ⟨i, rfl, hi, hall, hB1⟩ := hrel
    by_cases hlt : i < l.length
    · obtain ⟨ad, A3, c3, A5, c5, rfl, e0, e1, e2, e3, e4, e5, l3, g3, l5, g5⟩ := at_T41 (Kd.C_below HR.out hB1) (i : Int) (by omega) (by omega)
      rw [show ((i : Int)).toNat = i from rfl] at e0 e1 e2 e3 e4 e5
      have hrec : recStep l i = (recOk (rd_T41 l (i : Int)) && (decide (i = 0) || decide ((rd_T41 l ((i : Int) - 1)).f0 < (rd_T41 l (i : Int)).f0))) := rfl
      generalize rd_T41 l (i : Int) = ri at *
      have ci : CellsR wr (ad.add (i * 6)) ri A3 c3 A5 c5 := ⟨e0, e1, e2, e3, e4, e5⟩
      clear e0 e1 e2 e3 e4 e5
      go_wp2
      obtain ⟨kR, hkR⟩ := (sRecordValid_ev ri ⟨g3.2.1, g5.2.1⟩).rounds
      have hrc : ∀ (W2 : World), Below wr.heap.size wr W2 → Calls Tryd.prog 60 #[.agg #[.int .i64 ri.f0, .int .i64 ri.f1, .bool ri.f2, .slice A3 ri.f3.length c3, .bool ri.f4, .slice A5 ri.f5.length c5]] W2 fun e w' => e = .returned (.bool (recOk ri)) ∧ Below W2.heap.size W2 w' := fun (W2 : World) (hb : Below wr.heap.size wr W2) => spec_RecordValid.calls kR ri.f0 ri.f1 ri.f2 A3 c3 ri.f3 ri.f4 A5 c5 ri.f5 _ W2 (Kd.C_below g3 hb) l3 (Kd.C_below g5 hb) l5 hkR
      have HRC := Aside0.mk hrc
      clear hrc
      have kS : ∀ w' : World, Below wr.drew.heap.size wr.drew w' → CellsR w' (ad.add (i * 6)) ri A3 c3 A5 c5 ∧ Below wr.heap.size wr w' := fun w' h => ⟨ci.below (below_step (below_drew (Below.refl _ wr)) h), below_step (below_drew (Below.refl _ wr)) h⟩
      have hil : (i : Int) < (l.length : Int) := by omega
      rcases hok : recOk ri with _ | _ <;> rw [hok] at hkR HRC
      · have hno := Aside0.mk (incs_no hlt (hrec.trans (by rw [hok]; rfl)))
        refine r_begin (fun w' => CellsR w' (ad.add (i * 6)) ri A3 c3 A5 c5 ∧ Below wr.heap.size wr w') 24 (by kernel_rfl) rfl (kS _ (Below.refl _ _)) (fun hH => ?_)
        repeat (first | (refine r_skip (by kernel_rfl) (by rfl) (fun _ _ _ h => h) hH ?_; simp only [Act.put, List.setIfInBounds_toArray, List.set_cons_zero, List.set_cons_succ, Nat.reduceAdd]) | (refine r_go (v := ?_) (by kernel_rfl) (by rfl) (fun _ _ _ h => h) hH ?_ ?_; rotate_left; (focus (intro w hS; obtain ⟨⟨e0, e1, e2, e3, e4, e5⟩, e6⟩ := hS; go_simp; first | done | with_reducible rfl)); simp only [Act.put, List.setIfInBounds_toArray, List.set_cons_zero, List.set_cons_succ, Nat.reduceAdd]) | (fail "x"))
        refine r_one (by kernel_rfl) (by rfl) (fun K hK => ?_)
        go_simp
        go_at_call 60
        refine (HRC.out _ hH.2).mono ?_
        rintro e w2 ⟨rfl, hb⟩
        go_wp2_with fail
        refine hK.out _ _ (kS _ hb) (fun hH => ?_)
        clear hK K
        simp only [Act.put, List.setIfInBounds_toArray, List.set_cons_zero, List.set_cons_succ, Nat.reduceAdd]
        repeat (first | (refine r_skip (by kernel_rfl) (by rfl) (fun _ _ _ h => h) hH ?_; simp only [Act.put, List.setIfInBounds_toArray, List.set_cons_zero, List.set_cons_succ, Nat.reduceAdd]) | (refine r_go (v := ?_) (by kernel_rfl) (by rfl) (fun _ _ _ h => h) hH ?_ ?_; rotate_left; (focus (intro w hS; obtain ⟨⟨e0, e1, e2, e3, e4, e5⟩, e6⟩ := hS; go_simp; first | done | with_reducible rfl)); simp only [Act.put, List.setIfInBounds_toArray, List.set_cons_zero, List.set_cons_succ, Nat.reduceAdd]) | (fail "x"))
        refine r_done (by kernel_rfl) ?_
        go_wp2
        go_ret
        exact ⟨by rw [hno.out]; rfl, below_step hB1 hH.2⟩
      · rcases i with _ | j
        · have ez : ad.add (0 * 6) = ad := by go_simp
          rw [ez] at ci
          simp only [ez] at kS
          refine r_begin (fun w' => CellsR w' ad ri A3 c3 A5 c5 ∧ Below wr.heap.size wr w') 24 (by kernel_rfl) rfl (kS _ (Below.refl _ _)) (fun hH => ?_)
          repeat (first | (refine r_skip (by kernel_rfl) (by rfl) (fun _ _ _ h => h) hH ?_; simp only [Act.put, List.setIfInBounds_toArray, List.set_cons_zero, List.set_cons_succ, Nat.reduceAdd]) | (refine r_go (v := ?_) (by kernel_rfl) (by rfl) (fun _ _ _ h => h) hH ?_ ?_; rotate_left; (focus (intro w hS; obtain ⟨⟨e0, e1, e2, e3, e4, e5⟩, e6⟩ := hS; go_simp; first | done | with_reducible rfl)); simp only [Act.put, List.setIfInBounds_toArray, List.set_cons_zero, List.set_cons_succ, Nat.reduceAdd]) | (fail "x"))
          refine r_one (by kernel_rfl) (by rfl) (fun K hK => ?_)
          go_simp
          go_at_call 60
          refine (HRC.out _ hH.2).mono ?_
          rintro e w2 ⟨rfl, hb⟩
          go_wp2_with fail
          refine hK.out _ _ (kS _ hb) (fun hH => ?_)
          clear hK K
          simp only [Act.put, List.setIfInBounds_toArray, List.set_cons_zero, List.set_cons_succ, Nat.reduceAdd]
          repeat (first | (refine r_skip (by kernel_rfl) (by rfl) (fun _ _ _ h => h) hH ?_; simp only [Act.put, List.setIfInBounds_toArray, List.set_cons_zero, List.set_cons_succ, Nat.reduceAdd]) | (refine r_go (v := ?_) (by kernel_rfl) (by rfl) (fun _ _ _ h => h) hH ?_ ?_; rotate_left; (focus (intro w hS; obtain ⟨⟨e0, e1, e2, e3, e4, e5⟩, e6⟩ := hS; go_simp; first | done | with_reducible rfl)); simp only [Act.put, List.setIfInBounds_toArray, List.set_cons_zero, List.set_cons_succ, Nat.reduceAdd]) | (fail "x"))
          refine r_done (by kernel_rfl) ?_
          go_wp2
          go_roundw
          case rel =>
            have hst : ∀ j, j < 0 + 1 → recStep l j = true := by
              intro j hj
              obtain rfl : j = 0 := by omega
              exact hrec.trans (by rw [hok]; rfl)
            first | exact ⟨0 + 1, by simp, hlt, hst, below_step hB1 hH.2⟩ | ((repeat apply Exists.intro); refine ⟨⟨0 + 1, ?_, hlt, hst, below_step hB1 hH.2⟩, by first | rfl | (repeat' apply And.intro) <;> rfl⟩; simp)
          case measure => simp [intOf]; omega
        · obtain ⟨ad2, _, _, _, _, hq, f0, _⟩ := at_T41 (Kd.C_below HR.out hB1) (j : Int) (by omega) (by omega)
          cases hq
          rw [show ((j : Int)).toNat = j from rfl] at f0
          have hrec2 : recStep l (j + 1) = (recOk ri && (decide (j + 1 = 0) || decide ((rd_T41 l (j : Int)).f0 < ri.f0))) := by
            rw [hrec, show ((j + 1 : Nat) : Int) - 1 = (j : Int) by omega]
          generalize (rd_T41 l (j : Int)).f0 = pj at f0 hrec2
          have hwj : IntKind.i64.wrap (j : Int) = (j : Int) := by rw [i64_w]; unfold wrap64; omega
          have hjl : (j : Int) < (l.length : Int) := by omega
          have hjl1 : (j : Int) + 1 < (l.length : Int) := by omega
          have hj0 : (0 : Int) ≤ (j : Int) + 1 := by omega
          have htn : ((j : Int) + 1).toNat = j + 1 := by omega
          have kS2 : ∀ w' : World, Below wr.drew.heap.size wr.drew w' → (CellsR w' (ad.add ((j + 1) * 6)) ri A3 c3 A5 c5 ∧ Below wr.heap.size wr w') ∧ w'.cell? (ad.add (j * 6)) = some (.int .i64 pj) := fun w' h => ⟨kS w' h, pw_cell_below (below_step (below_drew (Below.refl _ wr)) h) f0⟩
          have hno := Aside0.mk hrec2
          clear hrec hrec2
          refine r_begin (fun w' => (CellsR w' (ad.add ((j + 1) * 6)) ri A3 c3 A5 c5 ∧ Below wr.heap.size wr w') ∧ w'.cell? (ad.add (j * 6)) = some (.int .i64 pj)) 24 (by kernel_rfl) rfl (kS2 _ (Below.refl _ _)) (fun hH => ?_)
          repeat (first | (refine r_skip (by kernel_rfl) (by rfl) (fun _ _ _ h => h) hH ?_; simp only [Act.put, List.setIfInBounds_toArray, List.set_cons_zero, List.set_cons_succ, Nat.reduceAdd]) | (refine r_go (v := ?_) (by kernel_rfl) (by rfl) (fun _ _ _ h => h) hH ?_ ?_; rotate_left; (focus (intro w hS; obtain ⟨⟨⟨e0, e1, e2, e3, e4, e5⟩, e6⟩, e7⟩ := hS; go_simp; first | done | with_reducible rfl)); simp only [Act.put, List.setIfInBounds_toArray, List.set_cons_zero, List.set_cons_succ, Nat.reduceAdd]) | (fail "x"))
          refine r_one (by kernel_rfl) (by rfl) (fun K hK => ?_)
          go_simp
          go_at_call 60
          refine (HRC.out _ hH.1.2).mono ?_
          rintro e w2 ⟨rfl, hb⟩
          go_wp2_with fail
          refine hK.out _ _ (kS2 _ hb) (fun hH => ?_)
          clear hK K
          simp only [Act.put, List.setIfInBounds_toArray, List.set_cons_zero, List.set_cons_succ, Nat.reduceAdd]
          repeat (first | (refine r_skip (by kernel_rfl) (by rfl) (fun _ _ _ h => h) hH ?_; simp only [Act.put, List.setIfInBounds_toArray, List.set_cons_zero, List.set_cons_succ, Nat.reduceAdd]) | (refine r_go (v := ?_) (by kernel_rfl) (by rfl) (fun _ _ _ h => h) hH ?_ ?_; rotate_left; (focus (intro w hS; obtain ⟨⟨⟨e0, e1, e2, e3, e4, e5⟩, e6⟩, e7⟩ := hS; go_simp; first | done | with_reducible rfl)); simp only [Act.put, List.setIfInBounds_toArray, List.set_cons_zero, List.set_cons_succ, Nat.reduceAdd]) | (fail "x"))
          refine r_done (by kernel_rfl) ?_
          have hBw := below_step hB1 hH.1.2
          by_cases hlt2 : pj < ri.f0
          · have hst : ∀ j', j' < j + 1 + 1 → recStep l j' = true := by
              intro j' hj
              by_cases h' : j' < j + 1
              · exact hall j' h'
              · obtain rfl : j' = j + 1 := by omega
                rw [hno.out, hok, decide_eq_true hlt2, Bool.or_true]; rfl
            have hng : ¬ ri.f0 ≤ pj := by omega
            go_wp2
            go_roundw
            case rel => first | exact ⟨j + 1 + 1, by simp, hlt, hst, hBw⟩ | ((repeat apply Exists.intro); refine ⟨⟨j + 1 + 1, ?_, hlt, hst, hBw⟩, by first | rfl | (repeat' apply And.intro) <;> rfl⟩; simp)
            case measure => simp [intOf]; omega
          · have hn2 := Aside0.mk (incs_no hlt (hno.out.trans (by rw [hok, decide_eq_false hlt2, decide_eq_false (show ¬ j + 1 = 0 by omega)]; rfl)))
            have hng : ri.f0 ≤ pj := by omega
            go_wp2
            go_ret
            exact ⟨by rw [hn2.out]; rfl, hBw⟩
    · obtain rfl : i = l.length := by omega
      go_wp2_with (go_at_call 47; refine (in_q _ _ _ _).mono ?_; rintro e w' ⟨rfl, ⟨n, rfl⟩⟩)
      go_ret
      exact ⟨by rw [incs_of hall]; rfl, pw_below_drewN hB1 _⟩
def batTail (b : S25) : Bool := if b.f2 = 255 then decide (b.f3 = 0) && (decide (b.f4 = 0) && !b.f1) else (!b.f1 || decide ((b.f5.length : Int) = 1))
theorem batOk_spec (b : S25) : batOk b = ((recsInc b.f5 && lenOk b.f5) && ((decide (0 ≤ b.f2) && decide (b.f2 ≤ 255)) && ((decide (0 ≤ b.f3) && decide (b.f3 ≤ 99)) && ((decide (0 ≤ b.f4) && decide (b.f4 ≤ 9999)) && batTail b)))) := by
  unfold batOk headOk batTail
  by_cases h : b.f2 = 255
  · rw [if_pos h, if_pos h, h]
    cases recsInc b.f5
    · simp
    · rw [Bool.eq_iff_iff]
      simp only [lenOk, Bool.and_eq_true, Bool.or_eq_true, decide_eq_true_eq, Bool.not_eq_true']
      constructor
      · rintro ⟨⟨h3, h4, h1⟩, hl, hm, _⟩
        exact ⟨⟨trivial, hl⟩, ⟨by omega, by omega⟩, ⟨by omega, by omega⟩, ⟨by omega, by omega⟩, h3, h4, h1⟩
      · rintro ⟨⟨_, hl⟩, _, _, _, h3, h4, h1⟩
        exact ⟨⟨h3, h4, h1⟩, hl, .inl h1, trivial⟩
  · rw [if_neg h, if_neg h]
    rw [Bool.eq_iff_iff]
    simp only [Bool.and_eq_true, decide_eq_true_eq]
    constructor
    · rintro ⟨⟨h2, h3, h4⟩, hl, hm, hr⟩
      exact ⟨⟨hr, hl⟩, ⟨by omega, by omega⟩, h3, h4, hm⟩
    · rintro ⟨⟨hr, hl⟩, h2, h3, h4, hm⟩
      exact ⟨⟨⟨by omega, by omega⟩, h3, h4⟩, hl, hm, hr⟩
theorem sb_no {b2 b3 b4 : Int} {x : Bool} (h : ¬(0 ≤ b2 ∧ b2 ≤ 255) ∨ ¬(0 ≤ b3 ∧ b3 ≤ 99) ∨ ((!decide (0 ≤ b4)) = true ∨ (!decide (b4 ≤ 9999)) = true)) : Ending.returned (.bool false) = .returned (.bool (true && ((decide (0 ≤ b2) && decide (b2 ≤ 255)) && ((decide (0 ≤ b3) && decide (b3 ≤ 99)) && ((decide (0 ≤ b4) && decide (b4 ≤ 9999)) && x))))) := by
  congr 2
  grind
theorem sb_t {b2 b3 b4 : Int} {x y : Bool} (h2 : 0 ≤ b2 ∧ b2 ≤ 255) (h3 : 0 ≤ b3 ∧ b3 ≤ 99) (h4 : (!decide (0 ≤ b4)) = false ∧ (!decide (b4 ≤ 9999)) = false) (hx : x = y) : Ending.returned (.bool y) = .returned (.bool (true && ((decide (0 ≤ b2) && decide (b2 ≤ 255)) && ((decide (0 ≤ b3) && decide (b3 ≤ 99)) && ((decide (0 ≤ b4) && decide (b4 ≤ 9999)) && x))))) := by
  subst hx
  congr 2
  grind
section
variable {b0 b1 : Bool} {b2 b3 b4 : Int} {l : List S41}
theorem tl1 (h : (b2 == 255) = true) (h3 : b3 = 0) (h4 : b4 = 0) : batTail ⟨b0, b1, b2, b3, b4, l⟩ = !b1 := by unfold batTail; grind
theorem tl2 (h : (b2 == 255) = true) (h3 : b3 = 0) (h4 : ¬ b4 = 0) : batTail ⟨b0, b1, b2, b3, b4, l⟩ = false := by unfold batTail; grind
theorem tl3 (h : (b2 == 255) = true) (h3 : ¬ b3 = 0) : batTail ⟨b0, b1, b2, b3, b4, l⟩ = false := by unfold batTail; grind
theorem tl4 (h : (b2 == 255) = false) (h1 : b1 = true) : batTail ⟨b0, b1, b2, b3, b4, l⟩ = ((l.length : Int) == 1) := by unfold batTail; grind
theorem tl5 (h : (b2 == 255) = false) (h1 : ¬ b1 = true) : batTail ⟨b0, b1, b2, b3, b4, l⟩ = true := by unfold batTail; grind
end
set_option maxRecDepth 100000 in
set_option maxHeartbeats 4000000 in
theorem specbat_q (b : S25) (A : Option Addr) (c : Nat) (w : World) (hr : Kd.C k41 w A b.f5.length b.f5) (hc : b.f5.length ≤ c) :
    Calls Tryd.prog 28 #[.agg #[.bool b.f0, .bool b.f1, .int .i64 b.f2, .int .i64 b.f3, .int .i64 b.f4, .slice A b.f5.length c]] w fun e w' => e = .returned (.bool (batOk b)) ∧ Below w.heap.size w w' := by
  rw [batOk_spec]
  obtain ⟨b0, b1, b2, b3, b4, l⟩ := b
  simp only at hr hc ⊢
  have hl := hr.2.1
  have HL := Aside0.mk (fun (W2 : World) (hb : Below w.heap.size w W2) => specrecs_q l A c W2 (Kd.C_below hr hb) hc)
  clear hr
  rcases hok : (recsInc l && lenOk l) with _ | _ <;> rw [hok] at HL
  · go_enter Tryd.func28, Tryd.ntmps28
    go_wp2_with (go_at_call 46; refine (HL.out _ (below_alloc (Below.refl _ _) _)).mono ?_; rintro e w1 ⟨rfl, hb⟩)
    go_ret
    exact ⟨rfl, below_step (below_alloc (Below.refl _ _) _) hb⟩
  · go_enter Tryd.func28, Tryd.ntmps28
    go_wp2_with (first | (go_at_call 47; refine (in_q _ _ _ _).mono ?_; rintro e w' ⟨rfl, ⟨n, rfl⟩⟩) | (go_at_call 46; refine (HL.out _ (below_alloc (Below.refl _ _) _)).mono ?_; rintro e w1 ⟨rfl, hb⟩; have hB := below_step (below_alloc (Below.refl _ _) _) hb; have hw := blk_below (heap_alloc_new w _) hb; have q1 := blk_cell hw 1; have q2 := blk_cell hw 2; have q3 := blk_cell hw 3; have q4 := blk_cell hw 4; have q5 := blk_cell hw 5; clear hb hw))
    all_goals (go_ret; exact ⟨by first | exact sb_no (.inl ‹_›) | exact sb_no (.inr (.inl ‹_›)) | exact sb_no (.inr (.inr ‹_›)) | exact sb_t ‹_› ‹_› ‹_› (tl1 ‹_› ‹_› ‹_›) | exact sb_t ‹_› ‹_› ‹_› (tl2 ‹_› ‹_› ‹_›) | exact sb_t ‹_› ‹_› ‹_› (tl3 ‹_› ‹_›) | exact sb_t ‹_› ‹_› ‹_› (tl4 ‹_› ‹_›) | exact sb_t ‹_› ‹_› ‹_› (tl5 ‹_› ‹_›), pw_below_drewN hB _⟩)
def spec_BatchValid.f (k : Nat) (a0 : Bool) (a1 : Bool) (a2 a3 a4 : Int) (a5 : List S41) : Option Bool := some (batOk ⟨a0, a1, a2, a3, a4, a5⟩)
theorem spec_BatchValid.calls (k : Nat) (a0_0 : Bool) (a0_1 : Bool) (a0_2 : Int) (a0_3 : Int) (a0_4 : Int) (A0_5 : Option Addr) (c0_5 : Nat) (l0_5 : List (S41)) (r : Bool) (w : World) (hr0_5 : Kd.C k41 w A0_5 l0_5.length l0_5) (hc0_5 : l0_5.length ≤ c0_5) (h : spec_BatchValid.f k a0_0 a0_1 a0_2 a0_3 a0_4 l0_5 = some r) :
    Calls Tryd.prog 28 #[.agg #[.bool a0_0, .bool a0_1, .int .i64 a0_2, .int .i64 a0_3, .int .i64 a0_4, .slice A0_5 l0_5.length c0_5]] w fun e w' => e = .returned (.bool r) ∧ Below w.heap.size w w' := by
  obtain rfl := Option.some.inj h
  exact specbat_q ⟨a0_0, a0_1, a0_2, a0_3, a0_4, l0_5⟩ A0_5 c0_5 w hr0_5 hc0_5
end Go.Proofs.YtahenocndacjeaaDoor.G

namespace Go.Proofs.YtahenocndacjeaaDoor.G
open Go.RowKit Go.Proofs.YtahenocndacjeaaDoorW.PrintWords Go.Proofs.YtahenocndacjeaaDoorW.PrintLast Go.Proofs.YtahenocndacjeaaDoorW.PrintMore
attribute [local go_sem] max2_int min2_int max_two min_two max_three min_three max_four min_four   -- for this text's walks alone
set_option linter.unusedVariables false
set_option linter.unusedSimpArgs false

def spec_l12Copy.f (a0_0 : Int) (a0_1 : Int) (a0_2 : Bool) (l0_3 : List Int) (a0_4 : Bool) (l0_5 : List Int) : Option (Int × Int × Bool × List Int × Bool × List Int) := (some (([] : List Int) : List Int)).bind fun y328 => (if y328.length + l0_3.length < 17592186044416 then ((some (([] : List Int) : List Int)).bind fun y334 => (if y334.length + l0_5.length < 17592186044416 then (some (a0_0, a0_1, a0_2, (y328 ++ l0_3), a0_4, (y334 ++ l0_5))) else (none))) else (none))
set_option maxHeartbeats 8000000 in
set_option maxRecDepth 100000 in
theorem spec_l12Copy.calls (a0_0 : Int) (a0_1 : Int) (a0_2 : Bool) (A0_3 : Option Addr) (c0_3 : Nat) (l0_3 : List Int) (a0_4 : Bool) (A0_5 : Option Addr) (c0_5 : Nat) (l0_5 : List Int) (r1 : Int) (r2 : Int) (r3 : Bool) (r4 : List Int) (r5 : Bool) (r6 : List Int) (w : World) (hr0_3 : Kd.C (Kd.int .i64) w A0_3 l0_3.length l0_3) (hc0_3 : l0_3.length ≤ c0_3) (hr0_5 : Kd.C (Kd.int .i64) w A0_5 l0_5.length l0_5) (hc0_5 : l0_5.length ≤ c0_5) (h : spec_l12Copy.f a0_0 a0_1 a0_2 l0_3 a0_4 l0_5 = some (r1, r2, r3, r4, r5, r6)) :
  Calls Tryd.prog 48 #[.agg #[.int .i64 a0_0, .int .i64 a0_1, .bool a0_2, .slice A0_3 l0_3.length c0_3, .bool a0_4, .slice A0_5 l0_5.length c0_5]] w fun e w' => ∃ v3_ v5_ : Value, e = .returned (.agg #[.int .i64 r1, .int .i64 r2, .bool r3, v3_, .bool r5, v5_]) ∧ Kd.R (Kd.int .i64) 3 w' w.heap.size (fun k_ => some k_ ≠ (v5_ : Value).ownBlock) v3_ r4 ∧ Kd.R (Kd.int .i64) 3 w' w.heap.size (fun k_ => some k_ ≠ (v3_ : Value).ownBlock) v5_ r6 ∧ Below w.heap.size w w' := by
 have hu41 := Tryd.underlying41
 have HR0_3 := Aside0.mk hr0_3
 have HC0_3 := Aside0.mk hc0_3
 clear hr0_3 hc0_3
 have HR0_5 := Aside0.mk hr0_5
 have HC0_5 := Aside0.mk hc0_5
 clear hr0_5 hc0_5
 have HB := Aside0.mk (Below.refl w.heap.size w)
 have H : ((some (([] : List Int) : List Int)).bind fun y328 => (if y328.length + l0_3.length < 17592186044416 then ((some (([] : List Int) : List Int)).bind fun y334 => (if y334.length + l0_5.length < 17592186044416 then (some (a0_0, a0_1, a0_2, (y328 ++ l0_3), a0_4, (y334 ++ l0_5))) else (none))) else (none))) = some (r1, r2, r3, r4, r5, r6) := h
 clear h
 obtain ⟨y328, hy328⟩ : ∃ y_ : List Int, y_ = (([] : List Int)) := ⟨_, rfl⟩
 replace H : (if y328.length + l0_3.length < 17592186044416 then ((some (([] : List Int) : List Int)).bind fun y334 => (if y334.length + l0_5.length < 17592186044416 then (some (a0_0, a0_1, a0_2, (y328 ++ l0_3), a0_4, (y334 ++ l0_5))) else (none))) else (none)) = some (r1, r2, r3, r4, r5, r6) := by first | (rw [hy328]; with_reducible exact H) | (have H2_ := (Option.bind_some _ _).symm.trans H; rw [hy328]; with_reducible exact H2_) | (have H2_ := (Option.bind_some _ _).symm.trans H; with_reducible exact H2_) | with_reducible exact H | (rw [hy328]; exact H) | exact H
 have Ny328 := Aside0.mk hy328
 clear hy328
 by_cases c2 : y328.length + l0_3.length < 17592186044416
 ·rw [if_pos c2] at H
  have LMc2 := Aside0.mk c2
  clear c2
  obtain ⟨y331, hy331⟩ : ∃ y_ : List Int, y_ = (y328 ++ l0_3) := ⟨_, rfl⟩
  replace H : ((some (([] : List Int) : List Int)).bind fun y334 => (if y334.length + l0_5.length < 17592186044416 then (some (a0_0, a0_1, a0_2, y331, a0_4, (y334 ++ l0_5))) else (none))) = some (r1, r2, r3, r4, r5, r6) := by first | (rw [hy331]; with_reducible exact H) | (have H2_ := (Option.bind_some _ _).symm.trans H; rw [hy331]; with_reducible exact H2_) | (have H2_ := (Option.bind_some _ _).symm.trans H; with_reducible exact H2_) | with_reducible exact H | (rw [hy331]; exact H) | exact H
  have Ny331 := Aside0.mk hy331
  clear hy331
  obtain ⟨y334, hy334⟩ : ∃ y_ : List Int, y_ = (([] : List Int)) := ⟨_, rfl⟩
  replace H : (if y334.length + l0_5.length < 17592186044416 then (some (a0_0, a0_1, a0_2, y331, a0_4, (y334 ++ l0_5))) else (none)) = some (r1, r2, r3, r4, r5, r6) := by first | (rw [hy334]; with_reducible exact H) | (have H2_ := (Option.bind_some _ _).symm.trans H; rw [hy334]; with_reducible exact H2_) | (have H2_ := (Option.bind_some _ _).symm.trans H; with_reducible exact H2_) | with_reducible exact H | (rw [hy334]; exact H) | exact H
  have Ny334 := Aside0.mk hy334
  clear hy334
  by_cases c3 : y334.length + l0_5.length < 17592186044416
  ·rw [if_pos c3] at H
   have LMc3 := Aside0.mk c3
   clear c3
   obtain ⟨y337, hy337⟩ : ∃ y_ : List Int, y_ = (y334 ++ l0_5) := ⟨_, rfl⟩
   replace H : (some (a0_0, a0_1, a0_2, y331, a0_4, y337)) = some (r1, r2, r3, r4, r5, r6) := by first | (rw [hy337]; with_reducible exact H) | (have H2_ := (Option.bind_some _ _).symm.trans H; rw [hy337]; with_reducible exact H2_) | (have H2_ := (Option.bind_some _ _).symm.trans H; with_reducible exact H2_) | with_reducible exact H | (rw [hy337]; exact H) | exact H
   have Ny337 := Aside0.mk hy337
   clear hy337
   simp only [Option.some.injEq, Prod.mk.injEq] at H
   obtain ⟨rfl, rfl, rfl, rfl, rfl, rfl⟩ := H
   go_enter Tryd.func48, Tryd.ntmps48
   go_wp2_with (first | ((with_reducible refine gate_dst (N := 1) rfl ?_); refine box_event ?hg (N := 1) ?hd (cs := #[.int .i64 a0_0, .int .i64 a0_1, .bool a0_2, .slice A0_3 l0_3.length c0_3, .bool a0_4, .slice A0_5 l0_5.length c0_5]) (t := 41) ?hr ?_; (case hd => rfl); (case hg => rfl); (case hr => first | (go_simp; done) | (go_simp; rfl)); intro gb326 hg w4 hbox hb; have BK326 := Aside0.mk (hbox); have GW326 := tge HB hg; have GE326 := tge HB hg; replace HB := tBs HB hb; clear hb hbox hg) | ((with_reducible refine gate_dst (N := 2) rfl ?_); refine box_event ?hg (N := 2) ?hd (cs := #[.int .i64 0, .int .i64 0, .bool false, .slice none 0 0, .bool false, .slice none 0 0]) (t := 41) ?hr ?_; (case hd => rfl); (case hg => rfl); (case hr => first | (go_simp; done) | (go_simp; rfl)); intro gb327 hg w5 hbox hb; have BK327 := Aside0.mk (hbox); have GW327 := tge HB hg; have GE327 := tge HB hg; replace HB := tBs HB hb; have NB326_327 := tlt BK326 hg; have NB327_326 := tgt BK326 hg; replace BK326 := tBb BK326 hb; clear hb hbox hg) | ((with_reducible refine gate_dst (N := 3) rfl ?_); refine Kd.R_lit (Kd.int .i64) _ 3 ?hg (N := 3) ?hd (xs := ([] : List Int)) (inner := []) (ok := fun _ => True) (okp := fun _ => True) ?hr ?hp (fun _ hk => hk) trivial (Below.refl _ _) (Nat.le_refl _) (by simp) ?_; (case hd => rfl); (case hg => rfl); (case hr => first | (go_simp; done) | (go_simp; rfl)); (case hp => exact (Reps.none _ _)); intro v329 w6 ho7 hb hg_ hnew_; clear hg_ hnew_; (first | rw [← Ny328.out] at ho7 | (simp only [Int.reduceToNat] at ho7; rw [← Ny328.out] at ho7)); have HO330 := tRl ho7 HB; replace BK326 := tBb BK326 hb; replace BK327 := tBb BK327 hb; replace HB := tBs HB hb; clear hb ho7; have hnb8 := NB326_327.out; have hnc8 := NB327_326.out; obtain ⟨hcz9_0, hcz9_1, hcz9_2, hcz9_3, hcz9_4, hcz9_5, hfz9_0, hfz9_1, hfz9_2, hfz9_3, hfz9_4, hfz9_5⟩ := cells6 BK326.out) | ((with_reducible refine gate_builtin (b := .append) (xs := #[.tmp 3, .tmp 5]) rfl ?_); at_builtin; refine Kd.R_append_rows (Kd.int .i64) (w0 := w) w.heap.size rfl (.tmp 3) (.tmp 5) 39 3 (.int .i64 0) 8 rfl Tryd.underlying39 info3 rfl (by decide) (by omega) v329 y328 l0_3 _ _ _ (fun _ => True) (fun _ => False) rfl rfl ?aO ?aR (fun _ _ h => h) (fun _ h => h.elim) ?aF ?aB ?aS ?aL ?_; (case aR => exact tC (Kd.C_below HR0_3.out HB.out)); (case aB => exact zb); (case aF => exact (fun _ _ => trivial)); (case aO => exact (tR HO330.out)); (case aS => exact (below_size zb)); (case aL => have := LMc2.out; omega); intro v332 w10 ho hb hg hat; rw [← Ny331.out] at ho; replace BK326 := Aside0.mk (blk_grown (tH BK326.out) hg (Kd.R_ne HO330.out BK326.out (by decide))); replace BK327 := Aside0.mk (blk_grown (tH BK327.out) hg (Kd.R_ne HO330.out BK327.out (by decide))); replace HB := Aside0.mk (hb); have HO333 := Aside0.mk (ho); clear HO330; clear ho hb hg hat; obtain ⟨Ao11, co11, eo11⟩ := Kd.R_slice HO333.out; subst eo11; obtain ⟨hcz12_0, hcz12_1, hcz12_2, hcz12_3, hcz12_4, hcz12_5, hfz12_0, hfz12_1, hfz12_2, hfz12_3, hfz12_4, hfz12_5⟩ := cells6 BK326.out) | ((with_reducible refine gate_dst (N := 8) rfl ?_); refine Kd.R_lit (Kd.int .i64) _ 3 ?hg (N := 8) ?hd (xs := ([] : List Int)) (inner := []) (ok := fun _ => True) (okp := fun _ => True) ?hr ?hp (fun _ hk => hk) trivial (Below.refl _ _) (Nat.le_refl _) (by simp) ?_; (case hd => rfl); (case hg => rfl); (case hr => first | (go_simp; done) | (go_simp; rfl)); (case hp => exact (Reps.none _ _)); intro v335 w13 ho14 hb hg_ hnew_; clear hg_ hnew_; (first | rw [← Ny334.out] at ho14 | (simp only [Int.reduceToNat] at ho14; rw [← Ny334.out] at ho14)); have HO336 := Aside0.mk (Kd.R_lower (Kd.R_new' ho14 (Kd.R_lt (tRt HO333.out BK326.out))) (below_size zb)); replace HO333 := Aside0.mk (Kd.R_elder' (tRt HO333.out BK326.out) (Kd.R_base ho14) hb); replace BK326 := tBp (o' := .cells #[.int .i64 a0_0, .int .i64 a0_1, .bool a0_2, .slice Ao11 y331.length co11, .bool a0_4, .slice A0_5 l0_5.length c0_5] 41 (0, 0)) BK326 hb; replace BK327 := tBb BK327 hb; replace HB := tBs HB hb; clear hb ho14; obtain ⟨hcz15_0, hcz15_1, hcz15_2, hcz15_3, hcz15_4, hcz15_5, hfz15_0, hfz15_1, hfz15_2, hfz15_3, hfz15_4, hfz15_5⟩ := cells6 BK326.out) | ((with_reducible refine gate_builtin (b := .append) (xs := #[.tmp 8, .tmp 10]) rfl ?_); at_builtin; refine Kd.R_append_rows (Kd.int .i64) (w0 := w) w.heap.size rfl (.tmp 8) (.tmp 10) 39 3 (.int .i64 0) 8 rfl Tryd.underlying39 info3 rfl (by decide) (by omega) v335 y334 l0_5 _ _ _ (fun k_ => some k_ ≠ (.slice Ao11 y331.length co11 : Value).ownBlock) (fun _ => False) rfl rfl ?aO ?aR (fun _ _ h => h) (fun _ h => h.elim) ?aF ?aB ?aS ?aL ?_; (case aR => exact tC (Kd.C_below HR0_5.out HB.out)); (case aB => exact zb); (case aF => exact (fun k_ hk => Kd.fresh' (Kd.R_lt (tR HO333.out)) k_ hk)); (case aO => exact (tRm HO336.out)); (case aS => exact (below_size zb)); (case aL => have := LMc3.out; omega); intro v338 w16 ho hb hg hat; rw [← Ny337.out] at ho; replace BK326 := Aside0.mk (blk_grown (tH BK326.out) hg (Kd.R_ne HO336.out BK326.out (by decide))); replace BK327 := Aside0.mk (blk_grown (tH BK327.out) hg (Kd.R_ne HO336.out BK327.out (by decide))); replace HO333 := Aside0.mk (Kd.R_after (ok := (fun _ => True)) (tR HO333.out) hg hat); replace HB := Aside0.mk (hb); have HO339 := Aside0.mk (ho); clear HO336; clear ho hb hg hat; obtain ⟨Ao17, co17, eo17⟩ := Kd.R_slice HO339.out; subst eo17; obtain ⟨hcz18_0, hcz18_1, hcz18_2, hcz18_3, hcz18_4, hcz18_5, hfz18_0, hfz18_1, hfz18_2, hfz18_3, hfz18_4, hfz18_5⟩ := cells6 BK326.out; obtain ⟨hcz19_0, hcz19_1, hcz19_2, hcz19_3, hcz19_4, hcz19_5, hfz19_0, hfz19_1, hfz19_2, hfz19_3, hfz19_4, hfz19_5⟩ := cells6 BK327.out))
   refine bodyPost_ret (results_cell_row rfl _ _ gb327 41 #[.int .i64 a0_0, .int .i64 a0_1, .bool a0_2, .slice Ao11 y331.length co11, .bool a0_4, .slice Ao17 y337.length co17] (0, 0) _ rfl (tP BK327.out) Tryd.underlying41 rfl (by kernel_rfl)) rfl ?_
   exact ⟨_, _, by first | rfl | (simp [errW_none, errW_some] <;> rfl) | (simp [*, errW_none, errW_some] <;> rfl), tRm (Kd.R_types (Kd.R_types HO333.out BK326.out (by decide)) BK327.out (by decide)), tRm (Kd.R_types (Kd.R_types HO339.out BK326.out (by decide)) BK327.out (by decide)), zb⟩
  ·rw [if_neg c3] at H
   exact absurd H (by simp)
 ·rw [if_neg c2] at H
  exact absurd H (by simp)

def spec_l31Free.l0 : Nat → List (S41) → Int → Bool → Bool → Int → Int → Int → List (S41) → Option (Bool × Bool × Int × Int × Int × (List (S41)))
 | 0, _, _, _, _, _, _, _, _ => none
 | k + 1, x1, x6, x345000, x345001, x345002, x345003, x345004, x345005 => if x6 < (x1.length : Int) then (if 0 ≤ x6 then ((spec_l12Copy.f ((rd_T41 x1 x6).f0) ((rd_T41 x1 x6).f1) ((rd_T41 x1 x6).f2) ((rd_T41 x1 x6).f3) ((rd_T41 x1 x6).f4) ((rd_T41 x1 x6).f5)).bind fun bt346 => (if x345005.length < 1759218604441 then (spec_l31Free.l0 k x1 (wrap64 (x6 + 1)) x345000 x345001 x345002 x345003 x345004 (x345005 ++ [(⟨bt346.1, bt346.2.1, bt346.2.2.1, bt346.2.2.2.1, bt346.2.2.2.2.1, bt346.2.2.2.2.2⟩ : S41)])) else (none))) else (none)) else (some (x345000, x345001, x345002, x345003, x345004, x345005))
def spec_l31Free.f (k : Nat) (a0 : Bool) (l1 : List (S41)) : Option (Bool × Bool × Int × Int × Int × (List (S41))) := spec_l31Free.l0 k l1 0 a0 false 255 0 0 (([] : List (S41)))
def spec_l31Free.T5 : Bool × List (List Nat × List Nat) := (true, [([], []), ([0], [0]), ([], []), ([], []), ([2, 3], [2, 3]), ([4], [4]), ([5], [5]), ([6], [6]), ([1, 7, 6], [1, 7]), ([0, 1, 2, 3, 4, 5, 6, 7, 8], []), ([9, 8, 8, 0, 1, 2, 3, 4, 5, 6, 7, 8], [8, 9])])
def spec_l31Free.B5 : List Nat := [0, 1, 0, 0, 12, 28, 60, 124, 255, 511, 1023]
theorem spec_l31Free.tab5 : rtab .any (opsOf Tryd.f29 5) = spec_l31Free.T5 := by kernel_rfl
theorem spec_l31Free.bits5 : waitsOk spec_l31Free.T5.2 spec_l31Free.B5 = true := by kernel_rfl
set_option maxHeartbeats 8000000 in
set_option maxRecDepth 100000 in
theorem spec_l31Free.calls (k : Nat) (a0 : Bool) (A1 : Option Addr) (c1 : Nat) (l1 : List (S41)) (r1 : Bool) (r2 : Bool) (r3 : Int) (r4 : Int) (r5 : Int) (r6 : List (S41)) (w : World) (hr1 : Kd.C k41 w A1 l1.length l1) (hc1 : l1.length ≤ c1) (h : spec_l31Free.f k a0 l1 = some (r1, r2, r3, r4, r5, r6)) :
  Calls Tryd.prog 29 #[.bool a0, .slice A1 l1.length c1] w fun e w' => ∃ v5_ : Value, e = .returned (.agg #[.bool r1, .bool r2, .int .i64 r3, .int .i64 r4, .int .i64 r5, v5_]) ∧ Kd.S k41 41 w' w.heap.size (fun _ => True) v5_ r6 ∧ Below w.heap.size w w' := by
 have hu25 := Tryd.underlying25
 have hu41 := Tryd.underlying41
 have HR1 := Aside0.mk hr1
 have HC1 := Aside0.mk hc1
 clear hr1 hc1
 have HB := Aside0.mk (Below.refl w.heap.size w)
 have H : (spec_l31Free.l0 k l1 0 a0 false 255 0 0 (([] : List (S41)))) = some (r1, r2, r3, r4, r5, r6) := h
 clear h
 obtain ⟨y341, hy341⟩ : ∃ y_ : List (S41), y_ = (([] : List (S41))) := ⟨_, rfl⟩
 replace H : (spec_l31Free.l0 k l1 0 a0 false 255 0 0 y341) = some (r1, r2, r3, r4, r5, r6) := by first | (rw [hy341]; with_reducible exact H) | (have H2_ := (Option.bind_some _ _).symm.trans H; rw [hy341]; with_reducible exact H2_) | (have H2_ := (Option.bind_some _ _).symm.trans H; with_reducible exact H2_) | with_reducible exact H | (rw [hy341]; exact H) | exact H
 have Ny341 := Aside0.mk hy341
 clear hy341
 have H' := Aside0.mk H
 clear H
 go_enter Tryd.func29, Tryd.ntmps29
 go_wp2_with (first | ((with_reducible refine gate_dst (N := 4) rfl ?_); refine box_event ?hg (N := 4) ?hd (cs := #[.bool false, .bool false, .int .i64 0, .int .i64 0, .int .i64 0, .slice none 0 0]) (t := 25) ?hr ?_; (case hd => rfl); (case hg => rfl); (case hr => first | (go_simp; done) | (go_simp; rfl)); intro gb340 hg w3 hbox hb; have BK340 := Aside0.mk (hbox); have GW340 := tge HB hg; have GE340 := tge HB hg; replace HB := tBs HB hb; clear hb hbox hg) | ((with_reducible refine gate_dst (N := 8) rfl ?_); refine Kd.S_lit k41 _ 41 ?hg (N := 8) ?hd (xs := ([] : List (S41))) (inner := []) (ok := fun _ => True) (okp := fun _ => True) ?hr ?hp (fun _ hk => hk) trivial (Below.refl _ _) (Nat.le_refl _) (by simp) ?_; (case hd => rfl); (case hg => rfl); (case hr => first | (go_simp; done) | (go_simp; rfl)); (case hp => exact (Reps.none _ _)); intro v342 w4 ho5 hb hg_ hnew_; clear hg_ hnew_; (first | rw [← Ny341.out] at ho5 | (simp only [Int.reduceToNat] at ho5; rw [← Ny341.out] at ho5)); have HO343 := tSl ho5 HB; replace BK340 := tBb BK340 hb; replace HB := tBs HB hb; clear hb ho5; obtain ⟨Ao6, co6, eo6⟩ := Kd.S_slice HO343.out; subst eo6) | ((with_reducible refine gate_dst (N := 5) rfl ?_); refine box_event ?hg (N := 5) ?hd (cs := #[.bool false, .bool false, .int .i64 0, .int .i64 0, .int .i64 0, .slice none 0 0]) (t := 25) ?hr ?_; (case hd => rfl); (case hg => rfl); (case hr => first | (go_simp; done) | (go_simp; rfl)); intro gb344 hg w7 hbox hb; replace HO343 := tSb HO343 hb; have BK344 := Aside0.mk (hbox); have GW344 := tge HB hg; have GE344 := tge HB hg; replace HB := tBs HB hb; have NB340_344 := tlt BK340 hg; have NB344_340 := tgt BK340 hg; replace BK340 := tBb BK340 hb; clear hb hbox hg; have hnb8 := NB344_340.out; have hnc8 := NB340_344.out; obtain ⟨hcz9_0, hcz9_1, hcz9_2, hcz9_3, hcz9_4, hcz9_5, hfz9_0, hfz9_1, hfz9_2, hfz9_3, hfz9_4, hfz9_5⟩ := cells6 BK344.out))
 go_loopg [6] k (fun kq v6 w' => ∃ (x6_1 : Int) (x345005_1 : List (S41)) (u345005 : Value), v6 = .int .i64 x6_1 ∧ Aside0 (spec_l31Free.l0 kq l1 x6_1 a0 false 255 0 0 x345005_1 = some (r1, r2, r3, r4, r5, r6)) ∧ Aside0 (kq ≤ k) ∧ Aside0 (Kd.S k41 41 w' w.heap.size (fun _ => True) u345005 x345005_1) ∧ Aside0 (w'.heap[gb340]? = some (.cells #[.bool false, .bool false, .int .i64 0, .int .i64 0, .int .i64 0, (.slice none 0 0)] 25 (0, 0))) ∧ Aside0 (w'.heap[gb344]? = some (.cells #[.bool a0, .bool false, .int .i64 255, .int .i64 0, .int .i64 0, u345005] 25 (0, 0))) ∧ Aside0 (Below w.heap.size w w'))
 case atStart => exact ⟨(0), (y341), (.slice Ao6 y341.length co6), tr, H', ⟨Nat.le_refl _⟩, ⟨tSm (Kd.S_types HO343.out BK344.out (by decide))⟩, ⟨tH BK340.out⟩, ⟨tP BK344.out⟩, ⟨zb⟩⟩
 case round =>
  clear H'
  try clear c1; try clear hcz9_0; try clear hcz9_1; try clear hcz9_2; try clear hcz9_3; try clear hcz9_4; try clear hcz9_5; try clear hfz9_0; try clear hfz9_1; try clear hfz9_2; try clear hfz9_3; try clear hfz9_4; try clear hfz9_5
  obtain ⟨x6_1, x345005_1, u345005, rfl, HA, HK1, HO_345005, BK340, BK344, HB⟩ := hrel
  cases gk with
  | zero => exact absurd HA.out (by simp [spec_l31Free.l0])
  | succ k1 =>
   have H := HA.out
   clear HA
   simp only [spec_l31Free.l0] at H
   by_cases c10 : x6_1 < (l1.length : Int)
   ·rw [if_pos c10] at H
    have c10b0 : decide (x6_1 < (l1.length : Int)) = true := decide_eq_true c10
    clear c10
    by_cases c11 : 0 ≤ x6_1
    ·rw [if_pos c11] at H
     have c11b0 : decide (0 ≤ x6_1) = true := decide_eq_true c11
     clear c11
     replace H := tbe H
     obtain ⟨⟨t346, t347, t348, t349, t352, t353⟩, A12, H⟩ := H
     dsimp only at H
     by_cases c13 : x345005_1.length < 1759218604441
     ·rw [if_pos c13] at H
      have LMc13 := Aside0.mk c13
      clear c13
      obtain ⟨y356, hy356⟩ : ∃ y_ : List (S41), y_ = (x345005_1 ++ [(⟨t346, t347, t348, t349, t352, t353⟩ : S41)]) := ⟨_, rfl⟩
      replace H : (spec_l31Free.l0 k1 l1 (wrap64 (x6_1 + 1)) a0 false 255 0 0 y356) = some (r1, r2, r3, r4, r5, r6) := by first | (rw [hy356]; with_reducible exact H) | (have H2_ := (Option.bind_some _ _).symm.trans H; rw [hy356]; with_reducible exact H2_) | (have H2_ := (Option.bind_some _ _).symm.trans H; with_reducible exact H2_) | with_reducible exact H | (rw [hy356]; exact H) | exact H
      have Ny356 := Aside0.mk hy356
      clear hy356
      have H' := Aside0.mk H
      clear H
      try go_wp2
      replace HO_345005 := Aside0.mk (Kd.S_drew HO_345005.out)
      replace BK340 := Aside0.mk (blk_drew BK340.out)
      replace BK344 := Aside0.mk (blk_drew BK344.out)
      replace HB := Aside0.mk (below_drew1 HB.out)
      have p345 : 0 ≤ (x6_1 : Int) := td
      have q345 : x6_1 < (l1.length : Int) := td
      obtain ⟨ad345, A345_3, c345_3, A345_5, c345_5, e345, hx345_0, hx345_1, hx345_2, hx345_3, hx345_4, hx345_5, hl345_3, hi345_3, hl345_5, hi345_5⟩ := at_T41 HR1.out x6_1 p345 q345
      have hw345_5 := hx345_5
      have hw345_4 := hx345_4
      have hw345_3 := hx345_3
      have hw345_2 := hx345_2
      have hw345_1 := hx345_1
      have hw345_0 := hx345_0
      cases e345
      replace hx345_0 := tcl HB hx345_0
      replace hx345_1 := tcl HB hx345_1
      replace hx345_2 := tcl HB hx345_2
      replace hx345_3 := tcl HB hx345_3
      replace hx345_4 := tcl HB hx345_4
      replace hx345_5 := tcl HB hx345_5
      have HR345_3 := Aside0.mk hi345_3
      have HC345_3 := Aside0.mk hl345_3
      clear hi345_3 hl345_3
      have HR345_5 := Aside0.mk hi345_5
      have HC345_5 := Aside0.mk hl345_5
      clear hi345_5 hl345_5
      replace p345 := eq_true p345
      replace q345 := eq_true q345
      refine start_ (n := 11) (S := fun w' => w'.cell? ⟨gb344, 0, none⟩ = some (.bool a0) ∧ w'.cell? ⟨gb344, 1, none⟩ = some (.bool false) ∧ w'.cell? ⟨gb344, 2, none⟩ = some (.int .i64 255) ∧ w'.cell? ⟨gb344, 3, none⟩ = some (.int .i64 0) ∧ w'.cell? ⟨gb344, 4, none⟩ = some (.int .i64 0) ∧ w'.cell? ⟨gb344, 5, none⟩ = some (u345005) ∧ w'.cell? (ad345.add ((x6_1).toNat * 6)) = some (.int .i64 ((rd_T41 l1 x6_1).f0)) ∧ w'.cell? ⟨(ad345.add ((x6_1).toNat * 6)).block, (ad345.add ((x6_1).toNat * 6)).off + 1, none⟩ = some (.int .i64 ((rd_T41 l1 x6_1).f1)) ∧ w'.cell? ⟨(ad345.add ((x6_1).toNat * 6)).block, (ad345.add ((x6_1).toNat * 6)).off + 2, none⟩ = some (.bool ((rd_T41 l1 x6_1).f2)) ∧ w'.cell? ⟨(ad345.add ((x6_1).toNat * 6)).block, (ad345.add ((x6_1).toNat * 6)).off + 3, none⟩ = some (.slice A345_3 ((rd_T41 l1 x6_1).f3).length c345_3) ∧ w'.cell? ⟨(ad345.add ((x6_1).toNat * 6)).block, (ad345.add ((x6_1).toNat * 6)).off + 4, none⟩ = some (.bool ((rd_T41 l1 x6_1).f4)) ∧ w'.cell? ⟨(ad345.add ((x6_1).toNat * 6)).block, (ad345.add ((x6_1).toNat * 6)).off + 5, none⟩ = some (.slice A345_5 ((rd_T41 l1 x6_1).f5).length c345_5)) (ds := [10]) #[false, false, false, false, false, false, false, false, false, false, false] (by kernel_rfl) rfl rfl ⟨(blk_cell BK344.out 0).trans rfl, (blk_cell BK344.out 1).trans rfl, (blk_cell BK344.out 2).trans rfl, (blk_cell BK344.out 3).trans rfl, (blk_cell BK344.out 4).trans rfl, (blk_cell BK344.out 5).trans rfl, (tcl HB hw345_0), (tcl HB hw345_1), (tcl HB hw345_2), (tcl HB hw345_3), (tcl HB hw345_4), (tcl HB hw345_5)⟩ (fun hHeld => ?_); refine with_tabW spec_l31Free.tab5 spec_l31Free.bits5 (fun HT_ HW_ => ?_)
      generalize wr.drew = w14 at HO_345005 BK340 BK344 HB HR345_3 HR345_5 hx345_0 hx345_1 hx345_2 hx345_3 hx345_4 hx345_5 hHeld ⊢
      refine tpu 0 (some 16) #[true, false, false, false, false, false, false, false, false, false, false] ?_
      refine tpu 2 (some 18) #[true, false, true, false, false, false, false, false, false, false, false] ?_
      refine tpu 3 (some 19) #[true, false, true, true, false, false, false, false, false, false, false] ?_
      refine tpu 4 (some 20) #[true, false, true, true, true, false, false, false, false, false, false] ?_
      refine tta 1 (some 17) #[true, true, true, true, true, false, false, false, false, false, false] hHeld ?_ (hy := by rintro w' ⟨s0, s1, s2, s3, s4, s5, s6, s7, s8, s9, s10, s11⟩; go_simp; with_reducible rfl)
      refine tta 5 (some 21) #[true, true, true, true, true, true, false, false, false, false, false] hHeld ?_ (hy := by rintro w' ⟨s0, s1, s2, s3, s4, s5, s6, s7, s8, s9, s10, s11⟩; go_simp; with_reducible rfl)
      refine one_ (i := 6) (N := some 22) #[true, true, true, true, true, true, true, false, false, false, false] rfl rfl (one_of HT_.out (by kernel_rfl)) (by decide) (fun K hK => ?_)
      refine goes_ Tryd.func48 (by kernel_rfl) rfl #[.agg #[.int .i64 ((rd_T41 l1 x6_1).f0), .int .i64 ((rd_T41 l1 x6_1).f1), .bool ((rd_T41 l1 x6_1).f2), .slice A345_3 ((rd_T41 l1 x6_1).f3).length c345_3, .bool ((rd_T41 l1 x6_1).f4), .slice A345_5 ((rd_T41 l1 x6_1).f5).length c345_5]] (by rfl) rfl rfl tq ?_
      with_reducible refine (spec_l12Copy.calls ((rd_T41 l1 x6_1).f0) ((rd_T41 l1 x6_1).f1) ((rd_T41 l1 x6_1).f2) _ _ ((rd_T41 l1 x6_1).f3) ((rd_T41 l1 x6_1).f4) _ _ ((rd_T41 l1 x6_1).f5) t346 t347 t348 t349 t352 t353 _ ?side1 ?side2 ?side3 ?side4 A12.out).mono ?_
      (case side1 => exact tC (Kd.C_below HR345_3.out HB.out))
      (case side2 => exact HC345_3.out)
      (case side3 => exact tC (Kd.C_below HR345_5.out HB.out))
      (case side4 => exact HC345_5.out)
      rintro e w15 ⟨v350, v354, rfl, ho0, ho1, hb⟩
      refine ⟨_, rfl, ?_⟩
      replace HO_345005 := Aside0.mk (Kd.S_mono (Kd.S_told (Kd.S_told (Kd.S_old (tS HO_345005.out) hb) (Kd.R_base ho0)) (Kd.R_base ho1)) (fun _ h_ => h_.1))
      have HO351 := tRl ho0 HB
      have HO355 := tRl ho1 HB
      replace BK340 := tBb BK340 hb
      replace BK344 := tBb BK344 hb
      replace HB := tBs HB hb
      (try clear hb)
      (try clear hb2)
      (try clear hk)
      (try clear hi)
      (try clear ho0)
      (try clear ho1)
      obtain ⟨Ao17, co17, eo17⟩ := Kd.R_slice HO351.out
      (first | subst eo17 | (injection eo17 with f1_ f2_ f3_; have f4_ := f1_.symm; have f5_ := f3_.symm; clear f1_ f2_ f3_; subst f4_; subst f5_))
      obtain ⟨Ao18, co18, eo18⟩ := Kd.R_slice HO355.out
      (first | subst eo18 | (injection eo18 with f1_ f2_ f3_; have f4_ := f1_.symm; have f5_ := f3_.symm; clear f1_ f2_ f3_; subst f4_; subst f5_))
      refine hK.out _ _ ⟨(blk_cell BK344.out 0).trans rfl, (blk_cell BK344.out 1).trans rfl, (blk_cell BK344.out 2).trans rfl, (blk_cell BK344.out 3).trans rfl, (blk_cell BK344.out 4).trans rfl, (blk_cell BK344.out 5).trans rfl, (tcl HB hw345_0), (tcl HB hw345_1), (tcl HB hw345_2), (tcl HB hw345_3), (tcl HB hw345_4), (tcl HB hw345_5)⟩ (fun hHeld => ?_)
      clear hK K
      refine tnm (some 22) ?_
      refine one_ (i := 7) (N := some 23) #[true, true, true, true, true, true, true, true, false, false, false] rfl rfl (one_of HT_.out (by kernel_rfl)) (by decide) (fun K hK => ?_)
      refine value_ (w1 := ?_) (v := ?_) (by rfl) rfl ?_ ?_
      rotate_left 2
      ·go_simp
       constructor
       ·rfl
       ·rfl
      refine hK.out _ _ ⟨(blk_cell (blk_alloc BK344.out _) 0).trans rfl, (blk_cell (blk_alloc BK344.out _) 1).trans rfl, (blk_cell (blk_alloc BK344.out _) 2).trans rfl, (blk_cell (blk_alloc BK344.out _) 3).trans rfl, (blk_cell (blk_alloc BK344.out _) 4).trans rfl, (blk_cell (blk_alloc BK344.out _) 5).trans rfl, (World.cell?_alloc_lt _ _ _ (World.block_lt_of_cell? _ _ ((tcl HB hw345_0)))).trans ((tcl HB hw345_0)), (World.cell?_alloc_lt _ _ _ (World.block_lt_of_cell? _ _ ((tcl HB hw345_1)))).trans ((tcl HB hw345_1)), (World.cell?_alloc_lt _ _ _ (World.block_lt_of_cell? _ _ ((tcl HB hw345_2)))).trans ((tcl HB hw345_2)), (World.cell?_alloc_lt _ _ _ (World.block_lt_of_cell? _ _ ((tcl HB hw345_3)))).trans ((tcl HB hw345_3)), (World.cell?_alloc_lt _ _ _ (World.block_lt_of_cell? _ _ ((tcl HB hw345_4)))).trans ((tcl HB hw345_4)), (World.cell?_alloc_lt _ _ _ (World.block_lt_of_cell? _ _ ((tcl HB hw345_5)))).trans ((tcl HB hw345_5))⟩ (fun hHeld => ?_)
      clear hK K
      refine tnm (some 23) ?_
      refine one_ (i := 8) (N := some 24) #[true, true, true, true, true, true, true, true, true, false, false] rfl rfl (one_of HT_.out (by kernel_rfl)) (by decide) (fun K hK => ?_)
      refine Kd.S_append_step k41 (w0 := w) w.heap.size (by rfl) (.tmp 17) (.tmp 23) 23 41 (.agg #[(.int .i64 0), (.int .i64 0), (.bool false), (.slice none 0 0), (.bool false), (.slice none 0 0)]) 80 rfl Tryd.underlying23 info41 rfl (by decide) (by omega) u345005 x345005_1 (⟨t346, t347, t348, t349, t352, t353⟩ : S41) [.int .i64 t346, .int .i64 t347, .bool t348, .slice Ao17 t349.length co17, .bool t352, .slice Ao18 t353.length co18] (fun _ => True) (fun k_ => some k_ = (.slice Ao17 t349.length co17 : Value).ownBlock ∨ some k_ = (.slice Ao18 t353.length co18 : Value).ownBlock) rfl rfl ?aP (fun k_ hk_ => hk_.elim (fun h_ => ((Kd.R_mono (ok' := fun k_ => ((fun _ => True)) k_ ∧ some k_ ≠ (u345005 : Value).ownBlock) (Kd.R_apart' (HO351.out) (Kd.S_typed HO_345005.out) (by decide)) (fun k_ hk => ⟨trivial, hk.2⟩))).1 k_ h_.symm) (fun h_ => ((Kd.R_mono (ok' := fun k_ => ((fun _ => True)) k_ ∧ some k_ ≠ (u345005 : Value).ownBlock) (Kd.R_apart' (HO355.out) (Kd.S_typed HO_345005.out) (by decide)) (fun k_ hk => ⟨trivial, hk.2⟩))).1 k_ h_.symm)) ?aF ?aO ?aB ?aS ?aL ?_
      (case aP => exact k41_mkM _ _ _ (⟨t346, t347, t348, t349, t352, t353⟩ : S41) (Kd.R_mono (Kd.R_tight rfl (Kd.R_mono (ok' := fun k_ => ((fun _ => True)) k_ ∧ some k_ ≠ (u345005 : Value).ownBlock) (Kd.R_apart' (HO351.out) (Kd.S_typed HO_345005.out) (by decide)) (fun k_ hk => ⟨trivial, hk.2⟩))) (fun _ h_ => Or.inl h_)) (Kd.R_mono (Kd.R_tight rfl (Kd.R_mono (ok' := fun k_ => ((fun _ => True)) k_ ∧ some k_ ≠ (u345005 : Value).ownBlock) (Kd.R_apart' (HO355.out) (Kd.S_typed HO_345005.out) (by decide)) (fun k_ hk => ⟨trivial, hk.2⟩))) (fun _ h_ => Or.inr (h_))))
      (case aB => exact zb)
      (case aF => exact (fun _ _ => trivial))
      (case aO => exact (tSm HO_345005.out))
      (case aS => exact (below_size zb))
      (case aL => have := LMc13.out; omega)
      intro v357 w16 ho hb hg hat
      rw [← Ny356.out] at ho
      replace BK340 := Aside0.mk (blk_grown (tH BK340.out) hg (Kd.S_ne HO_345005.out BK340.out (by decide)))
      replace BK344 := Aside0.mk (blk_grown (tH BK344.out) hg (Kd.S_ne HO_345005.out BK344.out (by decide)))
      replace HB := Aside0.mk (hb)
      have HO358 := Aside0.mk (ho)
      clear HO_345005 HO351 HO355
      clear ho hb hg hat
      obtain ⟨Ao19, co19, eo19⟩ := Kd.S_slice HO358.out
      (first | subst eo19 | (injection eo19 with f1_ f2_ f3_; have f4_ := f1_.symm; have f5_ := f3_.symm; clear f1_ f2_ f3_; subst f4_; subst f5_))
      refine hK.out _ _ ⟨(blk_cell BK344.out 0).trans rfl, (blk_cell BK344.out 1).trans rfl, (blk_cell BK344.out 2).trans rfl, (blk_cell BK344.out 3).trans rfl, (blk_cell BK344.out 4).trans rfl, (blk_cell BK344.out 5).trans rfl, (tcl HB hw345_0), (tcl HB hw345_1), (tcl HB hw345_2), (tcl HB hw345_3), (tcl HB hw345_4), (tcl HB hw345_5)⟩ (fun hHeld => ?_)
      clear hK K
      refine tnm (some 24) ?_
      refine tpu 9 (some 25) #[true, true, true, true, true, true, true, true, true, true, false] ?_
      refine last_ (i := 10) (N := none) #[true, true, true, true, true, true, true, true, true, true, true] rfl rfl (one_of HT_.out (by kernel_rfl)) (by decide) (fun K hK => ?_)
      have hs20 : w16.cell? ⟨gb344, 5, none⟩ = some (u345005) := (blk_cell BK344.out 5).trans rfl
      have hfs20 := blk_frozen BK344.out 5
      have hns20_0 := NB340_344.out
      have hms20_0 := NB344_340.out
      refine tsk ?_
      refine hK.out _ _ ?_
      clear hK K
      refine done_ (done_of HT_.out (by kernel_rfl)) ?_
      try go_wp2
      go_roundg k1
      case measure => have := HK1.out; omega
      case rel => exact ⟨(wrap64 (x6_1 + 1)), (y356), (.slice Ao19 y356.length co19), tr, H', ⟨by have := HK1.out; omega⟩, ⟨tSm (Kd.S_types HO358.out BK344.out (by decide))⟩, ⟨tH BK340.out⟩, ⟨tP BK344.out⟩, ⟨zb⟩⟩
     ·rw [if_neg c13] at H
      exact absurd H (by simp)
    ·rw [if_neg c11] at H
     exact absurd H (by simp)
   ·rw [if_neg c10] at H
    have c10b0 : decide (x6_1 < (l1.length : Int)) = false := decide_eq_false c10
    clear c10
    simp only [Option.some.injEq, Prod.mk.injEq] at H
    obtain ⟨rfl, rfl, rfl, rfl, rfl, rfl⟩ := H
    have hnb21 := NB344_340.out
    have hnc21 := NB340_344.out
    obtain ⟨hcz22_0, hcz22_1, hcz22_2, hcz22_3, hcz22_4, hcz22_5, hfz22_0, hfz22_1, hfz22_2, hfz22_3, hfz22_4, hfz22_5⟩ := cells6 BK344.out
    obtain ⟨hcz23_0, hcz23_1, hcz23_2, hcz23_3, hcz23_4, hcz23_5, hfz23_0, hfz23_1, hfz23_2, hfz23_3, hfz23_4, hfz23_5⟩ := cells6 BK340.out
    obtain ⟨Ao24, co24, eo24⟩ := Kd.S_slice HO_345005.out
    subst eo24
    go_wp2
    refine bodyPost_ret (results_cell_row rfl _ _ gb340 25 #[.bool a0, .bool false, .int .i64 255, .int .i64 0, .int .i64 0, .slice Ao24 x345005_1.length co24] (0, 0) _ rfl (tP BK340.out) Tryd.underlying25 rfl (by kernel_rfl)) rfl ?_
    exact ⟨_, by first | rfl | (simp [errW_none, errW_some] <;> rfl) | (simp [*, errW_none, errW_some] <;> rfl), tSm (Kd.S_types HO_345005.out BK340.out (by decide)), zb⟩

end Go.Proofs.YtahenocndacjeaaDoor.G

namespace Go.Proofs.YtahenocndacjeaaDoor.G
open Go.RowKit Go.Proofs.YtahenocndacjeaaDoorW.PrintWords Go.Proofs.YtahenocndacjeaaDoorW.PrintLast Go.Proofs.YtahenocndacjeaaDoorW.PrintMore
attribute [local go_sem] max2_int min2_int max_two min_two max_three min_three max_four min_four   -- for this text's walks alone
set_option linter.unusedVariables false
set_option linter.unusedSimpArgs false

def spec_BatchJoin.j0 : Nat → Bool → Bool → Bool → Int → Int → Int → List (S41) → Bool → Bool → Int → Int → Int → List (S41) → Option (Bool × Bool × Int × Int × Int × (List (S41)) × Bool)
 | 0, _, _, _, _, _, _, _, _, _, _, _, _, _ => none
 | k + 1, x31, x624000, x624001, x624002, x624003, x624004, x624005, x625000, x625001, x625002, x625003, x625004, x625005 => if x31 = true then (some (false, false, 0, 0, 0, ([] : List (S41)), false)) else ((some (([] : List (S41)) : List (S41))).bind fun y628 => (if y628.length + x624005.length < 1759218604441 then ((some (y628 ++ x624005 : List (S41))).bind fun y631 => (if y631.length + x625005.length < 1759218604441 then ((spec_l31Free.f k x624000 (y631 ++ x625005)).bind fun bt637 => ((spec_BatchValid.f k bt637.1 bt637.2.1 bt637.2.2.1 bt637.2.2.2.1 bt637.2.2.2.2.1 bt637.2.2.2.2.2).bind fun t646 => (if t646 = true then (some (bt637.1, bt637.2.1, bt637.2.2.1, bt637.2.2.2.1, bt637.2.2.2.2.1, bt637.2.2.2.2.2, true)) else (some (false, false, 0, 0, 0, ([] : List (S41)), false))))) else (none))) else (none)))
def spec_BatchJoin.f (k : Nat) (a0_0 : Bool) (a0_1 : Bool) (a0_2 : Int) (a0_3 : Int) (a0_4 : Int) (l0_5 : List (S41)) (a1_0 : Bool) (a1_1 : Bool) (a1_2 : Int) (a1_3 : Int) (a1_4 : Int) (l1_5 : List (S41)) : Option (Bool × Bool × Int × Int × Int × (List (S41)) × Bool) := (spec_BatchValid.f k a0_0 a0_1 a0_2 a0_3 a0_4 l0_5).bind fun t626 => (if t626 = true then ((spec_BatchValid.f k a1_0 a1_1 a1_2 a1_3 a1_4 l1_5).bind fun t627 => (if t627 = true then (if a0_2 = 255 then (if a1_2 = 255 then (spec_BatchJoin.j0 k (a0_0 != a1_0) a0_0 a0_1 a0_2 a0_3 a0_4 l0_5 a1_0 a1_1 a1_2 a1_3 a1_4 l1_5) else (spec_BatchJoin.j0 k true a0_0 a0_1 a0_2 a0_3 a0_4 l0_5 a1_0 a1_1 a1_2 a1_3 a1_4 l1_5)) else (spec_BatchJoin.j0 k true a0_0 a0_1 a0_2 a0_3 a0_4 l0_5 a1_0 a1_1 a1_2 a1_3 a1_4 l1_5)) else (spec_BatchJoin.j0 k true a0_0 a0_1 a0_2 a0_3 a0_4 l0_5 a1_0 a1_1 a1_2 a1_3 a1_4 l1_5))) else (spec_BatchJoin.j0 k true a0_0 a0_1 a0_2 a0_3 a0_4 l0_5 a1_0 a1_1 a1_2 a1_3 a1_4 l1_5))
def spec_BatchJoin.T3 : Bool × List (List Nat × List Nat) := (true, [([], []), ([0], [0]), ([], []), ([], []), ([3], [3]), ([2, 4], [2, 4]), ([], []), ([6], [6]), ([5, 7, 5], [5, 7]), ([1, 8, 8], [1, 8]), ([], []), ([10, 9, 9, 0, 1, 2, 3, 4, 5, 6, 7, 8, 9, 10], [9, 10])])
def spec_BatchJoin.B3 : List Nat := [0, 1, 0, 0, 8, 28, 0, 64, 252, 511, 0, 2047]
theorem spec_BatchJoin.tab3 : rtab .any (opsOf Tryd.f16 3) = spec_BatchJoin.T3 := by kernel_rfl
theorem spec_BatchJoin.bits3 : waitsOk spec_BatchJoin.T3.2 spec_BatchJoin.B3 = true := by kernel_rfl
end Go.Proofs.YtahenocndacjeaaDoor.G

