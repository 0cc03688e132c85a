/- A text of seat YtbbboachakkgiaaDoor: what the law FnLogCutTwice needs of this repo's texts (by pack.py). Not trusted: Lean checks it. -/
import Derived.Test.YtbbboachakkgiaaDoorKFnLogCutTwice9
import Derived.Deep.Slices
import Derived.SizedLaws
namespace Go.Proofs.YtbbboachakkgiaaDoor.G
open Go.RowKit Go.Proofs.YtbbboachakkgiaaDoorW.PrintWords Go.Proofs.YtbbboachakkgiaaDoorW.PrintLast Go.Proofs.YtbbboachakkgiaaDoorW.PrintMore
attribute [local go_sem] max2_int min2_int max_two min_two max_three min_three max_four min_four   -- for this text's walks alone
set_option linter.unusedVariables false
set_option linter.unusedSimpArgs false

def laws_sameRecords.l0 : Nat → List (S33) → List (S33) → Int → Option (Bool)
 | 0, _, _, _ => none
 | k + 1, x0, x1, x5 => if x5 < (x0.length : Int) then (if 0 ≤ x5 then (if x5 < (x1.length : Int) then ((laws_sameRecord.f k ((rd_T33 x0 x5).f0) ((rd_T33 x0 x5).f1) ((rd_T33 x0 x5).f2) ((rd_T33 x0 x5).f3) ((rd_T33 x0 x5).f4) ((rd_T33 x0 x5).f5) ((rd_T33 x1 x5).f0) ((rd_T33 x1 x5).f1) ((rd_T33 x1 x5).f2) ((rd_T33 x1 x5).f3) ((rd_T33 x1 x5).f4) ((rd_T33 x1 x5).f5)).bind fun t558 => (if t558 = true then (laws_sameRecords.l0 k x0 x1 (wrap64 (x5 + 1))) else (some false))) else (none)) else (none)) else (some true)
def laws_sameRecords.f (k : Nat) (l0 : List (S33)) (l1 : List (S33)) : Option (Bool) := if (l0.length : Int) = (l1.length : Int) then (laws_sameRecords.l0 k l0 l1 0) else (some false)
def laws_sameRecords.T6 : Bool × List (List Nat × List Nat) := (true, [([], []), ([], []), ([0, 1], [0, 1]), ([2], [2]), ([], []), ([], []), ([4, 5], [4, 5]), ([6], [6]), ([3, 7], [3, 7]), ([8], [8])])
def laws_sameRecords.B6 : List Nat := [0, 0, 3, 7, 0, 0, 48, 112, 255, 511]
theorem laws_sameRecords.tab6 : rtab .any (opsOf Tryd.f27 6) = laws_sameRecords.T6 := by kernel_rfl
theorem laws_sameRecords.bits6 : waitsOk laws_sameRecords.T6.2 laws_sameRecords.B6 = true := by kernel_rfl
set_option maxHeartbeats 8000000 in
set_option maxRecDepth 100000 in
theorem laws_sameRecords.calls (k : Nat) (A0 : Option Addr) (c0 : Nat) (l0 : List (S33)) (A1 : Option Addr) (c1 : Nat) (l1 : List (S33)) (r : Bool) (w : World) (hr0 : Kd.C k33 w A0 l0.length l0) (hc0 : l0.length ≤ c0) (hr1 : Kd.C k33 w A1 l1.length l1) (hc1 : l1.length ≤ c1) (h : laws_sameRecords.f k l0 l1 = some r) :
  Calls Tryd.prog 27 #[.slice A0 l0.length c0, .slice A1 l1.length c1] w fun e w' => e = .returned (.bool r) ∧ Below w.heap.size w w' := by
 have hu33 := Tryd.underlying33
 have HR0 := Aside0.mk hr0
 have HC0 := Aside0.mk hc0
 clear hr0 hc0
 have HR1 := Aside0.mk hr1
 have HC1 := Aside0.mk hc1
 clear hr1 hc1
 have HB := Aside0.mk (Below.refl w.heap.size w)
 have H : (if (l0.length : Int) = (l1.length : Int) then (laws_sameRecords.l0 k l0 l1 0) else (some false)) = some r := h
 clear h
 by_cases c3 : (l0.length : Int) = (l1.length : Int)
 ·rw [if_pos c3] at H
  have c3b0 : ((l0.length : Int) == (l1.length : Int)) = true := beq_iff_eq.mpr c3
  have c3b1 : ((l0.length : Int) != (l1.length : Int)) = false := bne_eq_false_iff_eq.mpr c3
  have c3b2 : (l0.length == l1.length) = true := by first | simpa using c3 | (simp at c3 ⊢; omega)
  clear c3
  have H' := Aside0.mk H
  clear H
  go_enter Tryd.func27, Tryd.ntmps27
  go_wp2
  go_loopg [5] k (fun kq v5 w' => ∃ (x5_1 : Int), v5 = .int .i64 x5_1 ∧ Aside0 (laws_sameRecords.l0 kq l0 l1 x5_1 = some r) ∧ Aside0 (kq ≤ k) ∧ Aside0 (Below w.heap.size w w'))
  case atStart => exact ⟨(0), tr, H', ⟨Nat.le_refl _⟩, ⟨zb⟩⟩
  case round =>
   clear H'
   try clear c1; try clear c3; try clear c3b0; try clear c3b1; try clear c3b2
   obtain ⟨x5_1, rfl, HA, HK1, HB⟩ := hrel
   cases gk with
   | zero => exact absurd HA.out (by simp [laws_sameRecords.l0])
   | succ k1 =>
    have H := HA.out
    clear HA
    simp only [laws_sameRecords.l0] at H
    by_cases c4 : x5_1 < (l0.length : Int)
    ·rw [if_pos c4] at H
     have c4b0 : decide (x5_1 < (l0.length : Int)) = true := decide_eq_true c4
     clear c4
     by_cases c5 : 0 ≤ x5_1
     ·rw [if_pos c5] at H
      have c5b0 : decide (0 ≤ x5_1) = true := decide_eq_true c5
      clear c5
      by_cases c6 : x5_1 < (l1.length : Int)
      ·rw [if_pos c6] at H
       have c6b0 : decide (x5_1 < (l1.length : Int)) = true := decide_eq_true c6
       clear c6
       replace H := tbe H
       obtain ⟨t558, A7, H⟩ := H
       by_cases c8 : t558 = true
       ·subst c8
        rw [if_pos rfl] at H
        have H' := Aside0.mk H
        clear H
        try go_wp2
        replace HB := Aside0.mk (below_drew1 HB.out)
        have p556 : 0 ≤ (x5_1 : Int) := td
        have q556 : x5_1 < (l0.length : Int) := td
        obtain ⟨ad556, A556_3, c556_3, A556_5, c556_5, e556, hx556_0, hx556_1, hx556_2, hx556_3, hx556_4, hx556_5, hl556_3, hi556_3, hl556_5, hi556_5⟩ := at_T33 HR0.out x5_1 p556 q556
        have hw556_5 := hx556_5
        have hw556_4 := hx556_4
        have hw556_3 := hx556_3
        have hw556_2 := hx556_2
        have hw556_1 := hx556_1
        have hw556_0 := hx556_0
        cases e556
        replace hx556_0 := tcl HB hx556_0
        replace hx556_1 := tcl HB hx556_1
        replace hx556_2 := tcl HB hx556_2
        replace hx556_3 := tcl HB hx556_3
        replace hx556_4 := tcl HB hx556_4
        replace hx556_5 := tcl HB hx556_5
        have HR556_3 := Aside0.mk hi556_3
        have HC556_3 := Aside0.mk hl556_3
        clear hi556_3 hl556_3
        have HR556_5 := Aside0.mk hi556_5
        have HC556_5 := Aside0.mk hl556_5
        clear hi556_5 hl556_5
        replace p556 := eq_true p556
        replace q556 := eq_true q556
        have p557 : 0 ≤ (x5_1 : Int) := td
        have q557 : x5_1 < (l1.length : Int) := td
        obtain ⟨ad557, A557_3, c557_3, A557_5, c557_5, e557, hx557_0, hx557_1, hx557_2, hx557_3, hx557_4, hx557_5, hl557_3, hi557_3, hl557_5, hi557_5⟩ := at_T33 HR1.out x5_1 p557 q557
        have hw557_5 := hx557_5
        have hw557_4 := hx557_4
        have hw557_3 := hx557_3
        have hw557_2 := hx557_2
        have hw557_1 := hx557_1
        have hw557_0 := hx557_0
        cases e557
        replace hx557_0 := tcl HB hx557_0
        replace hx557_1 := tcl HB hx557_1
        replace hx557_2 := tcl HB hx557_2
        replace hx557_3 := tcl HB hx557_3
        replace hx557_4 := tcl HB hx557_4
        replace hx557_5 := tcl HB hx557_5
        have HR557_3 := Aside0.mk hi557_3
        have HC557_3 := Aside0.mk hl557_3
        clear hi557_3 hl557_3
        have HR557_5 := Aside0.mk hi557_5
        have HC557_5 := Aside0.mk hl557_5
        clear hi557_5 hl557_5
        replace p557 := eq_true p557
        replace q557 := eq_true q557
        refine start_ (n := 10) (S := fun w' => w'.cell? (ad556.add ((x5_1).toNat * 6)) = some (.int .i64 ((rd_T33 l0 x5_1).f0)) ∧ w'.cell? ⟨(ad556.add ((x5_1).toNat * 6)).block, (ad556.add ((x5_1).toNat * 6)).off + 1, none⟩ = some (.int .i64 ((rd_T33 l0 x5_1).f1)) ∧ w'.cell? ⟨(ad556.add ((x5_1).toNat * 6)).block, (ad556.add ((x5_1).toNat * 6)).off + 2, none⟩ = some (.bool ((rd_T33 l0 x5_1).f2)) ∧ w'.cell? ⟨(ad556.add ((x5_1).toNat * 6)).block, (ad556.add ((x5_1).toNat * 6)).off + 3, none⟩ = some (.slice A556_3 ((rd_T33 l0 x5_1).f3).length c556_3) ∧ w'.cell? ⟨(ad556.add ((x5_1).toNat * 6)).block, (ad556.add ((x5_1).toNat * 6)).off + 4, none⟩ = some (.bool ((rd_T33 l0 x5_1).f4)) ∧ w'.cell? ⟨(ad556.add ((x5_1).toNat * 6)).block, (ad556.add ((x5_1).toNat * 6)).off + 5, none⟩ = some (.slice A556_5 ((rd_T33 l0 x5_1).f5).length c556_5) ∧ w'.cell? (ad557.add ((x5_1).toNat * 6)) = some (.int .i64 ((rd_T33 l1 x5_1).f0)) ∧ w'.cell? ⟨(ad557.add ((x5_1).toNat * 6)).block, (ad557.add ((x5_1).toNat * 6)).off + 1, none⟩ = some (.int .i64 ((rd_T33 l1 x5_1).f1)) ∧ w'.cell? ⟨(ad557.add ((x5_1).toNat * 6)).block, (ad557.add ((x5_1).toNat * 6)).off + 2, none⟩ = some (.bool ((rd_T33 l1 x5_1).f2)) ∧ w'.cell? ⟨(ad557.add ((x5_1).toNat * 6)).block, (ad557.add ((x5_1).toNat * 6)).off + 3, none⟩ = some (.slice A557_3 ((rd_T33 l1 x5_1).f3).length c557_3) ∧ w'.cell? ⟨(ad557.add ((x5_1).toNat * 6)).block, (ad557.add ((x5_1).toNat * 6)).off + 4, none⟩ = some (.bool ((rd_T33 l1 x5_1).f4)) ∧ w'.cell? ⟨(ad557.add ((x5_1).toNat * 6)).block, (ad557.add ((x5_1).toNat * 6)).off + 5, none⟩ = some (.slice A557_5 ((rd_T33 l1 x5_1).f5).length c557_5)) (ds := []) #[false, false, false, false, false, false, false, false, false, false] (by kernel_rfl) rfl rfl ⟨(tcl HB hw556_0), (tcl HB hw556_1), (tcl HB hw556_2), (tcl HB hw556_3), (tcl HB hw556_4), (tcl HB hw556_5), (tcl HB hw557_0), (tcl HB hw557_1), (tcl HB hw557_2), (tcl HB hw557_3), (tcl HB hw557_4), (tcl HB hw557_5)⟩ (fun hHeld => ?_); refine with_tabW laws_sameRecords.tab6 laws_sameRecords.bits6 (fun HT_ HW_ => ?_)
        generalize wr.drew = w9 at HB HR556_3 HR556_5 HR557_3 HR557_5 hx556_0 hx556_1 hx556_2 hx556_3 hx556_4 hx556_5 hx557_0 hx557_1 hx557_2 hx557_3 hx557_4 hx557_5 hHeld ⊢
        refine pure_ (i := 0) (N := some 17) (v := ?_) (a' := ?_) #[true, false, false, false, false, false, false, false, false, false] rfl rfl (any_of HT_.out (by kernel_rfl)) (fun _ _ _ h => h) (Or.inl ⟨by rfl, ?_⟩) ?_ ?_
        rotate_left
        ·intro w'
         go_simp
         with_reducible rfl
        rotate_left
        ·simp only [Act.put, List.setIfInBounds_toArray, List.set_cons_zero, List.set_cons_succ, i64_w, i32_w]
         rfl
        refine pure_ (i := 1) (N := some 18) (v := ?_) (a' := ?_) #[true, true, false, false, false, false, false, false, false, false] rfl rfl (any_of HT_.out (by kernel_rfl)) (fun _ _ _ h => h) (Or.inl ⟨by rfl, ?_⟩) ?_ ?_
        rotate_left
        ·intro w'
         go_simp
         with_reducible rfl
        rotate_left
        ·simp only [Act.put, List.setIfInBounds_toArray, List.set_cons_zero, List.set_cons_succ, i64_w, i32_w]
         rfl
        refine pure_ (i := 2) (N := some 19) (v := ?_) (a' := ?_) #[true, true, true, false, false, false, false, false, false, false] rfl rfl (any_of HT_.out (by kernel_rfl)) (fun _ _ _ h => h) (Or.inl ⟨by rfl, ?_⟩) ?_ ?_
        rotate_left
        ·intro w'
         go_simp
         with_reducible rfl
        rotate_left
        ·simp only [Act.put, List.setIfInBounds_toArray, List.set_cons_zero, List.set_cons_succ, i64_w, i32_w]
         rfl
        refine pure_ (i := 4) (N := some 21) (v := ?_) (a' := ?_) #[true, true, true, false, true, false, false, false, false, false] rfl rfl (any_of HT_.out (by kernel_rfl)) (fun _ _ _ h => h) (Or.inl ⟨by rfl, ?_⟩) ?_ ?_
        rotate_left
        ·intro w'
         go_simp
         with_reducible rfl
        rotate_left
        ·simp only [Act.put, List.setIfInBounds_toArray, List.set_cons_zero, List.set_cons_succ, i64_w, i32_w]
         rfl
        refine pure_ (i := 5) (N := some 22) (v := ?_) (a' := ?_) #[true, true, true, false, true, true, false, false, false, false] rfl rfl (any_of HT_.out (by kernel_rfl)) (fun _ _ _ h => h) (Or.inl ⟨by rfl, ?_⟩) ?_ ?_
        rotate_left
        ·intro w'
         go_simp
         with_reducible rfl
        rotate_left
        ·simp only [Act.put, List.setIfInBounds_toArray, List.set_cons_zero, List.set_cons_succ, i64_w, i32_w]
         rfl
        refine pure_ (i := 6) (N := some 23) (v := ?_) (a' := ?_) #[true, true, true, false, true, true, true, false, false, false] rfl rfl (any_of HT_.out (by kernel_rfl)) (fun _ _ _ h => h) (Or.inl ⟨by rfl, ?_⟩) ?_ ?_
        rotate_left
        ·intro w'
         go_simp
         with_reducible rfl
        rotate_left
        ·simp only [Act.put, List.setIfInBounds_toArray, List.set_cons_zero, List.set_cons_succ, i64_w, i32_w]
         rfl
        refine take_ (i := 3) (N := some 20) (v := ?_) (a' := ?_) #[true, true, true, true, true, true, true, false, false, false] rfl rfl (take_ofW HT_.out HW_.out (by kernel_rfl)) (fun _ _ _ h => h) (Or.inl ⟨by rfl, ?_⟩) hHeld ?_ ?_
        rotate_left
        ·rintro w' ⟨s0, s1, s2, s3, s4, s5, s6, s7, s8, s9, s10, s11⟩
         go_simp
         with_reducible rfl
        rotate_left
        ·simp only [Act.put, List.setIfInBounds_toArray, List.set_cons_zero, List.set_cons_succ, i64_w, i32_w]
         rfl
        refine take_ (i := 7) (N := some 24) (v := ?_) (a' := ?_) #[true, true, true, true, true, true, true, true, false, false] rfl rfl (take_ofW HT_.out HW_.out (by kernel_rfl)) (fun _ _ _ h => h) (Or.inl ⟨by rfl, ?_⟩) hHeld ?_ ?_
        rotate_left
        ·rintro w' ⟨s0, s1, s2, s3, s4, s5, s6, s7, s8, s9, s10, s11⟩
         go_simp
         with_reducible rfl
        rotate_left
        ·simp only [Act.put, List.setIfInBounds_toArray, List.set_cons_zero, List.set_cons_succ, i64_w, i32_w]
         rfl
        refine one_ (i := 8) (N := some 25) #[true, true, true, true, true, true, true, true, true, false] rfl rfl (one_of HT_.out (by kernel_rfl)) (by decide) (fun K hK => ?_)
        refine goes_ Tryd.func16 (by kernel_rfl) rfl #[.agg #[.int .i64 ((rd_T33 l0 x5_1).f0), .int .i64 ((rd_T33 l0 x5_1).f1), .bool ((rd_T33 l0 x5_1).f2), .slice A556_3 ((rd_T33 l0 x5_1).f3).length c556_3, .bool ((rd_T33 l0 x5_1).f4), .slice A556_5 ((rd_T33 l0 x5_1).f5).length c556_5], .agg #[.int .i64 ((rd_T33 l1 x5_1).f0), .int .i64 ((rd_T33 l1 x5_1).f1), .bool ((rd_T33 l1 x5_1).f2), .slice A557_3 ((rd_T33 l1 x5_1).f3).length c557_3, .bool ((rd_T33 l1 x5_1).f4), .slice A557_5 ((rd_T33 l1 x5_1).f5).length c557_5]] (by rfl) rfl rfl tq ?_
        with_reducible refine (laws_sameRecord.calls k1 ((rd_T33 l0 x5_1).f0) ((rd_T33 l0 x5_1).f1) ((rd_T33 l0 x5_1).f2) _ _ ((rd_T33 l0 x5_1).f3) ((rd_T33 l0 x5_1).f4) _ _ ((rd_T33 l0 x5_1).f5) ((rd_T33 l1 x5_1).f0) ((rd_T33 l1 x5_1).f1) ((rd_T33 l1 x5_1).f2) _ _ ((rd_T33 l1 x5_1).f3) ((rd_T33 l1 x5_1).f4) _ _ ((rd_T33 l1 x5_1).f5) true _ ?side1 ?side2 ?side3 ?side4 ?side5 ?side6 ?side7 ?side8 A7.out).mono ?_
        (case side1 => exact tC (Kd.C_below HR556_3.out HB.out))
        (case side2 => exact HC556_3.out)
        (case side3 => exact tC (Kd.C_below HR556_5.out HB.out))
        (case side4 => exact HC556_5.out)
        (case side5 => exact tC (Kd.C_below HR557_3.out HB.out))
        (case side6 => exact HC557_3.out)
        (case side7 => exact tC (Kd.C_below HR557_5.out HB.out))
        (case side8 => exact HC557_5.out)
        rintro e w10 ⟨rfl, hb⟩
        refine ⟨_, rfl, ?_⟩
        replace HB := tBs HB hb
        (try clear hb)
        (try clear hb2)
        (try clear hk)
        (try clear hi)
        refine hK.out _ _ ⟨(tcl HB hw556_0), (tcl HB hw556_1), (tcl HB hw556_2), (tcl HB hw556_3), (tcl HB hw556_4), (tcl HB hw556_5), (tcl HB hw557_0), (tcl HB hw557_1), (tcl HB hw557_2), (tcl HB hw557_3), (tcl HB hw557_4), (tcl HB hw557_5)⟩ (fun hHeld => ?_)
        clear hK K
        refine norm_ (a' := ?_) ?_ ?_
        rotate_left
        ·show Act.put _ (some 25) _ = _
         simp only [Act.put, List.setIfInBounds_toArray, List.set_cons_zero, List.set_cons_succ, i64_w, i32_w]
         rfl
        refine pure_ (i := 9) (N := some 26) (v := ?_) (a' := ?_) #[true, true, true, true, true, true, true, true, true, true] rfl rfl (any_of HT_.out (by kernel_rfl)) (fun _ _ _ h => h) (Or.inl ⟨by rfl, ?_⟩) ?_ ?_
        rotate_left
        ·intro w'
         go_simp
         with_reducible rfl
        rotate_left
        ·simp only [Act.put, List.setIfInBounds_toArray, List.set_cons_zero, List.set_cons_succ, i64_w, i32_w]
         rfl
        refine done_ (done_of HT_.out (by kernel_rfl)) ?_
        try go_wp2
        go_roundg k1
        case measure => have := HK1.out; omega
        case rel => exact ⟨(wrap64 (x5_1 + 1)), tr, H', ⟨by have := HK1.out; omega⟩, ⟨zb⟩⟩
       ·replace c8 := Bool.eq_false_iff.mpr c8
        subst c8
        rw [if_neg (show ¬ (false = true) by decide)] at H
        obtain rfl := Option.some.inj H
        try go_wp2
        replace HB := Aside0.mk (below_drew1 HB.out)
        have p556 : 0 ≤ (x5_1 : Int) := td
        have q556 : x5_1 < (l0.length : Int) := td
        obtain ⟨ad556, A556_3, c556_3, A556_5, c556_5, e556, hx556_0, hx556_1, hx556_2, hx556_3, hx556_4, hx556_5, hl556_3, hi556_3, hl556_5, hi556_5⟩ := at_T33 HR0.out x5_1 p556 q556
        have hw556_5 := hx556_5
        have hw556_4 := hx556_4
        have hw556_3 := hx556_3
        have hw556_2 := hx556_2
        have hw556_1 := hx556_1
        have hw556_0 := hx556_0
        cases e556
        replace hx556_0 := tcl HB hx556_0
        replace hx556_1 := tcl HB hx556_1
        replace hx556_2 := tcl HB hx556_2
        replace hx556_3 := tcl HB hx556_3
        replace hx556_4 := tcl HB hx556_4
        replace hx556_5 := tcl HB hx556_5
        have HR556_3 := Aside0.mk hi556_3
        have HC556_3 := Aside0.mk hl556_3
        clear hi556_3 hl556_3
        have HR556_5 := Aside0.mk hi556_5
        have HC556_5 := Aside0.mk hl556_5
        clear hi556_5 hl556_5
        replace p556 := eq_true p556
        replace q556 := eq_true q556
        have p557 : 0 ≤ (x5_1 : Int) := td
        have q557 : x5_1 < (l1.length : Int) := td
        obtain ⟨ad557, A557_3, c557_3, A557_5, c557_5, e557, hx557_0, hx557_1, hx557_2, hx557_3, hx557_4, hx557_5, hl557_3, hi557_3, hl557_5, hi557_5⟩ := at_T33 HR1.out x5_1 p557 q557
        have hw557_5 := hx557_5
        have hw557_4 := hx557_4
        have hw557_3 := hx557_3
        have hw557_2 := hx557_2
        have hw557_1 := hx557_1
        have hw557_0 := hx557_0
        cases e557
        replace hx557_0 := tcl HB hx557_0
        replace hx557_1 := tcl HB hx557_1
        replace hx557_2 := tcl HB hx557_2
        replace hx557_3 := tcl HB hx557_3
        replace hx557_4 := tcl HB hx557_4
        replace hx557_5 := tcl HB hx557_5
        have HR557_3 := Aside0.mk hi557_3
        have HC557_3 := Aside0.mk hl557_3
        clear hi557_3 hl557_3
        have HR557_5 := Aside0.mk hi557_5
        have HC557_5 := Aside0.mk hl557_5
        clear hi557_5 hl557_5
        replace p557 := eq_true p557
        replace q557 := eq_true q557
        refine start_ (n := 10) (S := fun w' => w'.cell? (ad556.add ((x5_1).toNat * 6)) = some (.int .i64 ((rd_T33 l0 x5_1).f0)) ∧ w'.cell? ⟨(ad556.add ((x5_1).toNat * 6)).block, (ad556.add ((x5_1).toNat * 6)).off + 1, none⟩ = some (.int .i64 ((rd_T33 l0 x5_1).f1)) ∧ w'.cell? ⟨(ad556.add ((x5_1).toNat * 6)).block, (ad556.add ((x5_1).toNat * 6)).off + 2, none⟩ = some (.bool ((rd_T33 l0 x5_1).f2)) ∧ w'.cell? ⟨(ad556.add ((x5_1).toNat * 6)).block, (ad556.add ((x5_1).toNat * 6)).off + 3, none⟩ = some (.slice A556_3 ((rd_T33 l0 x5_1).f3).length c556_3) ∧ w'.cell? ⟨(ad556.add ((x5_1).toNat * 6)).block, (ad556.add ((x5_1).toNat * 6)).off + 4, none⟩ = some (.bool ((rd_T33 l0 x5_1).f4)) ∧ w'.cell? ⟨(ad556.add ((x5_1).toNat * 6)).block, (ad556.add ((x5_1).toNat * 6)).off + 5, none⟩ = some (.slice A556_5 ((rd_T33 l0 x5_1).f5).length c556_5) ∧ w'.cell? (ad557.add ((x5_1).toNat * 6)) = some (.int .i64 ((rd_T33 l1 x5_1).f0)) ∧ w'.cell? ⟨(ad557.add ((x5_1).toNat * 6)).block, (ad557.add ((x5_1).toNat * 6)).off + 1, none⟩ = some (.int .i64 ((rd_T33 l1 x5_1).f1)) ∧ w'.cell? ⟨(ad557.add ((x5_1).toNat * 6)).block, (ad557.add ((x5_1).toNat * 6)).off + 2, none⟩ = some (.bool ((rd_T33 l1 x5_1).f2)) ∧ w'.cell? ⟨(ad557.add ((x5_1).toNat * 6)).block, (ad557.add ((x5_1).toNat * 6)).off + 3, none⟩ = some (.slice A557_3 ((rd_T33 l1 x5_1).f3).length c557_3) ∧ w'.cell? ⟨(ad557.add ((x5_1).toNat * 6)).block, (ad557.add ((x5_1).toNat * 6)).off + 4, none⟩ = some (.bool ((rd_T33 l1 x5_1).f4)) ∧ w'.cell? ⟨(ad557.add ((x5_1).toNat * 6)).block, (ad557.add ((x5_1).toNat * 6)).off + 5, none⟩ = some (.slice A557_5 ((rd_T33 l1 x5_1).f5).length c557_5)) (ds := []) #[false, false, false, false, false, false, false, false, false, false] (by kernel_rfl) rfl rfl ⟨(tcl HB hw556_0), (tcl HB hw556_1), (tcl HB hw556_2), (tcl HB hw556_3), (tcl HB hw556_4), (tcl HB hw556_5), (tcl HB hw557_0), (tcl HB hw557_1), (tcl HB hw557_2), (tcl HB hw557_3), (tcl HB hw557_4), (tcl HB hw557_5)⟩ (fun hHeld => ?_); refine with_tabW laws_sameRecords.tab6 laws_sameRecords.bits6 (fun HT_ HW_ => ?_)
        generalize wr.drew = w11 at HB HR556_3 HR556_5 HR557_3 HR557_5 hx556_0 hx556_1 hx556_2 hx556_3 hx556_4 hx556_5 hx557_0 hx557_1 hx557_2 hx557_3 hx557_4 hx557_5 hHeld ⊢
        refine pure_ (i := 0) (N := some 17) (v := ?_) (a' := ?_) #[true, false, false, false, false, false, false, false, false, false] rfl rfl (any_of HT_.out (by kernel_rfl)) (fun _ _ _ h => h) (Or.inl ⟨by rfl, ?_⟩) ?_ ?_
        rotate_left
        ·intro w'
         go_simp
         with_reducible rfl
        rotate_left
        ·simp only [Act.put, List.setIfInBounds_toArray, List.set_cons_zero, List.set_cons_succ, i64_w, i32_w]
         rfl
        refine pure_ (i := 1) (N := some 18) (v := ?_) (a' := ?_) #[true, true, false, false, false, false, false, false, false, false] rfl rfl (any_of HT_.out (by kernel_rfl)) (fun _ _ _ h => h) (Or.inl ⟨by rfl, ?_⟩) ?_ ?_
        rotate_left
        ·intro w'
         go_simp
         with_reducible rfl
        rotate_left
        ·simp only [Act.put, List.setIfInBounds_toArray, List.set_cons_zero, List.set_cons_succ, i64_w, i32_w]
         rfl
        refine pure_ (i := 2) (N := some 19) (v := ?_) (a' := ?_) #[true, true, true, false, false, false, false, false, false, false] rfl rfl (any_of HT_.out (by kernel_rfl)) (fun _ _ _ h => h) (Or.inl ⟨by rfl, ?_⟩) ?_ ?_
        rotate_left
        ·intro w'
         go_simp
         with_reducible rfl
        rotate_left
        ·simp only [Act.put, List.setIfInBounds_toArray, List.set_cons_zero, List.set_cons_succ, i64_w, i32_w]
         rfl
        refine pure_ (i := 4) (N := some 21) (v := ?_) (a' := ?_) #[true, true, true, false, true, false, false, false, false, false] rfl rfl (any_of HT_.out (by kernel_rfl)) (fun _ _ _ h => h) (Or.inl ⟨by rfl, ?_⟩) ?_ ?_
        rotate_left
        ·intro w'
         go_simp
         with_reducible rfl
        rotate_left
        ·simp only [Act.put, List.setIfInBounds_toArray, List.set_cons_zero, List.set_cons_succ, i64_w, i32_w]
         rfl
        refine pure_ (i := 5) (N := some 22) (v := ?_) (a' := ?_) #[true, true, true, false, true, true, false, false, false, false] rfl rfl (any_of HT_.out (by kernel_rfl)) (fun _ _ _ h => h) (Or.inl ⟨by rfl, ?_⟩) ?_ ?_
        rotate_left
        ·intro w'
         go_simp
         with_reducible rfl
        rotate_left
        ·simp only [Act.put, List.setIfInBounds_toArray, List.set_cons_zero, List.set_cons_succ, i64_w, i32_w]
         rfl
        refine pure_ (i := 6) (N := some 23) (v := ?_) (a' := ?_) #[true, true, true, false, true, true, true, false, false, false] rfl rfl (any_of HT_.out (by kernel_rfl)) (fun _ _ _ h => h) (Or.inl ⟨by rfl, ?_⟩) ?_ ?_
        rotate_left
        ·intro w'
         go_simp
         with_reducible rfl
        rotate_left
        ·simp only [Act.put, List.setIfInBounds_toArray, List.set_cons_zero, List.set_cons_succ, i64_w, i32_w]
         rfl
        refine take_ (i := 3) (N := some 20) (v := ?_) (a' := ?_) #[true, true, true, true, true, true, true, false, false, false] rfl rfl (take_ofW HT_.out HW_.out (by kernel_rfl)) (fun _ _ _ h => h) (Or.inl ⟨by rfl, ?_⟩) hHeld ?_ ?_
        rotate_left
        ·rintro w' ⟨s0, s1, s2, s3, s4, s5, s6, s7, s8, s9, s10, s11⟩
         go_simp
         with_reducible rfl
        rotate_left
        ·simp only [Act.put, List.setIfInBounds_toArray, List.set_cons_zero, List.set_cons_succ, i64_w, i32_w]
         rfl
        refine take_ (i := 7) (N := some 24) (v := ?_) (a' := ?_) #[true, true, true, true, true, true, true, true, false, false] rfl rfl (take_ofW HT_.out HW_.out (by kernel_rfl)) (fun _ _ _ h => h) (Or.inl ⟨by rfl, ?_⟩) hHeld ?_ ?_
        rotate_left
        ·rintro w' ⟨s0, s1, s2, s3, s4, s5, s6, s7, s8, s9, s10, s11⟩
         go_simp
         with_reducible rfl
        rotate_left
        ·simp only [Act.put, List.setIfInBounds_toArray, List.set_cons_zero, List.set_cons_succ, i64_w, i32_w]
         rfl
        refine one_ (i := 8) (N := some 25) #[true, true, true, true, true, true, true, true, true, false] rfl rfl (one_of HT_.out (by kernel_rfl)) (by decide) (fun K hK => ?_)
        refine goes_ Tryd.func16 (by kernel_rfl) rfl #[.agg #[.int .i64 ((rd_T33 l0 x5_1).f0), .int .i64 ((rd_T33 l0 x5_1).f1), .bool ((rd_T33 l0 x5_1).f2), .slice A556_3 ((rd_T33 l0 x5_1).f3).length c556_3, .bool ((rd_T33 l0 x5_1).f4), .slice A556_5 ((rd_T33 l0 x5_1).f5).length c556_5], .agg #[.int .i64 ((rd_T33 l1 x5_1).f0), .int .i64 ((rd_T33 l1 x5_1).f1), .bool ((rd_T33 l1 x5_1).f2), .slice A557_3 ((rd_T33 l1 x5_1).f3).length c557_3, .bool ((rd_T33 l1 x5_1).f4), .slice A557_5 ((rd_T33 l1 x5_1).f5).length c557_5]] (by rfl) rfl rfl tq ?_
        with_reducible refine (laws_sameRecord.calls k1 ((rd_T33 l0 x5_1).f0) ((rd_T33 l0 x5_1).f1) ((rd_T33 l0 x5_1).f2) _ _ ((rd_T33 l0 x5_1).f3) ((rd_T33 l0 x5_1).f4) _ _ ((rd_T33 l0 x5_1).f5) ((rd_T33 l1 x5_1).f0) ((rd_T33 l1 x5_1).f1) ((rd_T33 l1 x5_1).f2) _ _ ((rd_T33 l1 x5_1).f3) ((rd_T33 l1 x5_1).f4) _ _ ((rd_T33 l1 x5_1).f5) false _ ?side1 ?side2 ?side3 ?side4 ?side5 ?side6 ?side7 ?side8 A7.out).mono ?_
        (case side1 => exact tC (Kd.C_below HR556_3.out HB.out))
        (case side2 => exact HC556_3.out)
        (case side3 => exact tC (Kd.C_below HR556_5.out HB.out))
        (case side4 => exact HC556_5.out)
        (case side5 => exact tC (Kd.C_below HR557_3.out HB.out))
        (case side6 => exact HC557_3.out)
        (case side7 => exact tC (Kd.C_below HR557_5.out HB.out))
        (case side8 => exact HC557_5.out)
        rintro e w12 ⟨rfl, hb⟩
        refine ⟨_, rfl, ?_⟩
        replace HB := tBs HB hb
        (try clear hb)
        (try clear hb2)
        (try clear hk)
        (try clear hi)
        refine hK.out _ _ ⟨(tcl HB hw556_0), (tcl HB hw556_1), (tcl HB hw556_2), (tcl HB hw556_3), (tcl HB hw556_4), (tcl HB hw556_5), (tcl HB hw557_0), (tcl HB hw557_1), (tcl HB hw557_2), (tcl HB hw557_3), (tcl HB hw557_4), (tcl HB hw557_5)⟩ (fun hHeld => ?_)
        clear hK K
        refine norm_ (a' := ?_) ?_ ?_
        rotate_left
        ·show Act.put _ (some 25) _ = _
         simp only [Act.put, List.setIfInBounds_toArray, List.set_cons_zero, List.set_cons_succ, i64_w, i32_w]
         rfl
        refine pure_ (i := 9) (N := some 26) (v := ?_) (a' := ?_) #[true, true, true, true, true, true, true, true, true, true] rfl rfl (any_of HT_.out (by kernel_rfl)) (fun _ _ _ h => h) (Or.inl ⟨by rfl, ?_⟩) ?_ ?_
        rotate_left
        ·intro w'
         go_simp
         with_reducible rfl
        rotate_left
        ·simp only [Act.put, List.setIfInBounds_toArray, List.set_cons_zero, List.set_cons_succ, i64_w, i32_w]
         rfl
        refine done_ (done_of HT_.out (by kernel_rfl)) ?_
        try go_wp2
        go_ret
        exact ⟨by first | rfl | (simp [errW_none, errW_some] <;> rfl) | (simp [*, errW_none, errW_some] <;> rfl), zb⟩
      ·rw [if_neg c6] at H
       exact absurd H (by simp)
     ·rw [if_neg c5] at H
      exact absurd H (by simp)
    ·rw [if_neg c4] at H
     have c4b0 : decide (x5_1 < (l0.length : Int)) = false := decide_eq_false c4
     clear c4
     obtain rfl := Option.some.inj H
     go_wp2
     go_ret
     exact ⟨by first | rfl | (simp [errW_none, errW_some] <;> rfl) | (simp [*, errW_none, errW_some] <;> rfl), zb⟩
 ·rw [if_neg c3] at H
  have c3b0 : ((l0.length : Int) == (l1.length : Int)) = false := beq_eq_false_iff_ne.mpr c3
  have c3b1 : ((l0.length : Int) != (l1.length : Int)) = true := bne_iff_ne.mpr c3
  have c3b2 : (l0.length == l1.length) = false := by first | simpa using c3 | (simp at c3 ⊢; omega)
  obtain rfl := Option.some.inj H
  go_enter Tryd.func27, Tryd.ntmps27
  go_wp2
  go_ret
  exact ⟨by first | rfl | (simp [errW_none, errW_some] <;> rfl) | (simp [*, errW_none, errW_some] <;> rfl), zb⟩

def laws_sameBatch.f (k : Nat) (a0_0 : Bool) (a0_1 : Bool) (a0_2 : Int) (a0_3 : Int) (a0_4 : Int) (l0_5 : List (S33)) (a1_0 : Bool) (a1_1 : Bool) (a1_2 : Int) (a1_3 : Int) (a1_4 : Int) (l1_5 : List (S33)) : Option (Bool) := if (a0_0 == a1_0) = true then (if (a0_1 == a1_1) = true then (if a0_2 = a1_2 then (if a0_3 = a1_3 then (if a0_4 = a1_4 then ((laws_sameRecords.f k l0_5 l1_5).bind fun t561 => (some t561)) else (some false)) else (some false)) else (some false)) else (some false)) else (some false)
set_option maxHeartbeats 8000000 in
set_option maxRecDepth 100000 in
theorem laws_sameBatch.calls (k : Nat) (a0_0 : Bool) (a0_1 : Bool) (a0_2 : Int) (a0_3 : Int) (a0_4 : Int) (A0_5 : Option Addr) (c0_5 : Nat) (l0_5 : List (S33)) (a1_0 : Bool) (a1_1 : Bool) (a1_2 : Int) (a1_3 : Int) (a1_4 : Int) (A1_5 : Option Addr) (c1_5 : Nat) (l1_5 : List (S33)) (r : Bool) (w : World) (hr0_5 : Kd.C k33 w A0_5 l0_5.length l0_5) (hc0_5 : l0_5.length ≤ c0_5) (hr1_5 : Kd.C k33 w A1_5 l1_5.length l1_5) (hc1_5 : l1_5.length ≤ c1_5) (h : laws_sameBatch.f k a0_0 a0_1 a0_2 a0_3 a0_4 l0_5 a1_0 a1_1 a1_2 a1_3 a1_4 l1_5 = some r) :
  Calls Tryd.prog 42 #[.agg #[.bool a0_0, .bool a0_1, .int .i64 a0_2, .int .i64 a0_3, .int .i64 a0_4, .slice A0_5 l0_5.length c0_5], .agg #[.bool a1_0, .bool a1_1, .int .i64 a1_2, .int .i64 a1_3, .int .i64 a1_4, .slice A1_5 l1_5.length c1_5]] w fun e w' => e = .returned (.bool r) ∧ Below w.heap.size w w' := by
 have hu47 := Tryd.underlying47
 have HR0_5 := Aside0.mk hr0_5
 have HC0_5 := Aside0.mk hc0_5
 clear hr0_5 hc0_5
 have HR1_5 := Aside0.mk hr1_5
 have HC1_5 := Aside0.mk hc1_5
 clear hr1_5 hc1_5
 have HB := Aside0.mk (Below.refl w.heap.size w)
 have H : (if (a0_0 == a1_0) = true then (if (a0_1 == a1_1) = true then (if a0_2 = a1_2 then (if a0_3 = a1_3 then (if a0_4 = a1_4 then ((laws_sameRecords.f k l0_5 l1_5).bind fun t561 => (some t561)) else (some false)) else (some false)) else (some false)) else (some false)) else (some false)) = some r := h
 clear h
 by_cases c3 : (a0_0 == a1_0) = true
 ·rw [if_pos c3] at H
  have c3b0 : (a0_0 == a1_0) = true := c3
  (try (have c3b1 : decide (a0_0 = a1_0) = true := by simpa using c3))
  (try (have c3b2 : (a0_0 == a1_0) = true := by simpa using c3))
  clear c3
  by_cases c4 : (a0_1 == a1_1) = true
  ·rw [if_pos c4] at H
   have c4b0 : (a0_1 == a1_1) = true := c4
   (try (have c4b1 : decide (a0_1 = a1_1) = true := by simpa using c4))
   (try (have c4b2 : (a0_1 == a1_1) = true := by simpa using c4))
   clear c4
   by_cases c5 : a0_2 = a1_2
   ·rw [if_pos c5] at H
    have c5b0 : (a0_2 == a1_2) = true := beq_iff_eq.mpr c5
    have c5b1 : (a0_2 != a1_2) = false := bne_eq_false_iff_eq.mpr c5
    clear c5
    by_cases c6 : a0_3 = a1_3
    ·rw [if_pos c6] at H
     have c6b0 : (a0_3 == a1_3) = true := beq_iff_eq.mpr c6
     have c6b1 : (a0_3 != a1_3) = false := bne_eq_false_iff_eq.mpr c6
     clear c6
     by_cases c7 : a0_4 = a1_4
     ·rw [if_pos c7] at H
      have c7b0 : (a0_4 == a1_4) = true := beq_iff_eq.mpr c7
      have c7b1 : (a0_4 != a1_4) = false := bne_eq_false_iff_eq.mpr c7
      clear c7
      replace H := tbe H
      obtain ⟨t561, A8, H⟩ := H
      obtain rfl := Option.some.inj H
      go_enter Tryd.func42, Tryd.ntmps42
      go_wp2_with (first | ((with_reducible refine gate_dst (N := 2) rfl ?_); refine box_event ?hg (N := 2) ?hd (cs := #[.bool a0_0, .bool a0_1, .int .i64 a0_2, .int .i64 a0_3, .int .i64 a0_4, .slice A0_5 l0_5.length c0_5]) (t := 47) ?hr ?_; (case hd => rfl); (case hg => rfl); (case hr => first | (go_simp; done) | (go_simp; rfl)); intro gb559 hg w9 hbox hb; have BK559 := Aside0.mk (hbox); have GW559 := tge HB hg; have GE559 := tge HB hg; replace HB := tBs HB hb; clear hb hbox hg) | ((with_reducible refine gate_dst (N := 3) rfl ?_); refine box_event ?hg (N := 3) ?hd (cs := #[.bool a1_0, .bool a1_1, .int .i64 a1_2, .int .i64 a1_3, .int .i64 a1_4, .slice A1_5 l1_5.length c1_5]) (t := 47) ?hr ?_; (case hd => rfl); (case hg => rfl); (case hr => first | (go_simp; done) | (go_simp; rfl)); intro gb560 hg w10 hbox hb; have BK560 := Aside0.mk (hbox); have GW560 := tge HB hg; have GE560 := tge HB hg; replace HB := tBs HB hb; have NB559_560 := tlt BK559 hg; have NB560_559 := tgt BK559 hg; replace BK559 := tBb BK559 hb; clear hb hbox hg; have hnb11 := NB559_560.out; have hnc11 := NB560_559.out; obtain ⟨hcz12_0, hcz12_1, hcz12_2, hcz12_3, hcz12_4, hcz12_5, hfz12_0, hfz12_1, hfz12_2, hfz12_3, hfz12_4, hfz12_5⟩ := cells6 BK559.out; obtain ⟨hcz13_0, hcz13_1, hcz13_2, hcz13_3, hcz13_4, hcz13_5, hfz13_0, hfz13_1, hfz13_2, hfz13_3, hfz13_4, hfz13_5⟩ := cells6 BK560.out) | (go_at_call 27; (with_reducible refine (laws_sameRecords.calls k _ _ l0_5 _ _ l1_5 t561 _ ?side1 ?side2 ?side3 ?side4 A8.out).mono ?_); (case side1 => exact tC (Kd.C_below HR0_5.out HB.out)); (case side2 => exact HC0_5.out); (case side3 => exact tC (Kd.C_below HR1_5.out HB.out)); (case side4 => exact HC1_5.out); rintro e w14 ⟨rfl, hb⟩; replace BK559 := tBb BK559 hb; replace BK560 := tBb BK560 hb; replace HB := tBs HB hb; (try clear hb); (try clear hb2); (try clear hk); (try clear hi)))
      go_ret
      exact ⟨by first | rfl | (simp [errW_none, errW_some] <;> rfl) | (simp [*, errW_none, errW_some] <;> rfl), zb⟩
     ·rw [if_neg c7] at H
      have c7b0 : (a0_4 == a1_4) = false := beq_eq_false_iff_ne.mpr c7
      have c7b1 : (a0_4 != a1_4) = true := bne_iff_ne.mpr c7
      obtain rfl := Option.some.inj H
      go_enter Tryd.func42, Tryd.ntmps42
      go_wp2_with (first | ((with_reducible refine gate_dst (N := 2) rfl ?_); refine box_event ?hg (N := 2) ?hd (cs := #[.bool a0_0, .bool a0_1, .int .i64 a0_2, .int .i64 a0_3, .int .i64 a0_4, .slice A0_5 l0_5.length c0_5]) (t := 47) ?hr ?_; (case hd => rfl); (case hg => rfl); (case hr => first | (go_simp; done) | (go_simp; rfl)); intro gb559 hg w15 hbox hb; have BK559 := Aside0.mk (hbox); have GW559 := tge HB hg; have GE559 := tge HB hg; replace HB := tBs HB hb; clear hb hbox hg) | ((with_reducible refine gate_dst (N := 3) rfl ?_); refine box_event ?hg (N := 3) ?hd (cs := #[.bool a1_0, .bool a1_1, .int .i64 a1_2, .int .i64 a1_3, .int .i64 a1_4, .slice A1_5 l1_5.length c1_5]) (t := 47) ?hr ?_; (case hd => rfl); (case hg => rfl); (case hr => first | (go_simp; done) | (go_simp; rfl)); intro gb560 hg w16 hbox hb; have BK560 := Aside0.mk (hbox); have GW560 := tge HB hg; have GE560 := tge HB hg; replace HB := tBs HB hb; have NB559_560 := tlt BK559 hg; have NB560_559 := tgt BK559 hg; replace BK559 := tBb BK559 hb; clear hb hbox hg; have hnb17 := NB559_560.out; have hnc17 := NB560_559.out; obtain ⟨hcz18_0, hcz18_1, hcz18_2, hcz18_3, hcz18_4, hcz18_5, hfz18_0, hfz18_1, hfz18_2, hfz18_3, hfz18_4, hfz18_5⟩ := cells6 BK559.out; obtain ⟨hcz19_0, hcz19_1, hcz19_2, hcz19_3, hcz19_4, hcz19_5, hfz19_0, hfz19_1, hfz19_2, hfz19_3, hfz19_4, hfz19_5⟩ := cells6 BK560.out))
      go_ret
      exact ⟨by first | rfl | (simp [errW_none, errW_some] <;> rfl) | (simp [*, errW_none, errW_some] <;> rfl), zb⟩
    ·rw [if_neg c6] at H
     have c6b0 : (a0_3 == a1_3) = false := beq_eq_false_iff_ne.mpr c6
     have c6b1 : (a0_3 != a1_3) = true := bne_iff_ne.mpr c6
     obtain rfl := Option.some.inj H
     go_enter Tryd.func42, Tryd.ntmps42
     go_wp2_with (first | ((with_reducible refine gate_dst (N := 2) rfl ?_); refine box_event ?hg (N := 2) ?hd (cs := #[.bool a0_0, .bool a0_1, .int .i64 a0_2, .int .i64 a0_3, .int .i64 a0_4, .slice A0_5 l0_5.length c0_5]) (t := 47) ?hr ?_; (case hd => rfl); (case hg => rfl); (case hr => first | (go_simp; done) | (go_simp; rfl)); intro gb559 hg w20 hbox hb; have BK559 := Aside0.mk (hbox); have GW559 := tge HB hg; have GE559 := tge HB hg; replace HB := tBs HB hb; clear hb hbox hg) | ((with_reducible refine gate_dst (N := 3) rfl ?_); refine box_event ?hg (N := 3) ?hd (cs := #[.bool a1_0, .bool a1_1, .int .i64 a1_2, .int .i64 a1_3, .int .i64 a1_4, .slice A1_5 l1_5.length c1_5]) (t := 47) ?hr ?_; (case hd => rfl); (case hg => rfl); (case hr => first | (go_simp; done) | (go_simp; rfl)); intro gb560 hg w21 hbox hb; have BK560 := Aside0.mk (hbox); have GW560 := tge HB hg; have GE560 := tge HB hg; replace HB := tBs HB hb; have NB559_560 := tlt BK559 hg; have NB560_559 := tgt BK559 hg; replace BK559 := tBb BK559 hb; clear hb hbox hg; have hnb22 := NB559_560.out; have hnc22 := NB560_559.out; obtain ⟨hcz23_0, hcz23_1, hcz23_2, hcz23_3, hcz23_4, hcz23_5, hfz23_0, hfz23_1, hfz23_2, hfz23_3, hfz23_4, hfz23_5⟩ := cells6 BK559.out; obtain ⟨hcz24_0, hcz24_1, hcz24_2, hcz24_3, hcz24_4, hcz24_5, hfz24_0, hfz24_1, hfz24_2, hfz24_3, hfz24_4, hfz24_5⟩ := cells6 BK560.out))
     go_ret
     exact ⟨by first | rfl | (simp [errW_none, errW_some] <;> rfl) | (simp [*, errW_none, errW_some] <;> rfl), zb⟩
   ·rw [if_neg c5] at H
    have c5b0 : (a0_2 == a1_2) = false := beq_eq_false_iff_ne.mpr c5
    have c5b1 : (a0_2 != a1_2) = true := bne_iff_ne.mpr c5
    obtain rfl := Option.some.inj H
    go_enter Tryd.func42, Tryd.ntmps42
    go_wp2_with (first | ((with_reducible refine gate_dst (N := 2) rfl ?_); refine box_event ?hg (N := 2) ?hd (cs := #[.bool a0_0, .bool a0_1, .int .i64 a0_2, .int .i64 a0_3, .int .i64 a0_4, .slice A0_5 l0_5.length c0_5]) (t := 47) ?hr ?_; (case hd => rfl); (case hg => rfl); (case hr => first | (go_simp; done) | (go_simp; rfl)); intro gb559 hg w25 hbox hb; have BK559 := Aside0.mk (hbox); have GW559 := tge HB hg; have GE559 := tge HB hg; replace HB := tBs HB hb; clear hb hbox hg) | ((with_reducible refine gate_dst (N := 3) rfl ?_); refine box_event ?hg (N := 3) ?hd (cs := #[.bool a1_0, .bool a1_1, .int .i64 a1_2, .int .i64 a1_3, .int .i64 a1_4, .slice A1_5 l1_5.length c1_5]) (t := 47) ?hr ?_; (case hd => rfl); (case hg => rfl); (case hr => first | (go_simp; done) | (go_simp; rfl)); intro gb560 hg w26 hbox hb; have BK560 := Aside0.mk (hbox); have GW560 := tge HB hg; have GE560 := tge HB hg; replace HB := tBs HB hb; have NB559_560 := tlt BK559 hg; have NB560_559 := tgt BK559 hg; replace BK559 := tBb BK559 hb; clear hb hbox hg; have hnb27 := NB559_560.out; have hnc27 := NB560_559.out; obtain ⟨hcz28_0, hcz28_1, hcz28_2, hcz28_3, hcz28_4, hcz28_5, hfz28_0, hfz28_1, hfz28_2, hfz28_3, hfz28_4, hfz28_5⟩ := cells6 BK559.out; obtain ⟨hcz29_0, hcz29_1, hcz29_2, hcz29_3, hcz29_4, hcz29_5, hfz29_0, hfz29_1, hfz29_2, hfz29_3, hfz29_4, hfz29_5⟩ := cells6 BK560.out))
    go_ret
    exact ⟨by first | rfl | (simp [errW_none, errW_some] <;> rfl) | (simp [*, errW_none, errW_some] <;> rfl), zb⟩
  ·rw [if_neg c4] at H
   have c4b0 : (a0_1 == a1_1) = false := by simpa using c4
   (try (have c4b1 : decide (a0_1 = a1_1) = false := by simpa using c4))
   (try (have c4b2 : (a0_1 == a1_1) = false := by simpa using c4))
   (try (have c4b3 : ¬ (a0_1 = a1_1) := by simpa using c4))
   clear c4
   obtain rfl := Option.some.inj H
   go_enter Tryd.func42, Tryd.ntmps42
   go_wp2_with (first | ((with_reducible refine gate_dst (N := 2) rfl ?_); refine box_event ?hg (N := 2) ?hd (cs := #[.bool a0_0, .bool a0_1, .int .i64 a0_2, .int .i64 a0_3, .int .i64 a0_4, .slice A0_5 l0_5.length c0_5]) (t := 47) ?hr ?_; (case hd => rfl); (case hg => rfl); (case hr => first | (go_simp; done) | (go_simp; rfl)); intro gb559 hg w30 hbox hb; have BK559 := Aside0.mk (hbox); have GW559 := tge HB hg; have GE559 := tge HB hg; replace HB := tBs HB hb; clear hb hbox hg) | ((with_reducible refine gate_dst (N := 3) rfl ?_); refine box_event ?hg (N := 3) ?hd (cs := #[.bool a1_0, .bool a1_1, .int .i64 a1_2, .int .i64 a1_3, .int .i64 a1_4, .slice A1_5 l1_5.length c1_5]) (t := 47) ?hr ?_; (case hd => rfl); (case hg => rfl); (case hr => first | (go_simp; done) | (go_simp; rfl)); intro gb560 hg w31 hbox hb; have BK560 := Aside0.mk (hbox); have GW560 := tge HB hg; have GE560 := tge HB hg; replace HB := tBs HB hb; have NB559_560 := tlt BK559 hg; have NB560_559 := tgt BK559 hg; replace BK559 := tBb BK559 hb; clear hb hbox hg; have hnb32 := NB559_560.out; have hnc32 := NB560_559.out; obtain ⟨hcz33_0, hcz33_1, hcz33_2, hcz33_3, hcz33_4, hcz33_5, hfz33_0, hfz33_1, hfz33_2, hfz33_3, hfz33_4, hfz33_5⟩ := cells6 BK559.out; obtain ⟨hcz34_0, hcz34_1, hcz34_2, hcz34_3, hcz34_4, hcz34_5, hfz34_0, hfz34_1, hfz34_2, hfz34_3, hfz34_4, hfz34_5⟩ := cells6 BK560.out))
   go_ret
   exact ⟨by first | rfl | (simp [errW_none, errW_some] <;> rfl) | (simp [*, errW_none, errW_some] <;> rfl), zb⟩
 ·rw [if_neg c3] at H
  have c3b0 : (a0_0 == a1_0) = false := by simpa using c3
  (try (have c3b1 : decide (a0_0 = a1_0) = false := by simpa using c3))
  (try (have c3b2 : (a0_0 == a1_0) = false := by simpa using c3))
  (try (have c3b3 : ¬ (a0_0 = a1_0) := by simpa using c3))
  clear c3
  obtain rfl := Option.some.inj H
  go_enter Tryd.func42, Tryd.ntmps42
  go_wp2_with (first | ((with_reducible refine gate_dst (N := 2) rfl ?_); refine box_event ?hg (N := 2) ?hd (cs := #[.bool a0_0, .bool a0_1, .int .i64 a0_2, .int .i64 a0_3, .int .i64 a0_4, .slice A0_5 l0_5.length c0_5]) (t := 47) ?hr ?_; (case hd => rfl); (case hg => rfl); (case hr => first | (go_simp; done) | (go_simp; rfl)); intro gb559 hg w35 hbox hb; have BK559 := Aside0.mk (hbox); have GW559 := tge HB hg; have GE559 := tge HB hg; replace HB := tBs HB hb; clear hb hbox hg) | ((with_reducible refine gate_dst (N := 3) rfl ?_); refine box_event ?hg (N := 3) ?hd (cs := #[.bool a1_0, .bool a1_1, .int .i64 a1_2, .int .i64 a1_3, .int .i64 a1_4, .slice A1_5 l1_5.length c1_5]) (t := 47) ?hr ?_; (case hd => rfl); (case hg => rfl); (case hr => first | (go_simp; done) | (go_simp; rfl)); intro gb560 hg w36 hbox hb; have BK560 := Aside0.mk (hbox); have GW560 := tge HB hg; have GE560 := tge HB hg; replace HB := tBs HB hb; have NB559_560 := tlt BK559 hg; have NB560_559 := tgt BK559 hg; replace BK559 := tBb BK559 hb; clear hb hbox hg; have hnb37 := NB559_560.out; have hnc37 := NB560_559.out; obtain ⟨hcz38_0, hcz38_1, hcz38_2, hcz38_3, hcz38_4, hcz38_5, hfz38_0, hfz38_1, hfz38_2, hfz38_3, hfz38_4, hfz38_5⟩ := cells6 BK559.out; obtain ⟨hcz39_0, hcz39_1, hcz39_2, hcz39_3, hcz39_4, hcz39_5, hfz39_0, hfz39_1, hfz39_2, hfz39_3, hfz39_4, hfz39_5⟩ := cells6 BK560.out))
  go_ret
  exact ⟨by first | rfl | (simp [errW_none, errW_some] <;> rfl) | (simp [*, errW_none, errW_some] <;> rfl), zb⟩

end Go.Proofs.YtbbboachakkgiaaDoor.G

namespace Go.Proofs.YtbbboachakkgiaaDoor.G
open Go.RowKit Go.Proofs.YtbbboachakkgiaaDoorW.PrintWords Go.Proofs.YtbbboachakkgiaaDoorW.PrintLast Go.Proofs.YtbbboachakkgiaaDoorW.PrintMore
attribute [local go_sem] max2_int min2_int max_two min_two max_three min_three max_four min_four   -- for this text's walks alone
set_option linter.unusedVariables false
set_option linter.unusedSimpArgs false

def laws_sameLog.l0 : Nat → List (S47) → List (S47) → Int → Option (Bool)
 | 0, _, _, _ => none
 | k + 1, x0, x1, x5 => if x5 < (x0.length : Int) then (if 0 ≤ x5 then (if x5 < (x1.length : Int) then ((laws_sameBatch.f k ((rd_T47 x0 x5).f0) ((rd_T47 x0 x5).f1) ((rd_T47 x0 x5).f2) ((rd_T47 x0 x5).f3) ((rd_T47 x0 x5).f4) ((rd_T47 x0 x5).f5) ((rd_T47 x1 x5).f0) ((rd_T47 x1 x5).f1) ((rd_T47 x1 x5).f2) ((rd_T47 x1 x5).f3) ((rd_T47 x1 x5).f4) ((rd_T47 x1 x5).f5)).bind fun t564 => (if t564 = true then (laws_sameLog.l0 k x0 x1 (wrap64 (x5 + 1))) else (some false))) else (none)) else (none)) else (some true)
def laws_sameLog.f (k : Nat) (l0 : List (S47)) (l1 : List (S47)) : Option (Bool) := if (l0.length : Int) = (l1.length : Int) then (laws_sameLog.l0 k l0 l1 0) else (some false)
def laws_sameLog.T6 : Bool × List (List Nat × List Nat) := (true, [([], []), ([], []), ([0, 1], [0, 1]), ([2], [2]), ([], []), ([], []), ([4, 5], [4, 5]), ([6], [6]), ([3, 7], [3, 7]), ([8], [8])])
def laws_sameLog.B6 : List Nat := [0, 0, 3, 7, 0, 0, 48, 112, 255, 511]
theorem laws_sameLog.tab6 : rtab .any (opsOf Tryd.f14 6) = laws_sameLog.T6 := by kernel_rfl
theorem laws_sameLog.bits6 : waitsOk laws_sameLog.T6.2 laws_sameLog.B6 = true := by kernel_rfl
set_option maxHeartbeats 8000000 in
set_option maxRecDepth 100000 in
theorem laws_sameLog.calls (k : Nat) (A0 : Option Addr) (c0 : Nat) (l0 : List (S47)) (A1 : Option Addr) (c1 : Nat) (l1 : List (S47)) (r : Bool) (w : World) (hr0 : Kd.C k47 w A0 l0.length l0) (hc0 : l0.length ≤ c0) (hr1 : Kd.C k47 w A1 l1.length l1) (hc1 : l1.length ≤ c1) (h : laws_sameLog.f k l0 l1 = some r) :
  Calls Tryd.prog 14 #[.slice A0 l0.length c0, .slice A1 l1.length c1] w fun e w' => e = .returned (.bool r) ∧ Below w.heap.size w w' := by
 have hu47 := Tryd.underlying47
 have HR0 := Aside0.mk hr0
 have HC0 := Aside0.mk hc0
 clear hr0 hc0
 have HR1 := Aside0.mk hr1
 have HC1 := Aside0.mk hc1
 clear hr1 hc1
 have HB := Aside0.mk (Below.refl w.heap.size w)
 have H : (if (l0.length : Int) = (l1.length : Int) then (laws_sameLog.l0 k l0 l1 0) else (some false)) = some r := h
 clear h
 by_cases c3 : (l0.length : Int) = (l1.length : Int)
 ·rw [if_pos c3] at H
  have c3b0 : ((l0.length : Int) == (l1.length : Int)) = true := beq_iff_eq.mpr c3
  have c3b1 : ((l0.length : Int) != (l1.length : Int)) = false := bne_eq_false_iff_eq.mpr c3
  have c3b2 : (l0.length == l1.length) = true := by first | simpa using c3 | (simp at c3 ⊢; omega)
  clear c3
  have H' := Aside0.mk H
  clear H
  go_enter Tryd.func14, Tryd.ntmps14
  go_wp2
  go_loopg [5] k (fun kq v5 w' => ∃ (x5_1 : Int), v5 = .int .i64 x5_1 ∧ Aside0 (laws_sameLog.l0 kq l0 l1 x5_1 = some r) ∧ Aside0 (kq ≤ k) ∧ Aside0 (Below w.heap.size w w'))
  case atStart => exact ⟨(0), tr, H', ⟨Nat.le_refl _⟩, ⟨zb⟩⟩
  case round =>
   clear H'
   try clear c1; try clear c3; try clear c3b0; try clear c3b1; try clear c3b2
   obtain ⟨x5_1, rfl, HA, HK1, HB⟩ := hrel
   cases gk with
   | zero => exact absurd HA.out (by simp [laws_sameLog.l0])
   | succ k1 =>
    have H := HA.out
    clear HA
    simp only [laws_sameLog.l0] at H
    by_cases c4 : x5_1 < (l0.length : Int)
    ·rw [if_pos c4] at H
     have c4b0 : decide (x5_1 < (l0.length : Int)) = true := decide_eq_true c4
     clear c4
     by_cases c5 : 0 ≤ x5_1
     ·rw [if_pos c5] at H
      have c5b0 : decide (0 ≤ x5_1) = true := decide_eq_true c5
      clear c5
      by_cases c6 : x5_1 < (l1.length : Int)
      ·rw [if_pos c6] at H
       have c6b0 : decide (x5_1 < (l1.length : Int)) = true := decide_eq_true c6
       clear c6
       replace H := tbe H
       obtain ⟨t564, A7, H⟩ := H
       by_cases c8 : t564 = true
       ·subst c8
        rw [if_pos rfl] at H
        have H' := Aside0.mk H
        clear H
        try go_wp2
        replace HB := Aside0.mk (below_drew1 HB.out)
        have p562 : 0 ≤ (x5_1 : Int) := td
        have q562 : x5_1 < (l0.length : Int) := td
        obtain ⟨ad562, A562_5, c562_5, e562, hx562_0, hx562_1, hx562_2, hx562_3, hx562_4, hx562_5, hl562_5, hi562_5⟩ := at_T47 HR0.out x5_1 p562 q562
        have hw562_5 := hx562_5
        have hw562_4 := hx562_4
        have hw562_3 := hx562_3
        have hw562_2 := hx562_2
        have hw562_1 := hx562_1
        have hw562_0 := hx562_0
        cases e562
        replace hx562_0 := tcl HB hx562_0
        replace hx562_1 := tcl HB hx562_1
        replace hx562_2 := tcl HB hx562_2
        replace hx562_3 := tcl HB hx562_3
        replace hx562_4 := tcl HB hx562_4
        replace hx562_5 := tcl HB hx562_5
        have HR562_5 := Aside0.mk hi562_5
        have HC562_5 := Aside0.mk hl562_5
        clear hi562_5 hl562_5
        replace p562 := eq_true p562
        replace q562 := eq_true q562
        have p563 : 0 ≤ (x5_1 : Int) := td
        have q563 : x5_1 < (l1.length : Int) := td
        obtain ⟨ad563, A563_5, c563_5, e563, hx563_0, hx563_1, hx563_2, hx563_3, hx563_4, hx563_5, hl563_5, hi563_5⟩ := at_T47 HR1.out x5_1 p563 q563
        have hw563_5 := hx563_5
        have hw563_4 := hx563_4
        have hw563_3 := hx563_3
        have hw563_2 := hx563_2
        have hw563_1 := hx563_1
        have hw563_0 := hx563_0
        cases e563
        replace hx563_0 := tcl HB hx563_0
        replace hx563_1 := tcl HB hx563_1
        replace hx563_2 := tcl HB hx563_2
        replace hx563_3 := tcl HB hx563_3
        replace hx563_4 := tcl HB hx563_4
        replace hx563_5 := tcl HB hx563_5
        have HR563_5 := Aside0.mk hi563_5
        have HC563_5 := Aside0.mk hl563_5
        clear hi563_5 hl563_5
        replace p563 := eq_true p563
        replace q563 := eq_true q563
        refine start_ (n := 10) (S := fun w' => w'.cell? (ad562.add ((x5_1).toNat * 6)) = some (.bool ((rd_T47 l0 x5_1).f0)) ∧ w'.cell? ⟨(ad562.add ((x5_1).toNat * 6)).block, (ad562.add ((x5_1).toNat * 6)).off + 1, none⟩ = some (.bool ((rd_T47 l0 x5_1).f1)) ∧ w'.cell? ⟨(ad562.add ((x5_1).toNat * 6)).block, (ad562.add ((x5_1).toNat * 6)).off + 2, none⟩ = some (.int .i64 ((rd_T47 l0 x5_1).f2)) ∧ w'.cell? ⟨(ad562.add ((x5_1).toNat * 6)).block, (ad562.add ((x5_1).toNat * 6)).off + 3, none⟩ = some (.int .i64 ((rd_T47 l0 x5_1).f3)) ∧ w'.cell? ⟨(ad562.add ((x5_1).toNat * 6)).block, (ad562.add ((x5_1).toNat * 6)).off + 4, none⟩ = some (.int .i64 ((rd_T47 l0 x5_1).f4)) ∧ w'.cell? ⟨(ad562.add ((x5_1).toNat * 6)).block, (ad562.add ((x5_1).toNat * 6)).off + 5, none⟩ = some (.slice A562_5 ((rd_T47 l0 x5_1).f5).length c562_5) ∧ w'.cell? (ad563.add ((x5_1).toNat * 6)) = some (.bool ((rd_T47 l1 x5_1).f0)) ∧ w'.cell? ⟨(ad563.add ((x5_1).toNat * 6)).block, (ad563.add ((x5_1).toNat * 6)).off + 1, none⟩ = some (.bool ((rd_T47 l1 x5_1).f1)) ∧ w'.cell? ⟨(ad563.add ((x5_1).toNat * 6)).block, (ad563.add ((x5_1).toNat * 6)).off + 2, none⟩ = some (.int .i64 ((rd_T47 l1 x5_1).f2)) ∧ w'.cell? ⟨(ad563.add ((x5_1).toNat * 6)).block, (ad563.add ((x5_1).toNat * 6)).off + 3, none⟩ = some (.int .i64 ((rd_T47 l1 x5_1).f3)) ∧ w'.cell? ⟨(ad563.add ((x5_1).toNat * 6)).block, (ad563.add ((x5_1).toNat * 6)).off + 4, none⟩ = some (.int .i64 ((rd_T47 l1 x5_1).f4)) ∧ w'.cell? ⟨(ad563.add ((x5_1).toNat * 6)).block, (ad563.add ((x5_1).toNat * 6)).off + 5, none⟩ = some (.slice A563_5 ((rd_T47 l1 x5_1).f5).length c563_5)) (ds := []) #[false, false, false, false, false, false, false, false, false, false] (by kernel_rfl) rfl rfl ⟨(tcl HB hw562_0), (tcl HB hw562_1), (tcl HB hw562_2), (tcl HB hw562_3), (tcl HB hw562_4), (tcl HB hw562_5), (tcl HB hw563_0), (tcl HB hw563_1), (tcl HB hw563_2), (tcl HB hw563_3), (tcl HB hw563_4), (tcl HB hw563_5)⟩ (fun hHeld => ?_); refine with_tabW laws_sameLog.tab6 laws_sameLog.bits6 (fun HT_ HW_ => ?_)
        generalize wr.drew = w9 at HB HR562_5 HR563_5 hx562_0 hx562_1 hx562_2 hx562_3 hx562_4 hx562_5 hx563_0 hx563_1 hx563_2 hx563_3 hx563_4 hx563_5 hHeld ⊢
        refine pure_ (i := 0) (N := some 17) (v := ?_) (a' := ?_) #[true, false, false, false, false, false, false, false, false, false] rfl rfl (any_of HT_.out (by kernel_rfl)) (fun _ _ _ h => h) (Or.inl ⟨by rfl, ?_⟩) ?_ ?_
        rotate_left
        ·intro w'
         go_simp
         with_reducible rfl
        rotate_left
        ·simp only [Act.put, List.setIfInBounds_toArray, List.set_cons_zero, List.set_cons_succ, i64_w, i32_w]
         rfl
        refine pure_ (i := 1) (N := some 18) (v := ?_) (a' := ?_) #[true, true, false, false, false, false, false, false, false, false] rfl rfl (any_of HT_.out (by kernel_rfl)) (fun _ _ _ h => h) (Or.inl ⟨by rfl, ?_⟩) ?_ ?_
        rotate_left
        ·intro w'
         go_simp
         with_reducible rfl
        rotate_left
        ·simp only [Act.put, List.setIfInBounds_toArray, List.set_cons_zero, List.set_cons_succ, i64_w, i32_w]
         rfl
        refine pure_ (i := 2) (N := some 19) (v := ?_) (a' := ?_) #[true, true, true, false, false, false, false, false, false, false] rfl rfl (any_of HT_.out (by kernel_rfl)) (fun _ _ _ h => h) (Or.inl ⟨by rfl, ?_⟩) ?_ ?_
        rotate_left
        ·intro w'
         go_simp
         with_reducible rfl
        rotate_left
        ·simp only [Act.put, List.setIfInBounds_toArray, List.set_cons_zero, List.set_cons_succ, i64_w, i32_w]
         rfl
        refine pure_ (i := 4) (N := some 21) (v := ?_) (a' := ?_) #[true, true, true, false, true, false, false, false, false, false] rfl rfl (any_of HT_.out (by kernel_rfl)) (fun _ _ _ h => h) (Or.inl ⟨by rfl, ?_⟩) ?_ ?_
        rotate_left
        ·intro w'
         go_simp
         with_reducible rfl
        rotate_left
        ·simp only [Act.put, List.setIfInBounds_toArray, List.set_cons_zero, List.set_cons_succ, i64_w, i32_w]
         rfl
        refine pure_ (i := 5) (N := some 22) (v := ?_) (a' := ?_) #[true, true, true, false, true, true, false, false, false, false] rfl rfl (any_of HT_.out (by kernel_rfl)) (fun _ _ _ h => h) (Or.inl ⟨by rfl, ?_⟩) ?_ ?_
        rotate_left
        ·intro w'
         go_simp
         with_reducible rfl
        rotate_left
        ·simp only [Act.put, List.setIfInBounds_toArray, List.set_cons_zero, List.set_cons_succ, i64_w, i32_w]
         rfl
        refine pure_ (i := 6) (N := some 23) (v := ?_) (a' := ?_) #[true, true, true, false, true, true, true, false, false, false] rfl rfl (any_of HT_.out (by kernel_rfl)) (fun _ _ _ h => h) (Or.inl ⟨by rfl, ?_⟩) ?_ ?_
        rotate_left
        ·intro w'
         go_simp
         with_reducible rfl
        rotate_left
        ·simp only [Act.put, List.setIfInBounds_toArray, List.set_cons_zero, List.set_cons_succ, i64_w, i32_w]
         rfl
        refine take_ (i := 3) (N := some 20) (v := ?_) (a' := ?_) #[true, true, true, true, true, true, true, false, false, false] rfl rfl (take_ofW HT_.out HW_.out (by kernel_rfl)) (fun _ _ _ h => h) (Or.inl ⟨by rfl, ?_⟩) hHeld ?_ ?_
        rotate_left
        ·rintro w' ⟨s0, s1, s2, s3, s4, s5, s6, s7, s8, s9, s10, s11⟩
         go_simp
         with_reducible rfl
        rotate_left
        ·simp only [Act.put, List.setIfInBounds_toArray, List.set_cons_zero, List.set_cons_succ, i64_w, i32_w]
         rfl
        refine take_ (i := 7) (N := some 24) (v := ?_) (a' := ?_) #[true, true, true, true, true, true, true, true, false, false] rfl rfl (take_ofW HT_.out HW_.out (by kernel_rfl)) (fun _ _ _ h => h) (Or.inl ⟨by rfl, ?_⟩) hHeld ?_ ?_
        rotate_left
        ·rintro w' ⟨s0, s1, s2, s3, s4, s5, s6, s7, s8, s9, s10, s11⟩
         go_simp
         with_reducible rfl
        rotate_left
        ·simp only [Act.put, List.setIfInBounds_toArray, List.set_cons_zero, List.set_cons_succ, i64_w, i32_w]
         rfl
        refine one_ (i := 8) (N := some 25) #[true, true, true, true, true, true, true, true, true, false] rfl rfl (one_of HT_.out (by kernel_rfl)) (by decide) (fun K hK => ?_)
        refine goes_ Tryd.func42 (by kernel_rfl) rfl #[.agg #[.bool ((rd_T47 l0 x5_1).f0), .bool ((rd_T47 l0 x5_1).f1), .int .i64 ((rd_T47 l0 x5_1).f2), .int .i64 ((rd_T47 l0 x5_1).f3), .int .i64 ((rd_T47 l0 x5_1).f4), .slice A562_5 ((rd_T47 l0 x5_1).f5).length c562_5], .agg #[.bool ((rd_T47 l1 x5_1).f0), .bool ((rd_T47 l1 x5_1).f1), .int .i64 ((rd_T47 l1 x5_1).f2), .int .i64 ((rd_T47 l1 x5_1).f3), .int .i64 ((rd_T47 l1 x5_1).f4), .slice A563_5 ((rd_T47 l1 x5_1).f5).length c563_5]] (by rfl) rfl rfl tq ?_
        with_reducible refine (laws_sameBatch.calls k1 ((rd_T47 l0 x5_1).f0) ((rd_T47 l0 x5_1).f1) ((rd_T47 l0 x5_1).f2) ((rd_T47 l0 x5_1).f3) ((rd_T47 l0 x5_1).f4) _ _ ((rd_T47 l0 x5_1).f5) ((rd_T47 l1 x5_1).f0) ((rd_T47 l1 x5_1).f1) ((rd_T47 l1 x5_1).f2) ((rd_T47 l1 x5_1).f3) ((rd_T47 l1 x5_1).f4) _ _ ((rd_T47 l1 x5_1).f5) true _ ?side1 ?side2 ?side3 ?side4 A7.out).mono ?_
        (case side1 => exact tC (Kd.C_below HR562_5.out HB.out))
        (case side2 => exact HC562_5.out)
        (case side3 => exact tC (Kd.C_below HR563_5.out HB.out))
        (case side4 => exact HC563_5.out)
        rintro e w10 ⟨rfl, hb⟩
        refine ⟨_, rfl, ?_⟩
        replace HB := tBs HB hb
        (try clear hb)
        (try clear hb2)
        (try clear hk)
        (try clear hi)
        refine hK.out _ _ ⟨(tcl HB hw562_0), (tcl HB hw562_1), (tcl HB hw562_2), (tcl HB hw562_3), (tcl HB hw562_4), (tcl HB hw562_5), (tcl HB hw563_0), (tcl HB hw563_1), (tcl HB hw563_2), (tcl HB hw563_3), (tcl HB hw563_4), (tcl HB hw563_5)⟩ (fun hHeld => ?_)
        clear hK K
        refine norm_ (a' := ?_) ?_ ?_
        rotate_left
        ·show Act.put _ (some 25) _ = _
         simp only [Act.put, List.setIfInBounds_toArray, List.set_cons_zero, List.set_cons_succ, i64_w, i32_w]
         rfl
        refine pure_ (i := 9) (N := some 26) (v := ?_) (a' := ?_) #[true, true, true, true, true, true, true, true, true, true] rfl rfl (any_of HT_.out (by kernel_rfl)) (fun _ _ _ h => h) (Or.inl ⟨by rfl, ?_⟩) ?_ ?_
        rotate_left
        ·intro w'
         go_simp
         with_reducible rfl
        rotate_left
        ·simp only [Act.put, List.setIfInBounds_toArray, List.set_cons_zero, List.set_cons_succ, i64_w, i32_w]
         rfl
        refine done_ (done_of HT_.out (by kernel_rfl)) ?_
        try go_wp2
        go_roundg k1
        case measure => have := HK1.out; omega
        case rel => exact ⟨(wrap64 (x5_1 + 1)), tr, H', ⟨by have := HK1.out; omega⟩, ⟨zb⟩⟩
       ·replace c8 := Bool.eq_false_iff.mpr c8
        subst c8
        rw [if_neg (show ¬ (false = true) by decide)] at H
        obtain rfl := Option.some.inj H
        try go_wp2
        replace HB := Aside0.mk (below_drew1 HB.out)
        have p562 : 0 ≤ (x5_1 : Int) := td
        have q562 : x5_1 < (l0.length : Int) := td
        obtain ⟨ad562, A562_5, c562_5, e562, hx562_0, hx562_1, hx562_2, hx562_3, hx562_4, hx562_5, hl562_5, hi562_5⟩ := at_T47 HR0.out x5_1 p562 q562
        have hw562_5 := hx562_5
        have hw562_4 := hx562_4
        have hw562_3 := hx562_3
        have hw562_2 := hx562_2
        have hw562_1 := hx562_1
        have hw562_0 := hx562_0
        cases e562
        replace hx562_0 := tcl HB hx562_0
        replace hx562_1 := tcl HB hx562_1
        replace hx562_2 := tcl HB hx562_2
        replace hx562_3 := tcl HB hx562_3
        replace hx562_4 := tcl HB hx562_4
        replace hx562_5 := tcl HB hx562_5
        have HR562_5 := Aside0.mk hi562_5
        have HC562_5 := Aside0.mk hl562_5
        clear hi562_5 hl562_5
        replace p562 := eq_true p562
        replace q562 := eq_true q562
        have p563 : 0 ≤ (x5_1 : Int) := td
        have q563 : x5_1 < (l1.length : Int) := td
        obtain ⟨ad563, A563_5, c563_5, e563, hx563_0, hx563_1, hx563_2, hx563_3, hx563_4, hx563_5, hl563_5, hi563_5⟩ := at_T47 HR1.out x5_1 p563 q563
        have hw563_5 := hx563_5
        have hw563_4 := hx563_4
        have hw563_3 := hx563_3
        have hw563_2 := hx563_2
        have hw563_1 := hx563_1
        have hw563_0 := hx563_0
        cases e563
        replace hx563_0 := tcl HB hx563_0
        replace hx563_1 := tcl HB hx563_1
        replace hx563_2 := tcl HB hx563_2
        replace hx563_3 := tcl HB hx563_3
        replace hx563_4 := tcl HB hx563_4
        replace hx563_5 := tcl HB hx563_5
        have HR563_5 := Aside0.mk hi563_5
        have HC563_5 := Aside0.mk hl563_5
        clear hi563_5 hl563_5
        replace p563 := eq_true p563
        replace q563 := eq_true q563
        refine start_ (n := 10) (S := fun w' => w'.cell? (ad562.add ((x5_1).toNat * 6)) = some (.bool ((rd_T47 l0 x5_1).f0)) ∧ w'.cell? ⟨(ad562.add ((x5_1).toNat * 6)).block, (ad562.add ((x5_1).toNat * 6)).off + 1, none⟩ = some (.bool ((rd_T47 l0 x5_1).f1)) ∧ w'.cell? ⟨(ad562.add ((x5_1).toNat * 6)).block, (ad562.add ((x5_1).toNat * 6)).off + 2, none⟩ = some (.int .i64 ((rd_T47 l0 x5_1).f2)) ∧ w'.cell? ⟨(ad562.add ((x5_1).toNat * 6)).block, (ad562.add ((x5_1).toNat * 6)).off + 3, none⟩ = some (.int .i64 ((rd_T47 l0 x5_1).f3)) ∧ w'.cell? ⟨(ad562.add ((x5_1).toNat * 6)).block, (ad562.add ((x5_1).toNat * 6)).off + 4, none⟩ = some (.int .i64 ((rd_T47 l0 x5_1).f4)) ∧ w'.cell? ⟨(ad562.add ((x5_1).toNat * 6)).block, (ad562.add ((x5_1).toNat * 6)).off + 5, none⟩ = some (.slice A562_5 ((rd_T47 l0 x5_1).f5).length c562_5) ∧ w'.cell? (ad563.add ((x5_1).toNat * 6)) = some (.bool ((rd_T47 l1 x5_1).f0)) ∧ w'.cell? ⟨(ad563.add ((x5_1).toNat * 6)).block, (ad563.add ((x5_1).toNat * 6)).off + 1, none⟩ = some (.bool ((rd_T47 l1 x5_1).f1)) ∧ w'.cell? ⟨(ad563.add ((x5_1).toNat * 6)).block, (ad563.add ((x5_1).toNat * 6)).off + 2, none⟩ = some (.int .i64 ((rd_T47 l1 x5_1).f2)) ∧ w'.cell? ⟨(ad563.add ((x5_1).toNat * 6)).block, (ad563.add ((x5_1).toNat * 6)).off + 3, none⟩ = some (.int .i64 ((rd_T47 l1 x5_1).f3)) ∧ w'.cell? ⟨(ad563.add ((x5_1).toNat * 6)).block, (ad563.add ((x5_1).toNat * 6)).off + 4, none⟩ = some (.int .i64 ((rd_T47 l1 x5_1).f4)) ∧ w'.cell? ⟨(ad563.add ((x5_1).toNat * 6)).block, (ad563.add ((x5_1).toNat * 6)).off + 5, none⟩ = some (.slice A563_5 ((rd_T47 l1 x5_1).f5).length c563_5)) (ds := []) #[false, false, false, false, false, false, false, false, false, false] (by kernel_rfl) rfl rfl ⟨(tcl HB hw562_0), (tcl HB hw562_1), (tcl HB hw562_2), (tcl HB hw562_3), (tcl HB hw562_4), (tcl HB hw562_5), (tcl HB hw563_0), (tcl HB hw563_1), (tcl HB hw563_2), (tcl HB hw563_3), (tcl HB hw563_4), (tcl HB hw563_5)⟩ (fun hHeld => ?_); refine with_tabW laws_sameLog.tab6 laws_sameLog.bits6 (fun HT_ HW_ => ?_)
        generalize wr.drew = w11 at HB HR562_5 HR563_5 hx562_0 hx562_1 hx562_2 hx562_3 hx562_4 hx562_5 hx563_0 hx563_1 hx563_2 hx563_3 hx563_4 hx563_5 hHeld ⊢
        refine pure_ (i := 0) (N := some 17) (v := ?_) (a' := ?_) #[true, false, false, false, false, false, false, false, false, false] rfl rfl (any_of HT_.out (by kernel_rfl)) (fun _ _ _ h => h) (Or.inl ⟨by rfl, ?_⟩) ?_ ?_
        rotate_left
        ·intro w'
         go_simp
         with_reducible rfl
        rotate_left
        ·simp only [Act.put, List.setIfInBounds_toArray, List.set_cons_zero, List.set_cons_succ, i64_w, i32_w]
         rfl
        refine pure_ (i := 1) (N := some 18) (v := ?_) (a' := ?_) #[true, true, false, false, false, false, false, false, false, false] rfl rfl (any_of HT_.out (by kernel_rfl)) (fun _ _ _ h => h) (Or.inl ⟨by rfl, ?_⟩) ?_ ?_
        rotate_left
        ·intro w'
         go_simp
         with_reducible rfl
        rotate_left
        ·simp only [Act.put, List.setIfInBounds_toArray, List.set_cons_zero, List.set_cons_succ, i64_w, i32_w]
         rfl
        refine pure_ (i := 2) (N := some 19) (v := ?_) (a' := ?_) #[true, true, true, false, false, false, false, false, false, false] rfl rfl (any_of HT_.out (by kernel_rfl)) (fun _ _ _ h => h) (Or.inl ⟨by rfl, ?_⟩) ?_ ?_
        rotate_left
        ·intro w'
         go_simp
         with_reducible rfl
        rotate_left
        ·simp only [Act.put, List.setIfInBounds_toArray, List.set_cons_zero, List.set_cons_succ, i64_w, i32_w]
         rfl
        refine pure_ (i := 4) (N := some 21) (v := ?_) (a' := ?_) #[true, true, true, false, true, false, false, false, false, false] rfl rfl (any_of HT_.out (by kernel_rfl)) (fun _ _ _ h => h) (Or.inl ⟨by rfl, ?_⟩) ?_ ?_
        rotate_left
        ·intro w'
         go_simp
         with_reducible rfl
        rotate_left
        ·simp only [Act.put, List.setIfInBounds_toArray, List.set_cons_zero, List.set_cons_succ, i64_w, i32_w]
         rfl
        refine pure_ (i := 5) (N := some 22) (v := ?_) (a' := ?_) #[true, true, true, false, true, true, false, false, false, false] rfl rfl (any_of HT_.out (by kernel_rfl)) (fun _ _ _ h => h) (Or.inl ⟨by rfl, ?_⟩) ?_ ?_
        rotate_left
        ·intro w'
         go_simp
         with_reducible rfl
        rotate_left
        ·simp only [Act.put, List.setIfInBounds_toArray, List.set_cons_zero, List.set_cons_succ, i64_w, i32_w]
         rfl
        refine pure_ (i := 6) (N := some 23) (v := ?_) (a' := ?_) #[true, true, true, false, true, true, true, false, false, false] rfl rfl (any_of HT_.out (by kernel_rfl)) (fun _ _ _ h => h) (Or.inl ⟨by rfl, ?_⟩) ?_ ?_
        rotate_left
        ·intro w'
         go_simp
         with_reducible rfl
        rotate_left
        ·simp only [Act.put, List.setIfInBounds_toArray, List.set_cons_zero, List.set_cons_succ, i64_w, i32_w]
         rfl
        refine take_ (i := 3) (N := some 20) (v := ?_) (a' := ?_) #[true, true, true, true, true, true, true, false, false, false] rfl rfl (take_ofW HT_.out HW_.out (by kernel_rfl)) (fun _ _ _ h => h) (Or.inl ⟨by rfl, ?_⟩) hHeld ?_ ?_
        rotate_left
        ·rintro w' ⟨s0, s1, s2, s3, s4, s5, s6, s7, s8, s9, s10, s11⟩
         go_simp
         with_reducible rfl
        rotate_left
        ·simp only [Act.put, List.setIfInBounds_toArray, List.set_cons_zero, List.set_cons_succ, i64_w, i32_w]
         rfl
        refine take_ (i := 7) (N := some 24) (v := ?_) (a' := ?_) #[true, true, true, true, true, true, true, true, false, false] rfl rfl (take_ofW HT_.out HW_.out (by kernel_rfl)) (fun _ _ _ h => h) (Or.inl ⟨by rfl, ?_⟩) hHeld ?_ ?_
        rotate_left
        ·rintro w' ⟨s0, s1, s2, s3, s4, s5, s6, s7, s8, s9, s10, s11⟩
         go_simp
         with_reducible rfl
        rotate_left
        ·simp only [Act.put, List.setIfInBounds_toArray, List.set_cons_zero, List.set_cons_succ, i64_w, i32_w]
         rfl
        refine one_ (i := 8) (N := some 25) #[true, true, true, true, true, true, true, true, true, false] rfl rfl (one_of HT_.out (by kernel_rfl)) (by decide) (fun K hK => ?_)
        refine goes_ Tryd.func42 (by kernel_rfl) rfl #[.agg #[.bool ((rd_T47 l0 x5_1).f0), .bool ((rd_T47 l0 x5_1).f1), .int .i64 ((rd_T47 l0 x5_1).f2), .int .i64 ((rd_T47 l0 x5_1).f3), .int .i64 ((rd_T47 l0 x5_1).f4), .slice A562_5 ((rd_T47 l0 x5_1).f5).length c562_5], .agg #[.bool ((rd_T47 l1 x5_1).f0), .bool ((rd_T47 l1 x5_1).f1), .int .i64 ((rd_T47 l1 x5_1).f2), .int .i64 ((rd_T47 l1 x5_1).f3), .int .i64 ((rd_T47 l1 x5_1).f4), .slice A563_5 ((rd_T47 l1 x5_1).f5).length c563_5]] (by rfl) rfl rfl tq ?_
        with_reducible refine (laws_sameBatch.calls k1 ((rd_T47 l0 x5_1).f0) ((rd_T47 l0 x5_1).f1) ((rd_T47 l0 x5_1).f2) ((rd_T47 l0 x5_1).f3) ((rd_T47 l0 x5_1).f4) _ _ ((rd_T47 l0 x5_1).f5) ((rd_T47 l1 x5_1).f0) ((rd_T47 l1 x5_1).f1) ((rd_T47 l1 x5_1).f2) ((rd_T47 l1 x5_1).f3) ((rd_T47 l1 x5_1).f4) _ _ ((rd_T47 l1 x5_1).f5) false _ ?side1 ?side2 ?side3 ?side4 A7.out).mono ?_
        (case side1 => exact tC (Kd.C_below HR562_5.out HB.out))
        (case side2 => exact HC562_5.out)
        (case side3 => exact tC (Kd.C_below HR563_5.out HB.out))
        (case side4 => exact HC563_5.out)
        rintro e w12 ⟨rfl, hb⟩
        refine ⟨_, rfl, ?_⟩
        replace HB := tBs HB hb
        (try clear hb)
        (try clear hb2)
        (try clear hk)
        (try clear hi)
        refine hK.out _ _ ⟨(tcl HB hw562_0), (tcl HB hw562_1), (tcl HB hw562_2), (tcl HB hw562_3), (tcl HB hw562_4), (tcl HB hw562_5), (tcl HB hw563_0), (tcl HB hw563_1), (tcl HB hw563_2), (tcl HB hw563_3), (tcl HB hw563_4), (tcl HB hw563_5)⟩ (fun hHeld => ?_)
        clear hK K
        refine norm_ (a' := ?_) ?_ ?_
        rotate_left
        ·show Act.put _ (some 25) _ = _
         simp only [Act.put, List.setIfInBounds_toArray, List.set_cons_zero, List.set_cons_succ, i64_w, i32_w]
         rfl
        refine pure_ (i := 9) (N := some 26) (v := ?_) (a' := ?_) #[true, true, true, true, true, true, true, true, true, true] rfl rfl (any_of HT_.out (by kernel_rfl)) (fun _ _ _ h => h) (Or.inl ⟨by rfl, ?_⟩) ?_ ?_
        rotate_left
        ·intro w'
         go_simp
         with_reducible rfl
        rotate_left
        ·simp only [Act.put, List.setIfInBounds_toArray, List.set_cons_zero, List.set_cons_succ, i64_w, i32_w]
         rfl
        refine done_ (done_of HT_.out (by kernel_rfl)) ?_
        try go_wp2
        go_ret
        exact ⟨by first | rfl | (simp [errW_none, errW_some] <;> rfl) | (simp [*, errW_none, errW_some] <;> rfl), zb⟩
      ·rw [if_neg c6] at H
       exact absurd H (by simp)
     ·rw [if_neg c5] at H
      exact absurd H (by simp)
    ·rw [if_neg c4] at H
     have c4b0 : decide (x5_1 < (l0.length : Int)) = false := decide_eq_false c4
     clear c4
     obtain rfl := Option.some.inj H
     go_wp2
     go_ret
     exact ⟨by first | rfl | (simp [errW_none, errW_some] <;> rfl) | (simp [*, errW_none, errW_some] <;> rfl), zb⟩
 ·rw [if_neg c3] at H
  have c3b0 : ((l0.length : Int) == (l1.length : Int)) = false := beq_eq_false_iff_ne.mpr c3
  have c3b1 : ((l0.length : Int) != (l1.length : Int)) = true := bne_iff_ne.mpr c3
  have c3b2 : (l0.length == l1.length) = false := by first | simpa using c3 | (simp at c3 ⊢; omega)
  obtain rfl := Option.some.inj H
  go_enter Tryd.func14, Tryd.ntmps14
  go_wp2
  go_ret
  exact ⟨by first | rfl | (simp [errW_none, errW_some] <;> rfl) | (simp [*, errW_none, errW_some] <;> rfl), zb⟩

end Go.Proofs.YtbbboachakkgiaaDoor.G

namespace Go.Proofs.YtbbboachakkgiaaDoor.G
open Go.RowKit Go.Proofs.YtbbboachakkgiaaDoorW.PrintWords Go.Proofs.YtbbboachakkgiaaDoorW.PrintLast Go.Proofs.YtbbboachakkgiaaDoorW.PrintMore
attribute [local go_sem] max2_int min2_int max_two min_two max_three min_three max_four min_four   -- for this text's walks alone
set_option linter.unusedVariables false
set_option linter.unusedSimpArgs false

def impl_ReadEnd.f (k : Nat) (l0 : List (S47)) : Option (Int) := (impl_LogValid.f k l0).bind fun t597 => (if t597 = true then (if (l0.length : Int) = 0 then (some 0) else (if 0 ≤ (wrap64 ((l0.length : Int) - 1)) then (if (wrap64 ((l0.length : Int) - 1)) < (l0.length : Int) then ((impl_Batch_last.f ((rd_T47 l0 (wrap64 ((l0.length : Int) - 1))).f0) ((rd_T47 l0 (wrap64 ((l0.length : Int) - 1))).f1) ((rd_T47 l0 (wrap64 ((l0.length : Int) - 1))).f2) ((rd_T47 l0 (wrap64 ((l0.length : Int) - 1))).f3) ((rd_T47 l0 (wrap64 ((l0.length : Int) - 1))).f4) ((rd_T47 l0 (wrap64 ((l0.length : Int) - 1))).f5)).bind fun t599 => (some (wrap64 (t599 + 1)))) else (none)) else (none))) else (some (-1)))
set_option maxHeartbeats 8000000 in
set_option maxRecDepth 100000 in
theorem impl_ReadEnd.calls (k : Nat) (A0 : Option Addr) (c0 : Nat) (l0 : List (S47)) (r : Int) (w : World) (hr0 : Kd.C k47 w A0 l0.length l0) (hc0 : l0.length ≤ c0) (h : impl_ReadEnd.f k l0 = some r) :
  Calls Tryd.prog 18 #[.slice A0 l0.length c0] w fun e w' => e = .returned (.int .i64 r) ∧ Below w.heap.size w w' := by
 have hu47 := Tryd.underlying47
 have HR0 := Aside0.mk hr0
 have HC0 := Aside0.mk hc0
 clear hr0 hc0
 have HB := Aside0.mk (Below.refl w.heap.size w)
 have H : ((impl_LogValid.f k l0).bind fun t597 => (if t597 = true then (if (l0.length : Int) = 0 then (some 0) else (if 0 ≤ (wrap64 ((l0.length : Int) - 1)) then (if (wrap64 ((l0.length : Int) - 1)) < (l0.length : Int) then ((impl_Batch_last.f ((rd_T47 l0 (wrap64 ((l0.length : Int) - 1))).f0) ((rd_T47 l0 (wrap64 ((l0.length : Int) - 1))).f1) ((rd_T47 l0 (wrap64 ((l0.length : Int) - 1))).f2) ((rd_T47 l0 (wrap64 ((l0.length : Int) - 1))).f3) ((rd_T47 l0 (wrap64 ((l0.length : Int) - 1))).f4) ((rd_T47 l0 (wrap64 ((l0.length : Int) - 1))).f5)).bind fun t599 => (some (wrap64 (t599 + 1)))) else (none)) else (none))) else (some (-1)))) = some r := h
 clear h
 replace H := tbe H
 obtain ⟨t597, A2, H⟩ := H
 by_cases c3 : t597 = true
 ·subst c3
  rw [if_pos rfl] at H
  by_cases c4 : (l0.length : Int) = 0
  ·rw [if_pos c4] at H
   have c4b0 : ((l0.length : Int) == 0) = true := beq_iff_eq.mpr c4
   have c4b1 : ((l0.length : Int) != 0) = false := bne_eq_false_iff_eq.mpr c4
   clear c4
   obtain rfl := Option.some.inj H
   go_enter Tryd.func18, Tryd.ntmps18
   go_wp2_with (first | ((with_reducible refine gate_callee (f := 17) rfl ?_); refine goesL_ (some 5) rfl rfl Tryd.func17 (by kernel_rfl) rfl #[.slice A0 l0.length c0] rfl tq ?_; (with_reducible refine (impl_LogValid.calls k _ _ l0 true _ ?side1 ?side2 A2.out).mono ?_); (case side1 => exact tC HR0.out); (case side2 => exact HC0.out); rintro e w5 ⟨rfl, hb⟩; refine ⟨_, rfl, ?_⟩; replace HB := tBs HB hb; (try clear hb); (try clear hb2); (try clear hk); (try clear hi)))
   go_ret
   exact ⟨by first | rfl | (simp [errW_none, errW_some] <;> rfl) | (simp [*, errW_none, errW_some] <;> rfl), zb⟩
  ·rw [if_neg c4] at H
   have c4b0 : ((l0.length : Int) == 0) = false := beq_eq_false_iff_ne.mpr c4
   have c4b1 : ((l0.length : Int) != 0) = true := bne_iff_ne.mpr c4
   have c4b2 : ¬ (l0 = []) := fun h_ => c4 (by rw [h_]; rfl)
   obtain ⟨ji6, hji6⟩ : ∃ j_ : Int, (wrap64 ((l0.length : Int) - 1)) = j_ := ⟨_, rfl⟩
   replace H : (if 0 ≤ (ji6) then (if (ji6) < (l0.length : Int) then ((impl_Batch_last.f ((rd_T47 l0 (ji6)).f0) ((rd_T47 l0 (ji6)).f1) ((rd_T47 l0 (ji6)).f2) ((rd_T47 l0 (ji6)).f3) ((rd_T47 l0 (ji6)).f4) ((rd_T47 l0 (ji6)).f5)).bind fun t599 => (some (wrap64 (t599 + 1)))) else (none)) else (none)) = some r := by first | (rw [hji6] at H; exact H) | (simp only [hji6] at H ⊢; exact H)
   (try rw [hji6] at A2)
   have hji6w : (IntKind.i64.wrap ((l0.length : Int) - 1)) = ji6 := (i64_w _).trans hji6
   by_cases c7 : 0 ≤ (ji6)
   ·rw [if_pos c7] at H
    have c7b0 : decide (0 ≤ (ji6)) = true := decide_eq_true c7
    clear c7
    by_cases c8 : (ji6) < (l0.length : Int)
    ·rw [if_pos c8] at H
     have c8b0 : decide ((ji6) < (l0.length : Int)) = true := decide_eq_true c8
     clear c8
     replace H := tbe H
     obtain ⟨t599, A9, H⟩ := H
     obtain rfl := Option.some.inj H
     go_enter Tryd.func18, Tryd.ntmps18
     go_wp2_with (first | ((with_reducible refine gate_callee (f := 17) rfl ?_); refine goesL_ (some 5) rfl rfl Tryd.func17 (by kernel_rfl) rfl #[.slice A0 l0.length c0] rfl tq ?_; (with_reducible refine (impl_LogValid.calls k _ _ l0 true _ ?side1 ?side2 A2.out).mono ?_); (case side1 => exact tC HR0.out); (case side2 => exact HC0.out); rintro e w10 ⟨rfl, hb⟩; refine ⟨_, rfl, ?_⟩; replace HB := tBs HB hb; (try clear hb); (try clear hb2); (try clear hk); (try clear hi); have p598 : 0 ≤ ((ji6) : Int) := td; have q598 : (ji6) < (l0.length : Int) := td; obtain ⟨ad598, A598_5, c598_5, e598, hx598_0, hx598_1, hx598_2, hx598_3, hx598_4, hx598_5, hl598_5, hi598_5⟩ := at_T47 HR0.out (ji6) p598 q598; cases e598; replace hx598_0 := tcl HB hx598_0; replace hx598_1 := tcl HB hx598_1; replace hx598_2 := tcl HB hx598_2; replace hx598_3 := tcl HB hx598_3; replace hx598_4 := tcl HB hx598_4; replace hx598_5 := tcl HB hx598_5; have HR598_5 := Aside0.mk hi598_5; have HC598_5 := Aside0.mk hl598_5; clear hi598_5 hl598_5; replace p598 := eq_true p598; replace q598 := eq_true q598) | ((with_reducible refine gate_callee (f := 34) rfl ?_); refine goesL_ (some 17) rfl rfl Tryd.func34 (by kernel_rfl) rfl #[.agg #[.bool ((rd_T47 l0 (ji6)).f0), .bool ((rd_T47 l0 (ji6)).f1), .int .i64 ((rd_T47 l0 (ji6)).f2), .int .i64 ((rd_T47 l0 (ji6)).f3), .int .i64 ((rd_T47 l0 (ji6)).f4), .slice A598_5 ((rd_T47 l0 (ji6)).f5).length c598_5]] rfl (by (try simp only [List.map_toArray, List.map_cons, List.map_nil]); first | done | (simp only [hji6]; rfl) | rfl | (simp only [List.length_drop, List.length_take]; rfl)) ?_; (with_reducible refine (impl_Batch_last.calls ((rd_T47 l0 (ji6)).f0) ((rd_T47 l0 (ji6)).f1) ((rd_T47 l0 (ji6)).f2) ((rd_T47 l0 (ji6)).f3) ((rd_T47 l0 (ji6)).f4) _ _ ((rd_T47 l0 (ji6)).f5) t599 _ ?side1 ?side2 A9.out).mono ?_); (case side1 => exact tC (Kd.C_below HR598_5.out HB.out)); (case side2 => exact HC598_5.out); rintro e w11 ⟨rfl, hb⟩; refine ⟨_, rfl, ?_⟩; replace HB := tBs HB hb; (try clear hb); (try clear hb2); (try clear hk); (try clear hi)))
     go_ret
     exact ⟨by first | rfl | (simp [errW_none, errW_some] <;> rfl) | (simp only [← hji6]; first | rfl | (simp [errW_none, errW_some] <;> rfl)) | (simp [*, errW_none, errW_some] <;> rfl), zb⟩
    ·rw [if_neg c8] at H
     exact absurd H (by simp)
   ·rw [if_neg c7] at H
    exact absurd H (by simp)
 ·replace c3 := Bool.eq_false_iff.mpr c3
  subst c3
  rw [if_neg (show ¬ (false = true) by decide)] at H
  obtain rfl := Option.some.inj H
  go_enter Tryd.func18, Tryd.ntmps18
  go_wp2_with (first | ((with_reducible refine gate_callee (f := 17) rfl ?_); refine goesL_ (some 5) rfl rfl Tryd.func17 (by kernel_rfl) rfl #[.slice A0 l0.length c0] rfl tq ?_; (with_reducible refine (impl_LogValid.calls k _ _ l0 false _ ?side1 ?side2 A2.out).mono ?_); (case side1 => exact tC HR0.out); (case side2 => exact HC0.out); rintro e w12 ⟨rfl, hb⟩; refine ⟨_, rfl, ?_⟩; replace HB := tBs HB hb; (try clear hb); (try clear hb2); (try clear hk); (try clear hi)))
  go_ret
  exact ⟨by first | rfl | (simp [errW_none, errW_some] <;> rfl) | (simp [*, errW_none, errW_some] <;> rfl), zb⟩

end Go.Proofs.YtbbboachakkgiaaDoor.G

namespace Go.Proofs.YtbbboachakkgiaaDoor.G
open Go.RowKit Go.Proofs.YtbbboachakkgiaaDoorW.PrintWords Go.Proofs.YtbbboachakkgiaaDoorW.PrintLast Go.Proofs.YtbbboachakkgiaaDoorW.PrintMore
attribute [local go_sem] max2_int min2_int max_two min_two max_three min_three max_four min_four   -- for this text's walks alone
set_option linter.unusedVariables false
set_option linter.unusedSimpArgs false

def laws_FnLogCutTwice.j0 : Nat → List (S47) → Int → List (S47) → Bool → List (S47) → Bool → Bool → Option (Bool)
 | 0, _, _, _, _, _, _, _ => none
 | k + 1, x3, x4, x5, x6, x7, x8, x45 => if x45 = true then (if (x6 == x8) = true then ((laws_sameLog.f k x5 x7).bind fun t613 => (some t613)) else (some false)) else ((impl_LogCut.f k x5 x4).bind fun bt614 => ((impl_ReadEnd.f k x3).bind fun t618 => ((impl_LogCut.f k x3 t618).bind fun bt619 => (if bt614.2 = true then (if bt619.2 = true then ((laws_sameLog.f k bt614.1 x5).bind fun t623 => (if t623 = true then ((laws_sameLog.f k bt619.1 x3).bind fun t624 => (some t624)) else (some false))) else (some false)) else (some false)))))
def laws_FnLogCutTwice.f (k : Nat) (l0 : List Int) : Option (Bool) := if (l0.length : Int) > 1048576 then (some true) else ((spec_DrawLogCut.f k l0).bind fun bt600 => ((impl_LogCut.f k bt600.1 bt600.2).bind fun bt604 => ((spec_LogCut.f k bt600.1 bt600.2).bind fun bt608 => (if (bt604.2 != bt608.2) = true then (laws_FnLogCutTwice.j0 k bt600.1 bt600.2 bt604.1 bt604.2 bt608.1 bt608.2 true) else ((laws_sameLog.f k bt604.1 bt608.1).bind fun t612 => (if t612 = true then (laws_FnLogCutTwice.j0 k bt600.1 bt600.2 bt604.1 bt604.2 bt608.1 bt608.2 (!bt604.2)) else (laws_FnLogCutTwice.j0 k bt600.1 bt600.2 bt604.1 bt604.2 bt608.1 bt608.2 true)))))))
set_option maxHeartbeats 40000000 in
set_option maxRecDepth 100000 in
theorem laws_FnLogCutTwice.calls [ErrA] (k : Nat) (A0 : Option Addr) (c0 : Nat) (l0 : List Int) (r : Bool) (w : World) (hE : ErrOk [1] w) (hr0 : Kd.C (Kd.int .u8) w A0 l0.length l0) (hc0 : l0.length ≤ c0) (h : laws_FnLogCutTwice.f k l0 = some r) :
  Calls Tryd.prog 5 #[.slice A0 l0.length c0] w fun e w' => e = .returned (.bool r) ∧ Below w.heap.size w w' := by
 have HE := Aside0.mk hE
 clear hE
 have HR0 := Aside0.mk hr0
 have HC0 := Aside0.mk hc0
 clear hr0 hc0
 have HB := Aside0.mk (Below.refl w.heap.size w)
 have H : (if (l0.length : Int) > 1048576 then (some true) else ((spec_DrawLogCut.f k l0).bind fun bt600 => ((impl_LogCut.f k bt600.1 bt600.2).bind fun bt604 => ((spec_LogCut.f k bt600.1 bt600.2).bind fun bt608 => (if (bt604.2 != bt608.2) = true then (laws_FnLogCutTwice.j0 k bt600.1 bt600.2 bt604.1 bt604.2 bt608.1 bt608.2 true) else ((laws_sameLog.f k bt604.1 bt608.1).bind fun t612 => (if t612 = true then (laws_FnLogCutTwice.j0 k bt600.1 bt600.2 bt604.1 bt604.2 bt608.1 bt608.2 (!bt604.2)) else (laws_FnLogCutTwice.j0 k bt600.1 bt600.2 bt604.1 bt604.2 bt608.1 bt608.2 true)))))))) = some r := h
 clear h
 by_cases c2 : (l0.length : Int) > 1048576
 ·rw [if_pos c2] at H
  have c2b0 : decide (1048576 < (l0.length : Int)) = true := decide_eq_true c2
  have c2b1 : decide (1048576 < l0.length) = true := decide_eq_true (by omega)
  clear c2
  obtain rfl := Option.some.inj H
  go_enter Tryd.func5, Tryd.ntmps5
  go_wp2
  all_goals go_ret
  all_goals exact ⟨by first | rfl | (simp [errW_none, errW_some] <;> rfl) | (simp [*, errW_none, errW_some] <;> rfl), zb⟩
 ·rw [if_neg c2] at H
  have c2b0 : decide (1048576 < (l0.length : Int)) = false := decide_eq_false c2
  have c2b1 : decide (1048576 < l0.length) = false := decide_eq_false (by omega)
  clear c2
  replace H := tbe H
  obtain ⟨⟨t600, t603⟩, A3, H⟩ := H
  dsimp only at H
  replace H := tbe H
  obtain ⟨⟨t604, t605⟩, A4, H⟩ := H
  dsimp only at H
  replace H := tbe H
  obtain ⟨⟨t608, t609⟩, A5, H⟩ := H
  dsimp only at H
  have HC6 := Aside0.mk H
  clear H
  go_enter Tryd.func5, Tryd.ntmps5
  go_upto_region 6 with (first | ((with_reducible refine gate_callee (f := 11) rfl ?_); refine goesL_ (some 18) rfl rfl Tryd.func11 (by kernel_rfl) rfl #[.slice A0 l0.length c0] rfl tq ?_; (with_reducible refine (spec_DrawLogCut.calls k _ _ l0 t600 t603 _ ?side1 ?side2 A3.out).mono ?_); (case side1 => exact tC HR0.out); (case side2 => exact HC0.out); rintro e w7 ⟨v601, rfl, ho0, hb⟩; have u_v601 := tsv Tryd.prog v601 ho0; refine ⟨_, rfl, ?_⟩; have HO602 := Aside0.mk (Kd.N_lower (Kd.N_mono (ok' := fun k_ => True) ho0 (fun k_ hk_ => trivial)) (below_size zb)); replace HB := tBs HB hb; (try clear hb); (try clear hb2); (try clear hk); (try clear hi); (try clear ho0); obtain ⟨Ao8, co8, eo8⟩ := Kd.N_slice HO602.out; subst eo8) | ((with_reducible refine gate_callee (f := 12) rfl ?_); refine goesL_ (some 24) rfl rfl Tryd.func12 (by kernel_rfl) rfl #[.slice Ao8 t600.length co8, .int .i64 t603] rfl tq ?_; (with_reducible refine (impl_LogCut.calls (hE := ?sideE) k _ _ t600 t603 t604 t605 _ ?side1 ?side2 A4.out).mono ?_); (case sideE => exact ErrOk.below (HE.out.sub (by decide)) zb); (case side1 => repeat (first | exact (Kd.N_reads' HO602.out).2.2 | (with_reducible refine Kd.C_alloc ?_ _) | (with_reducible refine Kd.C_drewN ?_ _) | (with_reducible refine Kd.C_drew ?_))); (case side2 => exact (Kd.N_reads' HO602.out).2.1); rintro e w9 ⟨v606, rfl, ho0, hb⟩; have u_v606 := tsv Tryd.prog v606 ho0; refine ⟨_, rfl, ?_⟩; have HO607 := Aside0.mk (Kd.N_lower (Kd.N_mono (ok' := fun k_ => some k_ ≠ (.slice Ao8 t600.length co8 : Value).ownBlock) (Kd.R_N (Kd.R_bound ho0)) (fun k_ hk_ => (tfr HO602 k_ hk_.2.1))) (below_size zb)); replace HO602 := tNe HO602 ho0 hb; replace HB := tBs HB hb; (try clear hb); (try clear hb2); (try clear hk); (try clear hi); (try clear ho0)) | ((with_reducible refine gate_callee (f := 13) rfl ?_); refine goesL_ (some 30) rfl rfl Tryd.func13 (by kernel_rfl) rfl #[.slice Ao8 t600.length co8, .int .i64 t603] rfl tq ?_; (with_reducible refine (spec_LogCut.calls k _ _ t600 t603 t608 t609 _ ?side1 ?side2 A5.out).mono ?_); (case side1 => repeat (first | exact (Kd.N_reads' HO602.out).2.2 | (with_reducible refine Kd.C_alloc ?_ _) | (with_reducible refine Kd.C_drewN ?_ _) | (with_reducible refine Kd.C_drew ?_))); (case side2 => exact (Kd.N_reads' HO602.out).2.1); rintro e w10 ⟨v610, rfl, ho0, hb⟩; have u_v610 := tsv Tryd.prog v610 ho0; refine ⟨_, rfl, ?_⟩; have HO611 := Aside0.mk (Kd.N_lower (Kd.N_mono (ok' := fun k_ => some k_ ≠ (.slice Ao8 t600.length co8 : Value).ownBlock ∧ some k_ ≠ (v606 : Value).ownBlock) (Kd.R_N (Kd.R_bound ho0)) (fun k_ hk_ => ⟨(tfr HO602 k_ hk_.2.1), (tfr HO607 k_ hk_.2.1)⟩)) (below_size zb)); replace HO602 := tNe HO602 ho0 hb; replace HO607 := tNe HO607 ho0 hb; replace HB := tBs HB hb; (try clear hb); (try clear hb2); (try clear hk); (try clear hi); (try clear ho0)))
  (try simp only [Act.put, List.setIfInBounds_toArray, List.set_cons_zero, List.set_cons_succ])
  go_cut [45] (fun v45 wc => ∃ (kq : Nat) (x45_5 : Bool), v45 = .bool x45_5 ∧ Aside0 (laws_FnLogCutTwice.j0 kq t600 t603 t604 t605 t608 t609 x45_5 = some r) ∧ Aside0 (kq ≤ k) ∧ Aside0 (Kd.N k47 47 wc w.heap.size (fun k_ => some k_ ≠ (v606 : Value).ownBlock ∧ some k_ ≠ (v610 : Value).ownBlock) (.slice Ao8 t600.length co8) t600) ∧ Aside0 (Kd.N k47 47 wc w.heap.size (fun k_ => some k_ ≠ ((.slice Ao8 t600.length co8) : Value).ownBlock ∧ some k_ ≠ (v610 : Value).ownBlock) v606 t604) ∧ Aside0 (Kd.N k47 47 wc w.heap.size (fun k_ => some k_ ≠ ((.slice Ao8 t600.length co8) : Value).ownBlock ∧ some k_ ≠ (v606 : Value).ownBlock) v610 t608) ∧ Aside0 (Below w.heap.size w wc))
  case first =>
   have H := HC6.out
   clear HC6
   by_cases c11 : (t605 != t609) = true
   ·rw [if_pos c11] at H
    have c11b0 : (t605 != t609) = true := c11
    (try (have c11b1 : decide (t605 = t609) = false := by simpa using c11))
    (try (have c11b2 : (t605 == t609) = false := by simpa using c11))
    (try (have c11b3 : ¬ (t605 = t609) := by simpa using c11))
    clear c11
    (first | rw [c11b0] | (simp only [i64_w, i32_w]; rw [c11b0]) | skip)
    have H' := Aside0.mk H
    clear H
    go_wp2
    go_meet
    case rel => exact ⟨_, (true), tr, H', ⟨by first | omega | exact Nat.le_refl _⟩, ⟨tNm HO602.out⟩, ⟨tN HO607.out⟩, ⟨tN HO611.out⟩, ⟨zb⟩⟩
   ·rw [if_neg c11] at H
    have c11b0 : (t605 != t609) = false := by simpa using c11
    (try (have c11b1 : decide (t605 = t609) = true := by simpa using c11))
    (try (have c11b2 : (t605 == t609) = true := by simpa using c11))
    clear c11
    (first | rw [c11b0] | (simp only [i64_w, i32_w]; rw [c11b0]) | skip)
    replace H := tbe H
    obtain ⟨t612, A12, H⟩ := H
    by_cases c13 : t612 = true
    ·subst c13
     rw [if_pos rfl] at H
     have H' := Aside0.mk H
     clear H
     obtain ⟨Ao14, co14, eo14⟩ := Kd.N_slice HO607.out
     subst eo14
     obtain ⟨Ao15, co15, eo15⟩ := Kd.N_slice HO611.out
     subst eo15
     go_wp2_with (first | (go_at_call 14; (with_reducible refine (laws_sameLog.calls k _ _ t604 _ _ t608 true _ ?side1 ?side2 ?side3 ?side4 A12.out).mono ?_); (case side1 => repeat (first | exact (Kd.N_reads' HO607.out).2.2 | (with_reducible refine Kd.C_alloc ?_ _) | (with_reducible refine Kd.C_drewN ?_ _) | (with_reducible refine Kd.C_drew ?_))); (case side2 => exact (Kd.N_reads' HO607.out).2.1); (case side3 => repeat (first | exact (Kd.N_reads' HO611.out).2.2 | (with_reducible refine Kd.C_alloc ?_ _) | (with_reducible refine Kd.C_drewN ?_ _) | (with_reducible refine Kd.C_drew ?_))); (case side4 => exact (Kd.N_reads' HO611.out).2.1); rintro e w16 ⟨rfl, hb⟩; replace HO602 := tNb HO602 hb; replace HO607 := tNb HO607 hb; replace HO611 := tNb HO611 hb; replace HB := tBs HB hb; (try clear hb); (try clear hb2); (try clear hk); (try clear hi)))
     go_meet
     case rel => exact ⟨_, (!t605), tr, H', ⟨by first | omega | exact Nat.le_refl _⟩, ⟨tNm HO602.out⟩, ⟨tN HO607.out⟩, ⟨tN HO611.out⟩, ⟨zb⟩⟩
    ·replace c13 := Bool.eq_false_iff.mpr c13
     subst c13
     rw [if_neg (show ¬ (false = true) by decide)] at H
     have H' := Aside0.mk H
     clear H
     obtain ⟨Ao17, co17, eo17⟩ := Kd.N_slice HO607.out
     subst eo17
     obtain ⟨Ao18, co18, eo18⟩ := Kd.N_slice HO611.out
     subst eo18
     go_wp2_with (first | (go_at_call 14; (with_reducible refine (laws_sameLog.calls k _ _ t604 _ _ t608 false _ ?side1 ?side2 ?side3 ?side4 A12.out).mono ?_); (case side1 => repeat (first | exact (Kd.N_reads' HO607.out).2.2 | (with_reducible refine Kd.C_alloc ?_ _) | (with_reducible refine Kd.C_drewN ?_ _) | (with_reducible refine Kd.C_drew ?_))); (case side2 => exact (Kd.N_reads' HO607.out).2.1); (case side3 => repeat (first | exact (Kd.N_reads' HO611.out).2.2 | (with_reducible refine Kd.C_alloc ?_ _) | (with_reducible refine Kd.C_drewN ?_ _) | (with_reducible refine Kd.C_drew ?_))); (case side4 => exact (Kd.N_reads' HO611.out).2.1); rintro e w19 ⟨rfl, hb⟩; replace HO602 := tNb HO602 hb; replace HO607 := tNb HO607 hb; replace HO611 := tNb HO611 hb; replace HB := tBs HB hb; (try clear hb); (try clear hb2); (try clear hk); (try clear hi)))
     go_meet
     case rel => exact ⟨_, (true), tr, H', ⟨by first | omega | exact Nat.le_refl _⟩, ⟨tNm HO602.out⟩, ⟨tN HO607.out⟩, ⟨tN HO611.out⟩, ⟨zb⟩⟩
  case rest =>
   clear HC6
   try clear c2; try clear c2b0; try clear c2b1
   obtain ⟨kq, x45_5, rfl, HA, HJ5, HO_3, HO_5, HO_7, HB⟩ := hcut
   cases kq with
   | zero => exact absurd HA.out (by simp [laws_FnLogCutTwice.j0])
   | succ kj5 =>
    have H := HA.out
    clear HA
    simp only [laws_FnLogCutTwice.j0] at H
    by_cases c20 : x45_5 = true
    ·subst c20
     rw [if_pos rfl] at H
     by_cases c21 : (t605 == t609) = true
     ·rw [if_pos c21] at H
      have c21b0 : (t605 == t609) = true := c21
      (try (have c21b1 : decide (t605 = t609) = true := by simpa using c21))
      (try (have c21b2 : (t605 == t609) = true := by simpa using c21))
      clear c21
      replace H := tbe H
      obtain ⟨t613, A22, H⟩ := H
      obtain rfl := Option.some.inj H
      obtain ⟨Ao23, co23, eo23⟩ := Kd.N_slice HO_5.out
      subst eo23
      obtain ⟨Ao24, co24, eo24⟩ := Kd.N_slice HO_7.out
      subst eo24
      go_wp2_with (first | (go_at_call 14; (with_reducible refine (laws_sameLog.calls kj5 _ _ t604 _ _ t608 t613 _ ?side1 ?side2 ?side3 ?side4 A22.out).mono ?_); (case side1 => repeat (first | exact (Kd.N_reads' HO_5.out).2.2 | (with_reducible refine Kd.C_alloc ?_ _) | (with_reducible refine Kd.C_drewN ?_ _) | (with_reducible refine Kd.C_drew ?_))); (case side2 => exact (Kd.N_reads' HO_5.out).2.1); (case side3 => repeat (first | exact (Kd.N_reads' HO_7.out).2.2 | (with_reducible refine Kd.C_alloc ?_ _) | (with_reducible refine Kd.C_drewN ?_ _) | (with_reducible refine Kd.C_drew ?_))); (case side4 => exact (Kd.N_reads' HO_7.out).2.1); rintro e w25 ⟨rfl, hb⟩; replace HO_3 := tNb HO_3 hb; replace HO_5 := tNb HO_5 hb; replace HO_7 := tNb HO_7 hb; replace HB := tBs HB hb; (try clear hb); (try clear hb2); (try clear hk); (try clear hi)))
      all_goals go_ret
      all_goals exact ⟨by first | rfl | (simp [errW_none, errW_some] <;> rfl) | (simp [*, errW_none, errW_some] <;> rfl), zb⟩
     ·rw [if_neg c21] at H
      have c21b0 : (t605 == t609) = false := by simpa using c21
      (try (have c21b1 : decide (t605 = t609) = false := by simpa using c21))
      (try (have c21b2 : (t605 == t609) = false := by simpa using c21))
      (try (have c21b3 : ¬ (t605 = t609) := by simpa using c21))
      clear c21
      obtain rfl := Option.some.inj H
      go_wp2
      all_goals go_ret
      all_goals exact ⟨by first | rfl | (simp [errW_none, errW_some] <;> rfl) | (simp [*, errW_none, errW_some] <;> rfl), zb⟩
    ·replace c20 := Bool.eq_false_iff.mpr c20
     subst c20
     rw [if_neg (show ¬ (false = true) by decide)] at H
     replace H := tbe H
     obtain ⟨⟨t614, t615⟩, A26, H⟩ := H
     dsimp only at H
     replace H := tbe H
     obtain ⟨t618, A27, H⟩ := H
     replace H := tbe H
     obtain ⟨⟨t619, t620⟩, A28, H⟩ := H
     dsimp only at H
     by_cases c29 : t615 = true
     ·subst c29
      rw [if_pos rfl] at H
      by_cases c30 : t620 = true
      ·subst c30
       rw [if_pos rfl] at H
       replace H := tbe H
       obtain ⟨t623, A31, H⟩ := H
       by_cases c32 : t623 = true
       ·subst c32
        rw [if_pos rfl] at H
        replace H := tbe H
        obtain ⟨t624, A33, H⟩ := H
        obtain rfl := Option.some.inj H
        obtain ⟨Ao34, co34, eo34⟩ := Kd.N_slice HO_5.out
        subst eo34
        go_wp2_with (first | ((with_reducible refine gate_callee (f := 12) rfl ?_); refine goesL_ (some 57) rfl rfl Tryd.func12 (by kernel_rfl) rfl #[.slice Ao34 t604.length co34, .int .i64 t603] rfl tq ?_; (with_reducible refine (impl_LogCut.calls (hE := ?sideE) kj5 _ _ t604 t603 t614 true _ ?side1 ?side2 A26.out).mono ?_); (case sideE => exact ErrOk.below (HE.out.sub (by decide)) zb); (case side1 => repeat (first | exact (Kd.N_reads' HO_5.out).2.2 | (with_reducible refine Kd.C_alloc ?_ _) | (with_reducible refine Kd.C_drewN ?_ _) | (with_reducible refine Kd.C_drew ?_))); (case side2 => exact (Kd.N_reads' HO_5.out).2.1); rintro e w35 ⟨v616, rfl, ho0, hb⟩; have u_v616 := tsv Tryd.prog v616 ho0; refine ⟨_, rfl, ?_⟩; have HO617 := Aside0.mk (Kd.N_lower (Kd.N_mono (ok' := fun k_ => some k_ ≠ (.slice Ao8 t600.length co8 : Value).ownBlock ∧ some k_ ≠ (.slice Ao34 t604.length co34 : Value).ownBlock ∧ some k_ ≠ (v610 : Value).ownBlock) (Kd.R_N (Kd.R_bound ho0)) (fun k_ hk_ => ⟨(tfr HO_3 k_ hk_.2.1), (tfr HO_5 k_ hk_.2.1), (tfr HO_7 k_ hk_.2.1)⟩)) (below_size zb)); replace HO_3 := tNe HO_3 ho0 hb; replace HO_5 := tNe HO_5 ho0 hb; replace HO_7 := tNe HO_7 ho0 hb; replace HB := tBs HB hb; (try clear hb); (try clear hb2); (try clear hk); (try clear hi); (try clear ho0)) | ((with_reducible refine gate_callee (f := 18) rfl ?_); refine goesL_ (some 63) rfl rfl Tryd.func18 (by kernel_rfl) rfl #[.slice Ao8 t600.length co8] rfl tq ?_; (with_reducible refine (impl_ReadEnd.calls kj5 _ _ t600 t618 _ ?side1 ?side2 A27.out).mono ?_); (case side1 => repeat (first | exact (Kd.N_reads' HO_3.out).2.2 | (with_reducible refine Kd.C_alloc ?_ _) | (with_reducible refine Kd.C_drewN ?_ _) | (with_reducible refine Kd.C_drew ?_))); (case side2 => exact (Kd.N_reads' HO_3.out).2.1); rintro e w36 ⟨rfl, hb⟩; refine ⟨_, rfl, ?_⟩; replace HO_3 := tNb HO_3 hb; replace HO_5 := tNb HO_5 hb; replace HO_7 := tNb HO_7 hb; replace HO617 := tNb HO617 hb; replace HB := tBs HB hb; (try clear hb); (try clear hb2); (try clear hk); (try clear hi)) | ((with_reducible refine gate_callee (f := 12) rfl ?_); refine goesL_ (some 64) rfl rfl Tryd.func12 (by kernel_rfl) rfl #[.slice Ao8 t600.length co8, .int .i64 t618] rfl tq ?_; (with_reducible refine (impl_LogCut.calls (hE := ?sideE) kj5 _ _ t600 t618 t619 true _ ?side1 ?side2 A28.out).mono ?_); (case sideE => exact ErrOk.below (HE.out.sub (by decide)) zb); (case side1 => repeat (first | exact (Kd.N_reads' HO_3.out).2.2 | (with_reducible refine Kd.C_alloc ?_ _) | (with_reducible refine Kd.C_drewN ?_ _) | (with_reducible refine Kd.C_drew ?_))); (case side2 => exact (Kd.N_reads' HO_3.out).2.1); rintro e w37 ⟨v621, rfl, ho0, hb⟩; have u_v621 := tsv Tryd.prog v621 ho0; refine ⟨_, rfl, ?_⟩; have HO622 := Aside0.mk (Kd.N_lower (Kd.N_mono (ok' := fun k_ => some k_ ≠ (.slice Ao8 t600.length co8 : Value).ownBlock ∧ some k_ ≠ (.slice Ao34 t604.length co34 : Value).ownBlock ∧ some k_ ≠ (v610 : Value).ownBlock ∧ some k_ ≠ (v616 : Value).ownBlock) (Kd.R_N (Kd.R_bound ho0)) (fun k_ hk_ => ⟨(tfr HO_3 k_ hk_.2.1), (tfr HO_5 k_ hk_.2.1), (tfr HO_7 k_ hk_.2.1), (tfr HO617 k_ hk_.2.1)⟩)) (below_size zb)); replace HO_3 := tNe HO_3 ho0 hb; replace HO_5 := tNe HO_5 ho0 hb; replace HO_7 := tNe HO_7 ho0 hb; replace HO617 := tNe HO617 ho0 hb; replace HB := tBs HB hb; (try clear hb); (try clear hb2); (try clear hk); (try clear hi); (try clear ho0); obtain ⟨Ao38, co38, eo38⟩ := Kd.N_slice HO617.out; subst eo38) | (go_at_call 14; (with_reducible refine (laws_sameLog.calls kj5 _ _ t614 _ _ t604 true _ ?side1 ?side2 ?side3 ?side4 A31.out).mono ?_); (case side1 => repeat (first | exact (Kd.N_reads' HO617.out).2.2 | (with_reducible refine Kd.C_alloc ?_ _) | (with_reducible refine Kd.C_drewN ?_ _) | (with_reducible refine Kd.C_drew ?_))); (case side2 => exact (Kd.N_reads' HO617.out).2.1); (case side3 => repeat (first | exact (Kd.N_reads' HO_5.out).2.2 | (with_reducible refine Kd.C_alloc ?_ _) | (with_reducible refine Kd.C_drewN ?_ _) | (with_reducible refine Kd.C_drew ?_))); (case side4 => exact (Kd.N_reads' HO_5.out).2.1); rintro e w39 ⟨rfl, hb⟩; replace HO_3 := tNb HO_3 hb; replace HO_5 := tNb HO_5 hb; replace HO_7 := tNb HO_7 hb; replace HO617 := tNb HO617 hb; replace HO622 := tNb HO622 hb; replace HB := tBs HB hb; (try clear hb); (try clear hb2); (try clear hk); (try clear hi); obtain ⟨Ao40, co40, eo40⟩ := Kd.N_slice HO622.out; subst eo40) | (go_at_call 14; (with_reducible refine (laws_sameLog.calls kj5 _ _ t619 _ _ t600 t624 _ ?side1 ?side2 ?side3 ?side4 A33.out).mono ?_); (case side1 => repeat (first | exact (Kd.N_reads' HO622.out).2.2 | (with_reducible refine Kd.C_alloc ?_ _) | (with_reducible refine Kd.C_drewN ?_ _) | (with_reducible refine Kd.C_drew ?_))); (case side2 => exact (Kd.N_reads' HO622.out).2.1); (case side3 => repeat (first | exact (Kd.N_reads' HO_3.out).2.2 | (with_reducible refine Kd.C_alloc ?_ _) | (with_reducible refine Kd.C_drewN ?_ _) | (with_reducible refine Kd.C_drew ?_))); (case side4 => exact (Kd.N_reads' HO_3.out).2.1); rintro e w41 ⟨rfl, hb⟩; replace HO_3 := tNb HO_3 hb; replace HO_5 := tNb HO_5 hb; replace HO_7 := tNb HO_7 hb; replace HO617 := tNb HO617 hb; replace HO622 := tNb HO622 hb; replace HB := tBs HB hb; (try clear hb); (try clear hb2); (try clear hk); (try clear hi)))
        all_goals go_ret
        all_goals exact ⟨by first | rfl | (simp [errW_none, errW_some] <;> rfl) | (simp [*, errW_none, errW_some] <;> rfl), zb⟩
       ·replace c32 := Bool.eq_false_iff.mpr c32
        subst c32
        rw [if_neg (show ¬ (false = true) by decide)] at H
        obtain rfl := Option.some.inj H
        obtain ⟨Ao42, co42, eo42⟩ := Kd.N_slice HO_5.out
        subst eo42
        go_wp2_with (first | ((with_reducible refine gate_callee (f := 12) rfl ?_); refine goesL_ (some 57) rfl rfl Tryd.func12 (by kernel_rfl) rfl #[.slice Ao42 t604.length co42, .int .i64 t603] rfl tq ?_; (with_reducible refine (impl_LogCut.calls (hE := ?sideE) kj5 _ _ t604 t603 t614 true _ ?side1 ?side2 A26.out).mono ?_); (case sideE => exact ErrOk.below (HE.out.sub (by decide)) zb); (case side1 => repeat (first | exact (Kd.N_reads' HO_5.out).2.2 | (with_reducible refine Kd.C_alloc ?_ _) | (with_reducible refine Kd.C_drewN ?_ _) | (with_reducible refine Kd.C_drew ?_))); (case side2 => exact (Kd.N_reads' HO_5.out).2.1); rintro e w43 ⟨v616, rfl, ho0, hb⟩; have u_v616 := tsv Tryd.prog v616 ho0; refine ⟨_, rfl, ?_⟩; have HO617 := Aside0.mk (Kd.N_lower (Kd.N_mono (ok' := fun k_ => some k_ ≠ (.slice Ao8 t600.length co8 : Value).ownBlock ∧ some k_ ≠ (.slice Ao42 t604.length co42 : Value).ownBlock ∧ some k_ ≠ (v610 : Value).ownBlock) (Kd.R_N (Kd.R_bound ho0)) (fun k_ hk_ => ⟨(tfr HO_3 k_ hk_.2.1), (tfr HO_5 k_ hk_.2.1), (tfr HO_7 k_ hk_.2.1)⟩)) (below_size zb)); replace HO_3 := tNe HO_3 ho0 hb; replace HO_5 := tNe HO_5 ho0 hb; replace HO_7 := tNe HO_7 ho0 hb; replace HB := tBs HB hb; (try clear hb); (try clear hb2); (try clear hk); (try clear hi); (try clear ho0)) | ((with_reducible refine gate_callee (f := 18) rfl ?_); refine goesL_ (some 63) rfl rfl Tryd.func18 (by kernel_rfl) rfl #[.slice Ao8 t600.length co8] rfl tq ?_; (with_reducible refine (impl_ReadEnd.calls kj5 _ _ t600 t618 _ ?side1 ?side2 A27.out).mono ?_); (case side1 => repeat (first | exact (Kd.N_reads' HO_3.out).2.2 | (with_reducible refine Kd.C_alloc ?_ _) | (with_reducible refine Kd.C_drewN ?_ _) | (with_reducible refine Kd.C_drew ?_))); (case side2 => exact (Kd.N_reads' HO_3.out).2.1); rintro e w44 ⟨rfl, hb⟩; refine ⟨_, rfl, ?_⟩; replace HO_3 := tNb HO_3 hb; replace HO_5 := tNb HO_5 hb; replace HO_7 := tNb HO_7 hb; replace HO617 := tNb HO617 hb; replace HB := tBs HB hb; (try clear hb); (try clear hb2); (try clear hk); (try clear hi)) | ((with_reducible refine gate_callee (f := 12) rfl ?_); refine goesL_ (some 64) rfl rfl Tryd.func12 (by kernel_rfl) rfl #[.slice Ao8 t600.length co8, .int .i64 t618] rfl tq ?_; (with_reducible refine (impl_LogCut.calls (hE := ?sideE) kj5 _ _ t600 t618 t619 true _ ?side1 ?side2 A28.out).mono ?_); (case sideE => exact ErrOk.below (HE.out.sub (by decide)) zb); (case side1 => repeat (first | exact (Kd.N_reads' HO_3.out).2.2 | (with_reducible refine Kd.C_alloc ?_ _) | (with_reducible refine Kd.C_drewN ?_ _) | (with_reducible refine Kd.C_drew ?_))); (case side2 => exact (Kd.N_reads' HO_3.out).2.1); rintro e w45 ⟨v621, rfl, ho0, hb⟩; have u_v621 := tsv Tryd.prog v621 ho0; refine ⟨_, rfl, ?_⟩; have HO622 := Aside0.mk (Kd.N_lower (Kd.N_mono (ok' := fun k_ => some k_ ≠ (.slice Ao8 t600.length co8 : Value).ownBlock ∧ some k_ ≠ (.slice Ao42 t604.length co42 : Value).ownBlock ∧ some k_ ≠ (v610 : Value).ownBlock ∧ some k_ ≠ (v616 : Value).ownBlock) (Kd.R_N (Kd.R_bound ho0)) (fun k_ hk_ => ⟨(tfr HO_3 k_ hk_.2.1), (tfr HO_5 k_ hk_.2.1), (tfr HO_7 k_ hk_.2.1), (tfr HO617 k_ hk_.2.1)⟩)) (below_size zb)); replace HO_3 := tNe HO_3 ho0 hb; replace HO_5 := tNe HO_5 ho0 hb; replace HO_7 := tNe HO_7 ho0 hb; replace HO617 := tNe HO617 ho0 hb; replace HB := tBs HB hb; (try clear hb); (try clear hb2); (try clear hk); (try clear hi); (try clear ho0); obtain ⟨Ao46, co46, eo46⟩ := Kd.N_slice HO617.out; subst eo46) | (go_at_call 14; (with_reducible refine (laws_sameLog.calls kj5 _ _ t614 _ _ t604 false _ ?side1 ?side2 ?side3 ?side4 A31.out).mono ?_); (case side1 => repeat (first | exact (Kd.N_reads' HO617.out).2.2 | (with_reducible refine Kd.C_alloc ?_ _) | (with_reducible refine Kd.C_drewN ?_ _) | (with_reducible refine Kd.C_drew ?_))); (case side2 => exact (Kd.N_reads' HO617.out).2.1); (case side3 => repeat (first | exact (Kd.N_reads' HO_5.out).2.2 | (with_reducible refine Kd.C_alloc ?_ _) | (with_reducible refine Kd.C_drewN ?_ _) | (with_reducible refine Kd.C_drew ?_))); (case side4 => exact (Kd.N_reads' HO_5.out).2.1); rintro e w47 ⟨rfl, hb⟩; replace HO_3 := tNb HO_3 hb; replace HO_5 := tNb HO_5 hb; replace HO_7 := tNb HO_7 hb; replace HO617 := tNb HO617 hb; replace HO622 := tNb HO622 hb; replace HB := tBs HB hb; (try clear hb); (try clear hb2); (try clear hk); (try clear hi)))
        all_goals go_ret
        all_goals exact ⟨by first | rfl | (simp [errW_none, errW_some] <;> rfl) | (simp [*, errW_none, errW_some] <;> rfl), zb⟩
      ·replace c30 := Bool.eq_false_iff.mpr c30
       subst c30
       rw [if_neg (show ¬ (false = true) by decide)] at H
       obtain rfl := Option.some.inj H
       obtain ⟨Ao48, co48, eo48⟩ := Kd.N_slice HO_5.out
       subst eo48
       go_wp2_with (first | ((with_reducible refine gate_callee (f := 12) rfl ?_); refine goesL_ (some 57) rfl rfl Tryd.func12 (by kernel_rfl) rfl #[.slice Ao48 t604.length co48, .int .i64 t603] rfl tq ?_; (with_reducible refine (impl_LogCut.calls (hE := ?sideE) kj5 _ _ t604 t603 t614 true _ ?side1 ?side2 A26.out).mono ?_); (case sideE => exact ErrOk.below (HE.out.sub (by decide)) zb); (case side1 => repeat (first | exact (Kd.N_reads' HO_5.out).2.2 | (with_reducible refine Kd.C_alloc ?_ _) | (with_reducible refine Kd.C_drewN ?_ _) | (with_reducible refine Kd.C_drew ?_))); (case side2 => exact (Kd.N_reads' HO_5.out).2.1); rintro e w49 ⟨v616, rfl, ho0, hb⟩; have u_v616 := tsv Tryd.prog v616 ho0; refine ⟨_, rfl, ?_⟩; have HO617 := Aside0.mk (Kd.N_lower (Kd.N_mono (ok' := fun k_ => some k_ ≠ (.slice Ao8 t600.length co8 : Value).ownBlock ∧ some k_ ≠ (.slice Ao48 t604.length co48 : Value).ownBlock ∧ some k_ ≠ (v610 : Value).ownBlock) (Kd.R_N (Kd.R_bound ho0)) (fun k_ hk_ => ⟨(tfr HO_3 k_ hk_.2.1), (tfr HO_5 k_ hk_.2.1), (tfr HO_7 k_ hk_.2.1)⟩)) (below_size zb)); replace HO_3 := tNe HO_3 ho0 hb; replace HO_5 := tNe HO_5 ho0 hb; replace HO_7 := tNe HO_7 ho0 hb; replace HB := tBs HB hb; (try clear hb); (try clear hb2); (try clear hk); (try clear hi); (try clear ho0)) | ((with_reducible refine gate_callee (f := 18) rfl ?_); refine goesL_ (some 63) rfl rfl Tryd.func18 (by kernel_rfl) rfl #[.slice Ao8 t600.length co8] rfl tq ?_; (with_reducible refine (impl_ReadEnd.calls kj5 _ _ t600 t618 _ ?side1 ?side2 A27.out).mono ?_); (case side1 => repeat (first | exact (Kd.N_reads' HO_3.out).2.2 | (with_reducible refine Kd.C_alloc ?_ _) | (with_reducible refine Kd.C_drewN ?_ _) | (with_reducible refine Kd.C_drew ?_))); (case side2 => exact (Kd.N_reads' HO_3.out).2.1); rintro e w50 ⟨rfl, hb⟩; refine ⟨_, rfl, ?_⟩; replace HO_3 := tNb HO_3 hb; replace HO_5 := tNb HO_5 hb; replace HO_7 := tNb HO_7 hb; replace HO617 := tNb HO617 hb; replace HB := tBs HB hb; (try clear hb); (try clear hb2); (try clear hk); (try clear hi)) | ((with_reducible refine gate_callee (f := 12) rfl ?_); refine goesL_ (some 64) rfl rfl Tryd.func12 (by kernel_rfl) rfl #[.slice Ao8 t600.length co8, .int .i64 t618] rfl tq ?_; (with_reducible refine (impl_LogCut.calls (hE := ?sideE) kj5 _ _ t600 t618 t619 false _ ?side1 ?side2 A28.out).mono ?_); (case sideE => exact ErrOk.below (HE.out.sub (by decide)) zb); (case side1 => repeat (first | exact (Kd.N_reads' HO_3.out).2.2 | (with_reducible refine Kd.C_alloc ?_ _) | (with_reducible refine Kd.C_drewN ?_ _) | (with_reducible refine Kd.C_drew ?_))); (case side2 => exact (Kd.N_reads' HO_3.out).2.1); rintro e w51 ⟨v621, rfl, ho0, hb⟩; have u_v621 := tsv Tryd.prog v621 ho0; refine ⟨_, rfl, ?_⟩; have HO622 := Aside0.mk (Kd.N_lower (Kd.N_mono (ok' := fun k_ => some k_ ≠ (.slice Ao8 t600.length co8 : Value).ownBlock ∧ some k_ ≠ (.slice Ao48 t604.length co48 : Value).ownBlock ∧ some k_ ≠ (v610 : Value).ownBlock ∧ some k_ ≠ (v616 : Value).ownBlock) (Kd.R_N (Kd.R_bound ho0)) (fun k_ hk_ => ⟨(tfr HO_3 k_ hk_.2.1), (tfr HO_5 k_ hk_.2.1), (tfr HO_7 k_ hk_.2.1), (tfr HO617 k_ hk_.2.1)⟩)) (below_size zb)); replace HO_3 := tNe HO_3 ho0 hb; replace HO_5 := tNe HO_5 ho0 hb; replace HO_7 := tNe HO_7 ho0 hb; replace HO617 := tNe HO617 ho0 hb; replace HB := tBs HB hb; (try clear hb); (try clear hb2); (try clear hk); (try clear hi); (try clear ho0)))
       all_goals go_ret
       all_goals exact ⟨by first | rfl | (simp [errW_none, errW_some] <;> rfl) | (simp [*, errW_none, errW_some] <;> rfl), zb⟩
     ·replace c29 := Bool.eq_false_iff.mpr c29
      subst c29
      rw [if_neg (show ¬ (false = true) by decide)] at H
      obtain rfl := Option.some.inj H
      obtain ⟨Ao52, co52, eo52⟩ := Kd.N_slice HO_5.out
      subst eo52
      go_wp2_with (first | ((with_reducible refine gate_callee (f := 12) rfl ?_); refine goesL_ (some 57) rfl rfl Tryd.func12 (by kernel_rfl) rfl #[.slice Ao52 t604.length co52, .int .i64 t603] rfl tq ?_; (with_reducible refine (impl_LogCut.calls (hE := ?sideE) kj5 _ _ t604 t603 t614 false _ ?side1 ?side2 A26.out).mono ?_); (case sideE => exact ErrOk.below (HE.out.sub (by decide)) zb); (case side1 => repeat (first | exact (Kd.N_reads' HO_5.out).2.2 | (with_reducible refine Kd.C_alloc ?_ _) | (with_reducible refine Kd.C_drewN ?_ _) | (with_reducible refine Kd.C_drew ?_))); (case side2 => exact (Kd.N_reads' HO_5.out).2.1); rintro e w53 ⟨v616, rfl, ho0, hb⟩; have u_v616 := tsv Tryd.prog v616 ho0; refine ⟨_, rfl, ?_⟩; have HO617 := Aside0.mk (Kd.N_lower (Kd.N_mono (ok' := fun k_ => some k_ ≠ (.slice Ao8 t600.length co8 : Value).ownBlock ∧ some k_ ≠ (.slice Ao52 t604.length co52 : Value).ownBlock ∧ some k_ ≠ (v610 : Value).ownBlock) (Kd.R_N (Kd.R_bound ho0)) (fun k_ hk_ => ⟨(tfr HO_3 k_ hk_.2.1), (tfr HO_5 k_ hk_.2.1), (tfr HO_7 k_ hk_.2.1)⟩)) (below_size zb)); replace HO_3 := tNe HO_3 ho0 hb; replace HO_5 := tNe HO_5 ho0 hb; replace HO_7 := tNe HO_7 ho0 hb; replace HB := tBs HB hb; (try clear hb); (try clear hb2); (try clear hk); (try clear hi); (try clear ho0)) | ((with_reducible refine gate_callee (f := 18) rfl ?_); refine goesL_ (some 63) rfl rfl Tryd.func18 (by kernel_rfl) rfl #[.slice Ao8 t600.length co8] rfl tq ?_; (with_reducible refine (impl_ReadEnd.calls kj5 _ _ t600 t618 _ ?side1 ?side2 A27.out).mono ?_); (case side1 => repeat (first | exact (Kd.N_reads' HO_3.out).2.2 | (with_reducible refine Kd.C_alloc ?_ _) | (with_reducible refine Kd.C_drewN ?_ _) | (with_reducible refine Kd.C_drew ?_))); (case side2 => exact (Kd.N_reads' HO_3.out).2.1); rintro e w54 ⟨rfl, hb⟩; refine ⟨_, rfl, ?_⟩; replace HO_3 := tNb HO_3 hb; replace HO_5 := tNb HO_5 hb; replace HO_7 := tNb HO_7 hb; replace HO617 := tNb HO617 hb; replace HB := tBs HB hb; (try clear hb); (try clear hb2); (try clear hk); (try clear hi)) | ((with_reducible refine gate_callee (f := 12) rfl ?_); refine goesL_ (some 64) rfl rfl Tryd.func12 (by kernel_rfl) rfl #[.slice Ao8 t600.length co8, .int .i64 t618] rfl tq ?_; (with_reducible refine (impl_LogCut.calls (hE := ?sideE) kj5 _ _ t600 t618 t619 t620 _ ?side1 ?side2 A28.out).mono ?_); (case sideE => exact ErrOk.below (HE.out.sub (by decide)) zb); (case side1 => repeat (first | exact (Kd.N_reads' HO_3.out).2.2 | (with_reducible refine Kd.C_alloc ?_ _) | (with_reducible refine Kd.C_drewN ?_ _) | (with_reducible refine Kd.C_drew ?_))); (case side2 => exact (Kd.N_reads' HO_3.out).2.1); rintro e w55 ⟨v621, rfl, ho0, hb⟩; have u_v621 := tsv Tryd.prog v621 ho0; refine ⟨_, rfl, ?_⟩; have HO622 := Aside0.mk (Kd.N_lower (Kd.N_mono (ok' := fun k_ => some k_ ≠ (.slice Ao8 t600.length co8 : Value).ownBlock ∧ some k_ ≠ (.slice Ao52 t604.length co52 : Value).ownBlock ∧ some k_ ≠ (v610 : Value).ownBlock ∧ some k_ ≠ (v616 : Value).ownBlock) (Kd.R_N (Kd.R_bound ho0)) (fun k_ hk_ => ⟨(tfr HO_3 k_ hk_.2.1), (tfr HO_5 k_ hk_.2.1), (tfr HO_7 k_ hk_.2.1), (tfr HO617 k_ hk_.2.1)⟩)) (below_size zb)); replace HO_3 := tNe HO_3 ho0 hb; replace HO_5 := tNe HO_5 ho0 hb; replace HO_7 := tNe HO_7 ho0 hb; replace HO617 := tNe HO617 ho0 hb; replace HB := tBs HB hb; (try clear hb); (try clear hb2); (try clear hk); (try clear hi); (try clear ho0)))
      all_goals go_ret
      all_goals exact ⟨by first | rfl | (simp [errW_none, errW_some] <;> rfl) | (simp [*, errW_none, errW_some] <;> rfl), zb⟩

end Go.Proofs.YtbbboachakkgiaaDoor.G

namespace Go.Proofs.YtbbboachakkgiaaDoor.Rd
open Go.RowKit Go.Proofs.YtbbboachakkgiaaDoorW.PrintWords
set_option linter.unusedVariables false
section
variable {H : Type} {enc : TypeId × Value → H} {P : Program} {w : World} {base : Nat} {spare : Nat → Bool} {held : Bool}
/-- What a reading of type t gives: a value of the kind, and what is known of it. -/
def Opens (enc : TypeId × Value → H) (P : Program) (w : World) (base : Nat) (spare : Nat → Bool) (held : Bool) {α : Type} (t : TypeId) (d : Kd α) (ok : α → Prop) : Prop :=
  P.cellsOf t = d.sz ∧ ∀ fuel cs x, DataW.trod enc P w base spare held fuel t cs = some x → ∃ v, d.K w v cs ∧ ok v
theorem Opens.imp_ {α : Type} {t : TypeId} {d : Kd α} {ok ok' : α → Prop} (h : Opens enc P w base spare held t d ok) (hi : ∀ v, ok v → ok' v) : Opens enc P w base spare held t d ok' :=
  ⟨h.1, fun fuel cs x hx => by
    obtain ⟨v, hk, ho⟩ := h.2 fuel cs x hx
    exact ⟨v, hk, hi v ho⟩⟩
theorem opens_int {t : TypeId} {k : IntKind} (ht : P.underlying t = some (.int k)) (hc : P.cellsOf t = 1) : Opens enc P w base spare held t (Kd.int k) (fun n => (Lit.int k n).wf = true) := by
  refine ⟨hc, fun fuel cs x h => ?_⟩
  obtain ⟨n, rfl, _, hw⟩ := DataW.trod_int ht h
  exact ⟨n, rfl, hw⟩
theorem cells_len {base : Nat} {a : Addr} {n : Nat} {cs : List Value} (h : w.cells? base a n = some cs) : cs.length = n ∧ ∀ i u, cs[i]? = some u → w.cell? (a.add i) = some u := by
  unfold World.cells? at h
  split at h
  · rename_i hb
    refine ⟨by simpa using mapM_some_length h, fun i u hu => ?_⟩
    have hi : i < n := by
      have := (List.getElem?_eq_some_iff.1 hu).1
      have h2 : cs.length = n := by simpa using mapM_some_length h
      omega
    have := mapM_some_get h i i (by simp [hi])
    rw [hu] at this
    exact this
  · simp at h
theorem opens_row {α : Type} {t e : TypeId} {d : Kd α} {ok : α → Prop} (ht : P.underlying t = some (.slice e)) (hd : Opens enc P w base spare held e d ok) {fuel : Nat} {cs : List Value} {x : DataW H × List MemPlace}
    (h : DataW.trod enc P w base spare held fuel t cs = some x) : ∃ (A : Option Addr) (c : Nat) (xs : List α), cs = [.slice A xs.length c] ∧ xs.length ≤ c ∧ c ≤ maxLen ∧ d.C w A xs.length xs ∧ ∀ y ∈ xs, ok y := by
  rcases Go.Deep.open_slice ht h with ⟨rfl, _⟩ | ⟨a, len, cap, m, n, D, Pl, rfl, hb, hl, hm, hmm, _, hel⟩
  · exact ⟨none, 0, [], rfl, Nat.le_refl _, by unfold maxLen; omega, ⟨rfl, by simp, fun h0 => absurd h0 (by simp)⟩, by simp⟩
  have hlm : len ≤ m := by rw [hmm]; split <;> omega
  have hx : ∀ i, i < len → ∃ y : α, ok y ∧ ∃ c, c.length = d.sz ∧ d.K w y c ∧ ∀ j u, c[j]? = some u → w.cell? (a.add (i * d.sz + j)) = some u := by
    intro i hi
    obtain ⟨cs', h1, h2⟩ := hel i (by omega)
    obtain ⟨y, hk, ho⟩ := hd.2 _ _ _ h2
    obtain ⟨hl', hc'⟩ := cells_len h1
    refine ⟨y, ho, cs', by rw [hl', hd.1], hk, fun j u hu => ?_⟩
    have := hc' j u hu
    rw [Go.Deep.add_add, hd.1] at this
    exact this
  rcases Nat.eq_zero_or_pos len with h0 | h0
  · subst h0
    exact ⟨some a, cap, [], rfl, Nat.zero_le _, hm, ⟨rfl, by simp, fun h1 => absurd h1 (by simp)⟩, by simp⟩
  obtain ⟨y0, _⟩ := hx 0 h0
  haveI : Inhabited α := ⟨y0⟩
  obtain ⟨g, hg⟩ := Go.Deep.choose_lt hx
  have hlen : ((List.range len).map g).length = len := by simp
  refine ⟨some a, cap, (List.range len).map g, by rw [hlen], by rw [hlen]; exact hl, hm, ⟨rfl, by rw [hlen]; unfold maxLen at hm; omega, fun _ => ⟨a, rfl, fun j p hj => ?_⟩⟩, fun y hy => ?_⟩
  · have hj' : j < len := by
      have := (List.getElem?_eq_some_iff.1 hj).1
      omega
    rw [List.getElem?_map, List.getElem?_range hj'] at hj
    simp at hj
    subst hj
    obtain ⟨_, c, hc1, hc2, hc3⟩ := hg j hj'
    exact ⟨c, hc1, hc2, hc3⟩
  · obtain ⟨i, hi, rfl⟩ := List.mem_map.1 hy
    exact (hg i (List.mem_range.1 hi)).1
end
end Go.Proofs.YtbbboachakkgiaaDoor.Rd

namespace Go.Proofs.YtbbboachakkgiaaDoor.OFnLogCutTwice
open Go.RowKit Go.Proofs.YtbbboachakkgiaaDoorW.PrintWords Go.Proofs.YtbbboachakkgiaaDoor.G
set_option linter.unusedVariables false
def Pure : Prop := ∀ (l0 : List Int), l0.length ≤ maxLen → (∀ y ∈ l0, (Lit.int .u8 y).wf = true) → ∃ k, laws_FnLogCutTwice.f k l0 = some true
end Go.Proofs.YtbbboachakkgiaaDoor.OFnLogCutTwice

namespace Go.Proofs.YtbbboachakkgiaaDoor.Pu
open Go.RowKit Go.Proofs.YtbbboachakkgiaaDoorW.PrintWords Go.Proofs.YtbbboachakkgiaaDoorW.PrintLast Go.Proofs.YtbbboachakkgiaaDoorW.PrintMore Go.Proofs.YtbbboachakkgiaaDoor.G
set_option linter.unusedVariables false
set_option linter.unusedSimpArgs false
abbrev RT := S33
abbrev BT := S47
def aheadL (l : List RT) (o : Int) : List RT := l.filter fun r => decide (r.f0 < o)
def behindL (l : List RT) (o : Int) : List RT := l.filter fun r => !decide (r.f0 < o)
theorem aheadL_cons (x : RT) (l : List RT) (o : Int) : aheadL (x :: l) o = if x.f0 < o then x :: aheadL l o else aheadL l o := by
  unfold aheadL
  rw [List.filter_cons]
  by_cases h : x.f0 < o <;> simp [h]
theorem behindL_cons (x : RT) (l : List RT) (o : Int) : behindL (x :: l) o = if x.f0 < o then behindL l o else x :: behindL l o := by
  unfold behindL
  rw [List.filter_cons]
  by_cases h : x.f0 < o <;> simp [h]
abbrev CutT := Bool × Bool × Int × Int × Int × List RT × Bool × Bool × Int × Int × Int × List RT × Option Int
def cutFin (p : Bool) (a b : List RT) : CutT := if a = [] ∨ b = [] then (false, false, 0, 0, 0, [], false, false, 0, 0, 0, [], some 2) else (p, false, 255, 0, 0, a, p, false, 255, 0, 0, b, none)
theorem copyOf_ev (x : RT) (h : x.f3.length ≤ 12 ∧ x.f5.length ≤ 12) : impl_Record_copyOf.f x.f0 x.f1 x.f2 x.f3 x.f4 x.f5 = some (x.f0, x.f1, x.f2, x.f3, x.f4, x.f5) := by
  simp only [impl_Record_copyOf.f, slices_Clone_int_int.f]
  rw [if_pos (by omega), if_pos (by omega)]
  rfl
theorem cut_loop (l : List RT) (o : Int) (p : Bool) (hl : l.length ≤ 6) (hr : ∀ r ∈ l, r.f3.length ≤ 12 ∧ r.f5.length ≤ 12) : ∀ d i (xs ys : List RT), l.length - i = d → i ≤ l.length → xs.length + ys.length = i →
    Ev (fun k => impl_Batch_cut.l0 k o l (l.length : Int) (i : Int) p false 255 0 0 xs p false 255 0 0 ys) (cutFin p (xs ++ aheadL (l.drop i) o) (ys ++ behindL (l.drop i) o)) := by
  intro d
  induction d with
  | zero =>
    intro i xs ys hd hi hx
    refine Ev.step (fun k => by rw [impl_Batch_cut.l0]) ?_
    rw [List.drop_of_length_le (by omega)]
    simp only [aheadL, behindL, List.filter_nil, List.append_nil, if_neg (show ¬ (i : Int) < (l.length : Int) by omega)]
    by_cases h1 : xs = []
    · have h0 : (xs.length : Int) = 0 := by rw [h1]; rfl
      rw [show cutFin p xs ys = (false, false, 0, 0, 0, [], false, false, 0, 0, 0, [], some 2) by unfold cutFin; rw [if_pos (.inl h1)]]
      simp only [if_pos h0]
      exact Ev.now _
    · have h1' : ¬ ((xs.length : Int) = 0) := by have := List.length_pos_iff.2 h1; omega
      simp only [if_neg h1']
      by_cases h2 : ys = []
      · have h0 : (ys.length : Int) = 0 := by rw [h2]; rfl
        rw [show cutFin p xs ys = (false, false, 0, 0, 0, [], false, false, 0, 0, 0, [], some 2) by unfold cutFin; rw [if_pos (.inr h2)]]
        simp only [if_pos h0]
        exact Ev.now _
      · have h2' : ¬ ((ys.length : Int) = 0) := by have := List.length_pos_iff.2 h2; omega
        rw [show cutFin p xs ys = (p, false, 255, 0, 0, xs, p, false, 255, 0, 0, ys, none) by unfold cutFin; rw [if_neg (by simp [h1, h2])]]
        simp only [if_neg h2']
        exact Ev.now _
  | succ d ih =>
    intro i xs ys hd hi hx
    have hlt : i < l.length := by omega
    refine Ev.step (fun k => by rw [impl_Batch_cut.l0]) ?_
    simp only [if_pos (show (i : Int) < (l.length : Int) by omega), if_pos (show (0 : Int) ≤ (i : Int) by omega), rdR_nat l i hlt, copyOf_ev _ (hr _ (List.getElem_mem hlt)), bindS, w64 (a := (i : Int) + 1) (by omega) (by omega)]
    rw [List.drop_eq_getElem_cons hlt]
    by_cases hc : l[i].f0 < o
    · simp only [if_pos hc, if_pos (show xs.length < 1759218604441 by omega)]
      have := ih (i + 1) (xs ++ [l[i]]) ys (by omega) (by omega) (by simp; omega)
      have e1 : xs ++ aheadL (l[i] :: l.drop (i + 1)) o = (xs ++ [l[i]]) ++ aheadL (l.drop (i + 1)) o := by rw [aheadL_cons, if_pos hc, List.append_assoc]; rfl
      have e2 : behindL (l[i] :: l.drop (i + 1)) o = behindL (l.drop (i + 1)) o := by rw [behindL_cons, if_pos hc]
      rw [e1, e2]
      exact this
    · simp only [if_neg hc, if_pos (show ys.length < 1759218604441 by omega)]
      have := ih (i + 1) xs (ys ++ [l[i]]) (by omega) (by omega) (by simp; omega)
      have e1 : ys ++ behindL (l[i] :: l.drop (i + 1)) o = (ys ++ [l[i]]) ++ behindL (l.drop (i + 1)) o := by rw [behindL_cons, if_neg hc, List.append_assoc]; rfl
      have e2 : aheadL (l[i] :: l.drop (i + 1)) o = aheadL (l.drop (i + 1)) o := by rw [aheadL_cons, if_neg hc]
      rw [e1, e2]
      exact this
def cutV (b : BT) (o : Int) : CutT := if (batOk b && decide (b.f2 = 255)) = true then cutFin b.f0 (aheadL b.f5 o) (behindL b.f5 o) else (false, false, 0, 0, 0, [], false, false, 0, 0, 0, [], some 2)
theorem cut_ev (b : BT) (o : Int) : Ev (fun k => impl_Batch_cut.f k b.f0 b.f1 b.f2 b.f3 b.f4 b.f5 o) (cutV b o) := by
  unfold impl_Batch_cut.f cutV
  simp only [impl_BatchValid.f, bindS]
  cases hv : batOk b
  · simp only [Bool.false_eq_true, if_false, Bool.false_and]
    refine Ev.step (fun k => by rw [impl_Batch_cut.j0]) ?_
    exact Ev.now _
  · simp only [if_true, Bool.true_and]
    refine Ev.step (fun k => by rw [impl_Batch_cut.j0]) ?_
    by_cases h : b.f2 = 255
    · simp only [h, bne_self_eq_false, Bool.false_eq_true, if_false, decide_true, if_true]
      have hlen := batOk_len hv
      have hrec : ∀ r ∈ b.f5, r.f3.length ≤ 12 ∧ r.f5.length ≤ 12 := fun r hr => by
        obtain ⟨i, hi, rfl⟩ := List.getElem_of_mem hr
        exact recOk_len (batOk_rec hv i hi)
      have := cut_loop b.f5 o b.f0 hlen.2 hrec _ 0 [] [] rfl (by omega) (by simp)
      simpa using this
    · simp only [show (b.f2 != 255) = true by simp [h], if_true, decide_eq_false h, Bool.false_eq_true, if_false]
      exact Ev.now _
abbrev BCutT := Bool × Bool × Int × Int × Int × List RT × Bool × Bool × Int × Int × Int × List RT × Bool
def cutGood (b : BT) (o : Int) : Bool := (batOk b && decide (b.f2 = 255)) && (!(aheadL b.f5 o).isEmpty && !(behindL b.f5 o).isEmpty)
def bcutV (b : BT) (o : Int) : BCutT := if cutGood b o = true then (b.f0, false, 255, 0, 0, aheadL b.f5 o, b.f0, false, 255, 0, 0, behindL b.f5 o, true) else (false, false, 0, 0, 0, [], false, false, 0, 0, 0, [], false)
theorem BatchCut_ev (b : BT) (o : Int) : Ev (fun k => impl_BatchCut.f k b.f0 b.f1 b.f2 b.f3 b.f4 b.f5 o) (bcutV b o) := by
  unfold impl_BatchCut.f
  refine Ev.bind (cut_ev b o) ?_
  unfold bcutV cutGood cutV
  cases hv : (batOk b && decide (b.f2 = 255))
  · simp only [Bool.false_eq_true, if_false, Bool.false_and, errors_Is.f, if_true, bindS]
    exact Ev.now _
  · simp only [if_true, Bool.true_and, cutFin]
    by_cases h : aheadL b.f5 o = [] ∨ behindL b.f5 o = []
    · have h' : (!(aheadL b.f5 o).isEmpty && !(behindL b.f5 o).isEmpty) = false := by
        rcases h with h | h <;> simp [h]
      simp only [if_pos h, h', errors_Is.f, if_true, bindS, Bool.false_eq_true, if_false]
      exact Ev.now _
    · have h' : (!(aheadL b.f5 o).isEmpty && !(behindL b.f5 o).isEmpty) = true := by
        rw [not_or] at h
        simp [h.1, h.2]
      simp only [if_neg h, h', errors_Is.f, bindS, Bool.false_eq_true, if_false, if_true]
      exact Ev.now _
end Go.Proofs.YtbbboachakkgiaaDoor.Pu

namespace Go.Proofs.YtbbboachakkgiaaDoor.Pu
open Go.RowKit Go.Proofs.YtbbboachakkgiaaDoorW.PrintWords Go.Proofs.YtbbboachakkgiaaDoorW.PrintLast Go.Proofs.YtbbboachakkgiaaDoorW.PrintMore Go.Proofs.YtbbboachakkgiaaDoor.G
set_option linter.unusedVariables false
set_option linter.unusedSimpArgs false
def ShortR (l : List RT) : Prop := l.length ≤ 6 ∧ ∀ r ∈ l, r.f3.length ≤ 12 ∧ r.f5.length ≤ 12
theorem short_of {b : BT} (h : batOk b = true) : ShortR b.f5 := ⟨(batOk_len h).2, fun r hr => by
  obtain ⟨i, hi, rfl⟩ := List.getElem_of_mem hr
  exact recOk_len (batOk_rec h i hi)⟩
theorem copyRecords_loop (l : List RT) (h : ShortR l) : ∀ d i, l.length - i = d → i ≤ l.length → Ev (fun k => impl_copyRecords.l0 k (l.take i) l (l.length : Int) (i : Int)) l := by
  intro d
  induction d with
  | zero =>
    intro i hd hi
    refine Ev.step (fun k => by rw [impl_copyRecords.l0]) ?_
    simp only [if_neg (show ¬ (i : Int) < (l.length : Int) by omega), List.take_of_length_le (show l.length ≤ i by omega)]
    exact Ev.now _
  | succ d ih =>
    intro i hd hi
    have hlt : i < l.length := by omega
    have hl := h.1
    refine Ev.step (fun k => by rw [impl_copyRecords.l0]) ?_
    simp only [if_pos (show (i : Int) < (l.length : Int) by omega), if_pos (show (0 : Int) ≤ (i : Int) by omega), rdR_nat l i hlt, copyOf_ev _ (h.2 _ (List.getElem_mem hlt)), bindS, w64 (a := (i : Int) + 1) (by omega) (by omega), if_pos (show (l.take i).length < 1759218604441 by rw [List.length_take]; omega)]
    have := ih (i + 1) (by omega) (by omega)
    rw [← List.take_append_getElem hlt] at this
    exact this
theorem copyRecords_ev (l : List RT) (h : ShortR l) : Ev (fun k => impl_copyRecords.f k l) l := by
  unfold impl_copyRecords.f
  have hl := h.1
  simp only [if_pos (show (0 : Int) ≤ (l.length : Int) by omega), if_pos (show ((l.length : Int)).toNat ≤ 3518437208883 by rw [Int.toNat_natCast]; omega)]
  have := copyRecords_loop l h _ 0 rfl (by omega)
  simpa using this
theorem copyBatch_ev (b : BT) (h : ShortR b.f5) : Ev (fun k => impl_Batch_copyOf.f k b.f0 b.f1 b.f2 b.f3 b.f4 b.f5) (b.f0, b.f1, b.f2, b.f3, b.f4, b.f5) := by
  unfold impl_Batch_copyOf.f
  exact Ev.bind (copyRecords_ev _ h) (Ev.now _)
theorem l12Copy_ev (x : RT) (h : x.f3.length ≤ 12 ∧ x.f5.length ≤ 12) : spec_l12Copy.f x.f0 x.f1 x.f2 x.f3 x.f4 x.f5 = some (x.f0, x.f1, x.f2, x.f3, x.f4, x.f5) := by
  unfold spec_l12Copy.f
  simp only [bindS, List.length_nil, List.nil_append]
  rw [if_pos (by omega), if_pos (by omega)]
theorem free_loop (p : Bool) (l : List RT) (h : ShortR l) : ∀ d i, l.length - i = d → i ≤ l.length → Ev (fun k => spec_l31Free.l0 k l (i : Int) p false 255 0 0 (l.take i)) (p, false, 255, 0, 0, l) := by
  intro d
  induction d with
  | zero =>
    intro i hd hi
    refine Ev.step (fun k => by rw [spec_l31Free.l0]) ?_
    simp only [if_neg (show ¬ (i : Int) < (l.length : Int) by omega), List.take_of_length_le (show l.length ≤ i by omega)]
    exact Ev.now _
  | succ d ih =>
    intro i hd hi
    have hlt : i < l.length := by omega
    have hl := h.1
    refine Ev.step (fun k => by rw [spec_l31Free.l0]) ?_
    simp only [if_pos (show (i : Int) < (l.length : Int) by omega), if_pos (show (0 : Int) ≤ (i : Int) by omega), rdR_nat l i hlt, l12Copy_ev _ (h.2 _ (List.getElem_mem hlt)), bindS, w64 (a := (i : Int) + 1) (by omega) (by omega), if_pos (show (l.take i).length < 1759218604441 by rw [List.length_take]; omega)]
    have := ih (i + 1) (by omega) (by omega)
    rw [← List.take_append_getElem hlt] at this
    exact this
theorem free_ev (p : Bool) (l : List RT) (h : ShortR l) : Ev (fun k => spec_l31Free.f k p l) (p, false, 255, 0, 0, l) := by
  unfold spec_l31Free.f
  have := free_loop p l h _ 0 rfl (by omega)
  simpa using this
theorem ShortR.take {l : List RT} (h : ShortR l) (n : Nat) : ShortR (l.take n) := ⟨by rw [List.length_take]; have := h.1; omega, fun r hr => h.2 r (List.mem_of_mem_take hr)⟩
theorem ShortR.drop {l : List RT} (h : ShortR l) (n : Nat) : ShortR (l.drop n) := ⟨by rw [List.length_drop]; have := h.1; omega, fun r hr => h.2 r (List.mem_of_mem_drop hr)⟩
end Go.Proofs.YtbbboachakkgiaaDoor.Pu

namespace Go.Proofs.YtbbboachakkgiaaDoor.Pu
open Go.RowKit Go.Proofs.YtbbboachakkgiaaDoorW.PrintWords Go.Proofs.YtbbboachakkgiaaDoorW.PrintLast Go.Proofs.YtbbboachakkgiaaDoorW.PrintMore Go.Proofs.YtbbboachakkgiaaDoor.G
set_option linter.unusedVariables false
set_option linter.unusedSimpArgs false
/-- Offsets that grow. -/
def Inc : List RT → Prop
  | [] => True
  | x :: l => (∀ y ∈ l, x.f0 < y.f0) ∧ Inc l
theorem inc_of : ∀ (l : List RT), (∀ i (h : i + 1 < l.length), l[i].f0 < l[i + 1].f0) → Inc l
  | [], _ => trivial
  | [x], _ => ⟨fun y hy => by simp at hy, trivial⟩
  | x :: z :: l, h => by
    have h1 := inc_of (z :: l) fun i hi => h (i + 1) (by simp only [List.length_cons] at hi ⊢; omega)
    have h0 : x.f0 < z.f0 := h 0 (by simp)
    refine ⟨fun y hy => ?_, h1⟩
    rcases List.mem_cons.1 hy with rfl | hy
    · exact h0
    · have := h1.1 y hy
      omega
theorem inc_bat {b : BT} (h : batOk b = true) : Inc b.f5 := by
  refine inc_of _ fun i hi => ?_
  unfold batOk at h
  simp only [Bool.and_eq_true] at h
  have := List.all_eq_true.1 h.2.2.2 (i + 1) (by simp [List.mem_range']; omega)
  unfold recStep at this
  rw [rdR_nat b.f5 (i + 1) hi, show ((i + 1 : Nat) : Int) - 1 = (i : Int) by omega, rdR_nat b.f5 i (by omega)] at this
  simpa using (Bool.and_eq_true_iff.1 this).2
/-- How many lie ahead of an offset, from the first one on. -/
def cutAt (l : List RT) (o : Int) : Nat := (l.takeWhile fun r => decide (r.f0 < o)).length
theorem cutAt_cons (x : RT) (l : List RT) (o : Int) : cutAt (x :: l) o = if x.f0 < o then cutAt l o + 1 else 0 := by
  unfold cutAt
  rw [List.takeWhile_cons]
  by_cases h : x.f0 < o <;> simp [h]
theorem cutAt_le : ∀ (l : List RT) (o : Int), cutAt l o ≤ l.length
  | [], _ => by simp [cutAt]
  | x :: l, o => by
    rw [cutAt_cons]
    have := cutAt_le l o
    split <;> simp <;> omega
theorem cut_parts : ∀ (l : List RT) (o : Int), Inc l → aheadL l o = l.take (cutAt l o) ∧ behindL l o = l.drop (cutAt l o)
  | [], _, _ => by simp [aheadL, behindL, cutAt]
  | x :: l, o, h => by
    rw [cutAt_cons, aheadL_cons, behindL_cons]
    obtain ⟨h1, h2⟩ := cut_parts l o h.2
    by_cases hc : x.f0 < o
    · rw [if_pos hc, if_pos hc, if_pos hc, h1, h2]
      exact ⟨rfl, rfl⟩
    · rw [if_neg hc, if_neg hc, if_neg hc]
      have ha : aheadL l o = [] := List.filter_eq_nil_iff.2 fun y hy => by have := h.1 y hy; simp; omega
      have hb : behindL l o = l := List.filter_eq_self.2 fun y hy => by have := h.1 y hy; simp; omega
      rw [ha, hb]
      exact ⟨rfl, rfl⟩
theorem sCut_loop (p b1 : Bool) (b2 b3 b4 : Int) (l : List RT) (o : Int) (hl : l.length ≤ 6) {r : BCutT} (hj : Ev (fun k => spec_BatchCut.j2 k ((cutAt l o : Nat) : Int) p b1 b2 b3 b4 l) r) : ∀ d i, l.length - i = d → i ≤ l.length → i + cutAt (l.drop i) o = cutAt l o →
    Ev (fun k => spec_BatchCut.l0 k o (i : Int) p b1 b2 b3 b4 l) r := by
  intro d
  induction d with
  | zero =>
    intro i hd hi hc
    refine Ev.step (fun k => by rw [spec_BatchCut.l0]) ?_
    simp only [if_neg (show ¬ (i : Int) < (l.length : Int) by omega)]
    rw [List.drop_of_length_le (by omega)] at hc
    have : i = cutAt l o := by simpa [cutAt] using hc
    rw [this]
    exact hj
  | succ d ih =>
    intro i hd hi hc
    have hlt : i < l.length := by omega
    refine Ev.step (fun k => by rw [spec_BatchCut.l0]) ?_
    simp only [if_pos (show (i : Int) < (l.length : Int) by omega), if_pos (show (0 : Int) ≤ (i : Int) by omega), rdR_nat l i hlt, w64 (a := (i : Int) + 1) (by omega) (by omega)]
    rw [List.drop_eq_getElem_cons hlt, cutAt_cons] at hc
    by_cases h : l[i].f0 < o
    · simp only [if_pos h]
      rw [if_pos h] at hc
      exact ih (i + 1) (by omega) (by omega) (by omega)
    · simp only [if_neg h]
      rw [if_neg h] at hc
      have : i = cutAt l o := by omega
      rw [this]
      exact hj
theorem sBatchCut_ev (b : BT) (o : Int) : Ev (fun k => spec_BatchCut.f k b.f0 b.f1 b.f2 b.f3 b.f4 b.f5 o) (bcutV b o) := by
  unfold spec_BatchCut.f
  simp only [spec_BatchValid.f, bindS]
  unfold bcutV cutGood
  cases hv : batOk b
  · simp only [Bool.false_eq_true, if_false, Bool.false_and]
    refine Ev.step (fun k => by rw [spec_BatchCut.j0]) ?_
    exact Ev.now _
  · simp only [if_true, Bool.true_and]
    refine Ev.step (fun k => by rw [spec_BatchCut.j0]) ?_
    by_cases h : b.f2 = 255
    · have hS := short_of hv
      have hle := cutAt_le b.f5 o
      obtain ⟨e1, e2⟩ := cut_parts b.f5 o (inc_bat hv)
      rw [e1, e2]
      simp only [h, bne_self_eq_false, Bool.false_eq_true, if_false, decide_true, Bool.true_and]
      refine sCut_loop _ _ _ _ _ _ _ hS.1 ?_ _ 0 rfl (by omega) (by simp)
      refine Ev.step (fun k => by rw [spec_BatchCut.j2]) ?_
      have hb : (!(b.f5.take (cutAt b.f5 o)).isEmpty && !(b.f5.drop (cutAt b.f5 o)).isEmpty) = (!decide (cutAt b.f5 o = 0) && !decide (cutAt b.f5 o = b.f5.length)) := by
        have h0 := hS.1
        have h1 := (batOk_len hv).1
        congr 1
        · by_cases hz : cutAt b.f5 o = 0
          · simp [hz]
          · have : b.f5.take (cutAt b.f5 o) ≠ [] := fun e => by have := congrArg List.length e; rw [List.length_take, List.length_nil] at this; omega
            simp [hz, List.isEmpty_eq_false_iff.2 this]
        · by_cases hz : cutAt b.f5 o = b.f5.length
          · simp [hz]
          · have : b.f5.drop (cutAt b.f5 o) ≠ [] := fun e => by have := congrArg List.length e; rw [List.length_drop, List.length_nil] at this; omega
            simp [hz, List.isEmpty_eq_false_iff.2 this]
      rw [hb]
      by_cases h0 : cutAt b.f5 o = 0
      · simp only [if_pos (show ((cutAt b.f5 o : Nat) : Int) = 0 by omega), decide_eq_true h0, Bool.not_true, Bool.false_and, Bool.false_eq_true, if_false]
        refine Ev.step (fun k => by rw [spec_BatchCut.j3]) ?_
        simp only [if_true]
        exact Ev.now _
      · simp only [if_neg (show ¬ ((cutAt b.f5 o : Nat) : Int) = 0 by omega), decide_eq_false h0, Bool.not_false, Bool.true_and]
        refine Ev.step (fun k => by rw [spec_BatchCut.j3]) ?_
        by_cases h1 : cutAt b.f5 o = b.f5.length
        · simp only [show (((cutAt b.f5 o : Nat) : Int) == (b.f5.length : Int)) = true by rw [beq_iff_eq]; omega, if_true, decide_eq_true h1, Bool.not_true, Bool.false_eq_true, if_false]
          exact Ev.now _
        · simp only [show (((cutAt b.f5 o : Nat) : Int) == (b.f5.length : Int)) = false by rw [beq_eq_false_iff_ne]; omega, Bool.false_eq_true, if_false, decide_eq_false h1, Bool.not_false, if_true, if_pos (show (0 : Int) ≤ ((cutAt b.f5 o : Nat) : Int) by omega), if_pos (show ((cutAt b.f5 o : Nat) : Int) ≤ (b.f5.length : Int) by omega), Int.toNat_natCast]
          refine Ev.bind (free_ev _ _ (hS.take _)) ?_
          refine Ev.bind (free_ev _ _ (hS.drop _)) ?_
          exact Ev.now _
    · simp only [show (b.f2 != 255) = true by simp [h], if_true, decide_eq_false h, Bool.false_and, Bool.false_eq_true, if_false]
      exact Ev.now _
end Go.Proofs.YtbbboachakkgiaaDoor.Pu

namespace Go.Proofs.YtbbboachakkgiaaDoor.Pu
open Go.RowKit Go.Proofs.YtbbboachakkgiaaDoorW.PrintWords Go.Proofs.YtbbboachakkgiaaDoorW.PrintLast Go.Proofs.YtbbboachakkgiaaDoorW.PrintMore Go.Proofs.YtbbboachakkgiaaDoor.G
set_option linter.unusedVariables false
set_option linter.unusedSimpArgs false
theorem l12Batch_loop (b0 b1 : Bool) (b2 b3 b4 : Int) (l : List RT) (h : ShortR l) : ∀ d i, l.length - i = d → i ≤ l.length → Ev (fun k => spec_l12Batch.l0 k (l.take i) (i : Int) b0 b1 b2 b3 b4 l) (b0, b1, b2, b3, b4, l) := by
  intro d
  induction d with
  | zero =>
    intro i hd hi
    refine Ev.step (fun k => by rw [spec_l12Batch.l0]) ?_
    simp only [if_neg (show ¬ (i : Int) < (l.length : Int) by omega), List.take_of_length_le (show l.length ≤ i by omega)]
    exact Ev.now _
  | succ d ih =>
    intro i hd hi
    have hlt : i < l.length := by omega
    have hl := h.1
    refine Ev.step (fun k => by rw [spec_l12Batch.l0]) ?_
    simp only [if_pos (show (i : Int) < (l.length : Int) by omega), if_pos (show (0 : Int) ≤ (i : Int) by omega), rdR_nat l i hlt, l12Copy_ev _ (h.2 _ (List.getElem_mem hlt)), bindS, w64 (a := (i : Int) + 1) (by omega) (by omega), if_pos (show (l.take i).length < 1759218604441 by rw [List.length_take]; omega)]
    have := ih (i + 1) (by omega) (by omega)
    rw [← List.take_append_getElem hlt] at this
    exact this
theorem l12Batch_ev (b : BT) (h : ShortR b.f5) : Ev (fun k => spec_l12Batch.f k b.f0 b.f1 b.f2 b.f3 b.f4 b.f5) (b.f0, b.f1, b.f2, b.f3, b.f4, b.f5) := by
  unfold spec_l12Batch.f
  have := l12Batch_loop b.f0 b.f1 b.f2 b.f3 b.f4 b.f5 h _ 0 rfl (by omega)
  simpa using this
end Go.Proofs.YtbbboachakkgiaaDoor.Pu

namespace Go.Proofs.YtbbboachakkgiaaDoor.Pu
open Go.RowKit Go.Proofs.YtbbboachakkgiaaDoorW.PrintWords Go.Proofs.YtbbboachakkgiaaDoorW.PrintLast Go.Proofs.YtbbboachakkgiaaDoorW.PrintMore Go.Proofs.YtbbboachakkgiaaDoor.G
theorem sBatchValid_ev (b : S47) (_ : RowR b.f5) : Ev (fun k => spec_BatchValid.f k b.f0 b.f1 b.f2 b.f3 b.f4 b.f5) (batOk b) := Ev.now _
end Go.Proofs.YtbbboachakkgiaaDoor.Pu

namespace Go.Proofs.YtbbboachakkgiaaDoor.Pu
open Go.RowKit Go.Proofs.YtbbboachakkgiaaDoorW.PrintWords Go.Proofs.YtbbboachakkgiaaDoorW.PrintLast Go.Proofs.YtbbboachakkgiaaDoorW.PrintMore Go.Proofs.YtbbboachakkgiaaDoor.G
set_option linter.unusedVariables false
set_option linter.unusedSimpArgs false
theorem rec_inc {b : S47} (h : batOk b = true) (j : Nat) (hj : j + 1 < b.f5.length) : b.f5[j].f0 < b.f5[j + 1].f0 := by
  unfold batOk at h
  simp only [Bool.and_eq_true] at h
  have := List.all_eq_true.1 h.2.2.2 (j + 1) (by simp [List.mem_range']; omega)
  unfold recStep at this
  rw [rdR_nat b.f5 (j + 1) hj, show ((j + 1 : Nat) : Int) - 1 = ((j : Nat) : Int) by omega, rdR_nat b.f5 j (by omega), decide_eq_false (by omega : ¬ (j + 1 = 0)), Bool.false_or, Bool.and_eq_true, decide_eq_true_eq] at this
  exact this.2
theorem firstOf_eq {b : S47} (h : 0 < b.f5.length) : firstOf b = b.f5[0].f0 := by
  unfold firstOf
  rw [show (0 : Int) = ((0 : Nat) : Int) from rfl, rdR_nat b.f5 0 h]
theorem lastOf_eq {b : S47} (h : 0 < b.f5.length) : lastOf b = (b.f5[b.f5.length - 1]'(by omega)).f0 := by
  unfold lastOf
  rw [show (b.f5.length : Int) - 1 = ((b.f5.length - 1 : Nat) : Int) by omega, rdR_nat b.f5 _ (by omega)]
theorem rec_mono {b : S47} (h : batOk b = true) (i : Nat) : ∀ d (hj : i + d < b.f5.length), (b.f5[i]'(by omega)).f0 ≤ b.f5[i + d].f0
  | 0, hj => Int.le_refl _
  | d + 1, hj => by
    have := rec_mono h i d (by omega)
    have := rec_inc h (i + d) hj
    show _ ≤ b.f5[i + d + 1].f0
    omega
theorem rec_le {b : S47} (h : batOk b = true) (j : Nat) (hj : j < b.f5.length) : b.f5[j].f0 ≤ lastOf b := by
  rw [lastOf_eq (by omega)]
  have := rec_mono h j (b.f5.length - 1 - j) (by omega)
  simpa only [show j + (b.f5.length - 1 - j) = b.f5.length - 1 by omega] using this
theorem bat_inc {l : List S47} (h : logOk l = true) (i : Nat) (hi : i + 1 < l.length) : lastOf l[i] < firstOf l[i + 1] := by
  unfold logOk at h
  have := List.all_eq_true.1 (Bool.and_eq_true_iff.1 h).1 (i + 1) (by simp [List.mem_range']; omega)
  unfold batStep at this
  rw [rdB_nat l (i + 1) hi, show ((i + 1 : Nat) : Int) - 1 = ((i : Nat) : Int) by omega, rdB_nat l i (by omega), decide_eq_false (by omega : ¬ (i + 1 = 0)), Bool.false_or, Bool.and_eq_true, decide_eq_true_eq] at this
  exact this.2
theorem first_le_last {b : S47} (h : batOk b = true) : firstOf b ≤ lastOf b := by
  have hn := batOk_len h
  have := rec_le h 0 (by omega)
  rw [firstOf_eq (by omega)]
  exact this
theorem bat_mono {l : List S47} (h : logOk l = true) (i : Nat) : ∀ d (hj : i + d < l.length), firstOf (l[i]'(by omega)) ≤ firstOf l[i + d]
  | 0, hj => Int.le_refl _
  | d + 1, hj => by
    have h1 := bat_mono h i d (by omega)
    have h2 := bat_inc h (i + d) hj
    have h3 := first_le_last (logOk_bat h (i + d) (by omega))
    show _ ≤ firstOf l[i + d + 1]
    omega
theorem logOk_len {l : List S47} (h : logOk l = true) : l.length ≤ 8 := by
  unfold logOk at h
  simp only [Bool.and_eq_true, decide_eq_true_eq] at h
  omega
end Go.Proofs.YtbbboachakkgiaaDoor.Pu

namespace Go.Proofs.YtbbboachakkgiaaDoor.Pu
open Go.RowKit Go.Proofs.YtbbboachakkgiaaDoorW.PrintWords Go.Proofs.YtbbboachakkgiaaDoorW.PrintLast Go.Proofs.YtbbboachakkgiaaDoorW.PrintMore Go.Proofs.YtbbboachakkgiaaDoor.G
set_option linter.unusedVariables false
set_option linter.unusedSimpArgs false
theorem last_ev (b : BT) (h : 1 ≤ b.f5.length ∧ b.f5.length ≤ 6) : impl_Batch_last.f b.f0 b.f1 b.f2 b.f3 b.f4 b.f5 = some (lastOf b) := by
  unfold impl_Batch_last.f lastOf
  simp only [w64 (a := (b.f5.length : Int) - 1) (by omega) (by omega), if_pos (show (0 : Int) ≤ (b.f5.length : Int) - 1 by omega), if_pos (show (b.f5.length : Int) - 1 < (b.f5.length : Int) by omega)]
theorem first_ev (b : BT) (h : 1 ≤ b.f5.length ∧ b.f5.length ≤ 6) : impl_Batch_first.f b.f0 b.f1 b.f2 b.f3 b.f4 b.f5 = some (firstOf b) := by
  unfold impl_Batch_first.f firstOf
  simp only [if_pos (show (0 : Int) < (b.f5.length : Int) by omega)]
theorem slast_ev (b : BT) (h : 1 ≤ b.f5.length ∧ b.f5.length ≤ 6) : spec_l12Last.f b.f0 b.f1 b.f2 b.f3 b.f4 b.f5 = some (lastOf b) := by
  unfold spec_l12Last.f lastOf
  simp only [w64 (a := (b.f5.length : Int) - 1) (by omega) (by omega), if_pos (show (0 : Int) ≤ (b.f5.length : Int) - 1 by omega), if_pos (show (b.f5.length : Int) - 1 < (b.f5.length : Int) by omega)]
def aheadB (b : BT) (o : Int) : BT := ⟨b.f0, false, 255, 0, 0, aheadL b.f5 o⟩
/-- Cut batch by batch. -/
def lcut (o : Int) : List BT → List BT → List BT × Bool
  | [], acc => (acc, true)
  | b :: l, acc => if lastOf b < o then lcut o l (acc ++ [b]) else if firstOf b < o then (if cutGood b o = true then lcut o l (acc ++ [aheadB b o]) else ([], false)) else lcut o l acc
theorem bcut_good {b : BT} {o : Int} (h : cutGood b o = true) : bcutV b o = (b.f0, false, 255, 0, 0, aheadL b.f5 o, b.f0, false, 255, 0, 0, behindL b.f5 o, true) := by unfold bcutV; rw [if_pos h]
theorem bcut_bad {b : BT} {o : Int} (h : ¬ cutGood b o = true) : bcutV b o = (false, false, 0, 0, 0, [], false, false, 0, 0, 0, [], false) := by unfold bcutV; rw [if_neg h]
theorem logCut_loop (l : List BT) (o : Int) (hl : l.length ≤ 8) (hv : ∀ i (h : i < l.length), batOk l[i] = true) : ∀ d i (acc : List BT), l.length - i = d → i ≤ l.length → acc.length ≤ i →
    Ev (fun k => impl_LogCut.l0 k o acc l (l.length : Int) (i : Int)) (lcut o (l.drop i) acc) := by
  intro d
  induction d with
  | zero =>
    intro i acc hd hi ha
    refine Ev.step (fun k => by rw [impl_LogCut.l0]) ?_
    simp only [if_neg (show ¬ (i : Int) < (l.length : Int) by omega)]
    rw [List.drop_of_length_le (by omega)]
    exact Ev.now _
  | succ d ih =>
    intro i acc hd hi ha
    have hlt : i < l.length := by omega
    have hb := hv i hlt
    have hn := batOk_len hb
    refine Ev.step (fun k => by rw [impl_LogCut.l0]) ?_
    simp only [if_pos (show (i : Int) < (l.length : Int) by omega), if_pos (show (0 : Int) ≤ (i : Int) by omega), rdB_nat l i hlt, last_ev _ hn, first_ev _ hn, bindS, w64 (a := (i : Int) + 1) (by omega) (by omega), if_pos (show acc.length < 2513169434916 by omega)]
    rw [List.drop_eq_getElem_cons hlt]
    by_cases h1 : lastOf l[i] < o
    · simp only [if_pos h1]
      rw [show lcut o (l[i] :: l.drop (i + 1)) acc = lcut o (l.drop (i + 1)) (acc ++ [l[i]]) by rw [lcut, if_pos h1]]
      refine Ev.bind (copyBatch_ev _ (short_of hb)) ?_
      exact ih (i + 1) _ (by omega) (by omega) (by simp; omega)
    · simp only [if_neg h1]
      by_cases h2 : firstOf l[i] < o
      · simp only [if_pos h2]
        refine Ev.bind (BatchCut_ev _ o) ?_
        by_cases h3 : cutGood l[i] o = true
        · rw [bcut_good h3, show lcut o (l[i] :: l.drop (i + 1)) acc = lcut o (l.drop (i + 1)) (acc ++ [aheadB l[i] o]) by rw [lcut, if_neg h1, if_pos h2, if_pos h3]]
          simp only [if_true]
          exact ih (i + 1) _ (by omega) (by omega) (by simp; omega)
        · rw [bcut_bad h3, show lcut o (l[i] :: l.drop (i + 1)) acc = ([], false) by rw [lcut, if_neg h1, if_pos h2, if_neg h3]]
          simp only [Bool.false_eq_true, if_false]
          exact Ev.now _
      · simp only [if_neg h2]
        rw [show lcut o (l[i] :: l.drop (i + 1)) acc = lcut o (l.drop (i + 1)) acc by rw [lcut, if_neg h1, if_neg h2]]
        exact ih (i + 1) _ (by omega) (by omega) (by omega)
def logCutV (l : List BT) (o : Int) : List BT × Bool := if logOk l = true then lcut o l [] else ([], false)
theorem LogCut_ev (l : List BT) (o : Int) : Ev (fun k => impl_LogCut.f k l o) (logCutV l o) := by
  unfold impl_LogCut.f logCutV
  simp only [impl_LogValid.f, bindS]
  by_cases h : logOk l = true
  · simp only [if_pos h]
    have := logCut_loop l o (logOk_len h) (fun i hi => logOk_bat h i hi) _ 0 [] rfl (by omega) (by simp)
    simpa using this
  · simp only [if_neg h]
    exact Ev.now _
theorem sLogCut_loop (l : List BT) (o : Int) (hl : l.length ≤ 8) (hv : ∀ i (h : i < l.length), batOk l[i] = true) : ∀ d i (acc : List BT), l.length - i = d → i ≤ l.length → acc.length ≤ i →
    Ev (fun k => spec_LogCut.l0 k l o acc (i : Int)) (lcut o (l.drop i) acc) := by
  intro d
  induction d with
  | zero =>
    intro i acc hd hi ha
    refine Ev.step (fun k => by rw [spec_LogCut.l0]) ?_
    simp only [if_neg (show ¬ (i : Int) < (l.length : Int) by omega)]
    rw [List.drop_of_length_le (by omega)]
    exact Ev.now _
  | succ d ih =>
    intro i acc hd hi ha
    have hlt : i < l.length := by omega
    have hb := hv i hlt
    have hn := batOk_len hb
    refine Ev.step (fun k => by rw [spec_LogCut.l0]) ?_
    simp only [if_pos (show (i : Int) < (l.length : Int) by omega), if_pos (show (0 : Int) ≤ (i : Int) by omega), rdB_nat l i hlt, slast_ev _ hn, bindS, w64 (a := (i : Int) + 1) (by omega) (by omega), if_pos (show acc.length < 2513169434916 by omega), if_pos (show (0 : Int) < (l[i].f5.length : Int) by omega)]
    rw [List.drop_eq_getElem_cons hlt]
    by_cases h1 : lastOf l[i] < o
    · simp only [if_pos h1]
      rw [show lcut o (l[i] :: l.drop (i + 1)) acc = lcut o (l.drop (i + 1)) (acc ++ [l[i]]) by rw [lcut, if_pos h1]]
      refine Ev.bind (l12Batch_ev _ (short_of hb)) ?_
      exact ih (i + 1) _ (by omega) (by omega) (by simp; omega)
    · simp only [if_neg h1]
      by_cases h2 : firstOf l[i] < o
      · have h2' : (rd_T33 l[i].f5 0).f0 < o := h2
        simp only [if_pos h2']
        refine Ev.bind (sBatchCut_ev _ o) ?_
        by_cases h3 : cutGood l[i] o = true
        · rw [bcut_good h3, show lcut o (l[i] :: l.drop (i + 1)) acc = lcut o (l.drop (i + 1)) (acc ++ [aheadB l[i] o]) by rw [lcut, if_neg h1, if_pos h2, if_pos h3]]
          simp only [if_true]
          exact ih (i + 1) _ (by omega) (by omega) (by simp; omega)
        · rw [bcut_bad h3, show lcut o (l[i] :: l.drop (i + 1)) acc = ([], false) by rw [lcut, if_neg h1, if_pos h2, if_neg h3]]
          simp only [Bool.false_eq_true, if_false]
          exact Ev.now _
      · have h2' : ¬ (rd_T33 l[i].f5 0).f0 < o := h2
        simp only [if_neg h2']
        rw [show lcut o (l[i] :: l.drop (i + 1)) acc = lcut o (l.drop (i + 1)) acc by rw [lcut, if_neg h1, if_neg h2]]
        exact ih (i + 1) _ (by omega) (by omega) (by omega)
theorem sLogCut_ev (l : List BT) (o : Int) : Ev (fun k => spec_LogCut.f k l o) (logCutV l o) := by
  unfold spec_LogCut.f logCutV
  simp only [spec_LogValid.f, bindS]
  by_cases h : logOk l = true
  · simp only [if_pos h]
    have := sLogCut_loop l o (logOk_len h) (fun i hi => logOk_bat h i hi) _ 0 [] rfl (by omega) (by simp)
    simpa using this
  · simp only [if_neg h]
    exact Ev.now _
end Go.Proofs.YtbbboachakkgiaaDoor.Pu

namespace Go.Proofs.YtbbboachakkgiaaDoor.Pu
open Go.RowKit Go.Proofs.YtbbboachakkgiaaDoorW.PrintWords Go.Proofs.YtbbboachakkgiaaDoorW.PrintLast Go.Proofs.YtbbboachakkgiaaDoorW.PrintMore Go.Proofs.YtbbboachakkgiaaDoor.G
set_option linter.unusedVariables false
set_option linter.unusedSimpArgs false
theorem selfInts (l : List Int) (hl : l.length ≤ 9223372036854775807) : Ev (fun k => laws_sameInts.f k l l) true := by
  unfold laws_sameInts.f
  simp only [if_true]
  have := ev_all l hl (fun k i => laws_sameInts.l0 k l l i) (fun k i => some true) (fun _ => true) true
    (fun k => by simp only [laws_sameInts.l0]; rw [if_neg (by omega)])
    (fun k i h => by simp only [laws_sameInts.l0]; rw [if_pos (by omega), if_pos (by omega), if_pos (by omega), if_pos trivial]; rfl)
    (fun i h => Ev.now _) l.length 0 (by omega) (by omega)
  rw [show ((l.drop 0).all fun _ => true) = true from List.all_eq_true.2 (fun _ _ => rfl)] at this
  simpa using this
theorem selfRecord (x : S33) (h : Lens x) : Ev (fun k => laws_sameRecord.f k x.f0 x.f1 x.f2 x.f3 x.f4 x.f5 x.f0 x.f1 x.f2 x.f3 x.f4 x.f5) true := by
  unfold laws_sameRecord.f
  simp only [if_true, beq_self_eq_true]
  refine Ev.bind (selfInts _ h.1) ?_
  simp only [if_true]
  exact Ev.bind (selfInts _ h.2) (Ev.now _)
theorem selfRecords (l : List S33) (h : RowR l) : Ev (fun k => laws_sameRecords.f k l l) true := by
  unfold laws_sameRecords.f
  simp only [if_true]
  have := ev_all l h.1 (fun k i => laws_sameRecords.l0 k l l i) (fun k i => laws_sameRecord.f k (rd_T33 l i).f0 (rd_T33 l i).f1 (rd_T33 l i).f2 (rd_T33 l i).f3 (rd_T33 l i).f4 (rd_T33 l i).f5 (rd_T33 l i).f0 (rd_T33 l i).f1 (rd_T33 l i).f2 (rd_T33 l i).f3 (rd_T33 l i).f4 (rd_T33 l i).f5) (fun _ => true) true
    (fun k => by simp only [laws_sameRecords.l0]; rw [if_neg (by omega)])
    (fun k i h => by simp only [laws_sameRecords.l0]; rw [if_pos (by omega), if_pos (by omega), if_pos (by omega)])
    (fun i hi => by rw [rdR_nat l i hi]; exact selfRecord _ (h.2 _ (List.getElem_mem hi))) l.length 0 (by omega) (by omega)
  rw [show ((l.drop 0).all fun _ => true) = true from List.all_eq_true.2 (fun _ _ => rfl)] at this
  simpa using this
theorem selfBatch (b : S47) (h : RowR b.f5) : Ev (fun k => laws_sameBatch.f k b.f0 b.f1 b.f2 b.f3 b.f4 b.f5 b.f0 b.f1 b.f2 b.f3 b.f4 b.f5) true := by
  unfold laws_sameBatch.f
  simp only [if_true, beq_self_eq_true]
  exact Ev.bind (selfRecords _ h) (Ev.now _)
end Go.Proofs.YtbbboachakkgiaaDoor.Pu

namespace Go.Proofs.YtbbboachakkgiaaDoor.Pu
open Go.RowKit Go.Proofs.YtbbboachakkgiaaDoorW.PrintWords Go.Proofs.YtbbboachakkgiaaDoorW.PrintLast Go.Proofs.YtbbboachakkgiaaDoorW.PrintMore Go.Proofs.YtbbboachakkgiaaDoor.G
set_option linter.unusedVariables false
set_option linter.unusedSimpArgs false
theorem selfLog (l : List S47) (h : RowB l) : Ev (fun k => laws_sameLog.f k l l) true := by
  unfold laws_sameLog.f
  simp only [if_true]
  have := ev_all l h.1 (fun k i => laws_sameLog.l0 k l l i) (fun k i => laws_sameBatch.f k (rd_T47 l i).f0 (rd_T47 l i).f1 (rd_T47 l i).f2 (rd_T47 l i).f3 (rd_T47 l i).f4 (rd_T47 l i).f5 (rd_T47 l i).f0 (rd_T47 l i).f1 (rd_T47 l i).f2 (rd_T47 l i).f3 (rd_T47 l i).f4 (rd_T47 l i).f5) (fun _ => true) true
    (fun k => by simp only [laws_sameLog.l0]; rw [if_neg (by omega)])
    (fun k i h => by simp only [laws_sameLog.l0]; rw [if_pos (by omega), if_pos (by omega), if_pos (by omega)])
    (fun i hi => by rw [rdB_nat l i hi]; exact selfBatch _ (h.2 _ (List.getElem_mem hi))) l.length 0 (by omega) (by omega)
  rw [show ((l.drop 0).all fun _ => true) = true from List.all_eq_true.2 (fun _ _ => rfl)] at this
  simpa using this
end Go.Proofs.YtbbboachakkgiaaDoor.Pu

