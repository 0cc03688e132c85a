/- A text of seat Ytkihdohphddjaaa: what the law FnGroupsLeftEnd needs of this repo's texts (by pack.py). Not trusted: Lean checks it. -/
import Derived.Test.YtkihdohphddjaaaKFnGroupsLeftEnd10
import Derived.Test.YtkihdohphddjaaaRows
import Derived.WalkKit
import Derived.ProofKit
import Derived.OpenShut
import Derived.ShutString
import Derived.ChangeOld
import Derived.Below
import Derived.SizedLaws
import Derived.Lib.SmallJoins
import Derived.ChangeSlices
namespace Go.Proofs.Ytkihdohphddjaaa.Pu
open Go.RowKit Go.Proofs.YtkihdohphddjaaaW.PrintWords Go.Proofs.YtkihdohphddjaaaW.PrintLast Go.Proofs.YtkihdohphddjaaaW.PrintMore Go.Proofs.Ytkihdohphddjaaa.G
set_option linter.unusedVariables false
theorem drawGL_ends (l0 : List Int) (hr : ∀ x ∈ l0, 0 ≤ x ∧ x ≤ 255) : EndsIn (fun k => spec_DrawGroupsLeft.f k l0) (fun r => DrG r.1 ∧ DrL r.2.2) := by
  obtain ⟨c, hc, hok⟩ := open_some l0 hr
  unfold spec_DrawGroupsLeft.f
  simp only [hc, bindS]
  refine EndsIn.bind (drawGroups_ends hok) fun r hr => EndsIn.bind (drawLog_ends hok r.2 (by omega) (by omega)) fun q hq => ?_
  have hl := hr.1.1
  by_cases h : (r.1.length : Int) > 0
  · simp only [if_pos h]
    refine EndsIn.bind (pick_ends hok q.2 6 (by omega) (by omega) (by omega)) fun s hs => ?_
    by_cases h2 : s.1 > 0
    · simp only [if_pos h2]
      refine EndsIn.bind (pick_ends hok s.2 (r.1.length : Int) (by omega) (by omega) (by omega)) fun u hu => ?_
      simp only [if_pos (show 0 ≤ u.1 by omega), if_pos (show u.1 < (r.1.length : Int) by omega)]
      exact EndsIn.now _ ⟨hr.1, hq.1⟩
    · simp only [if_neg h2]
      exact EndsIn.now _ ⟨hr.1, hq.1⟩
  · simp only [if_neg h]
    exact EndsIn.now _ ⟨hr.1, hq.1⟩
end Go.Proofs.Ytkihdohphddjaaa.Pu

namespace Go.Proofs.Ytkihdohphddjaaa.Pu
open Go.RowKit Go.Proofs.YtkihdohphddjaaaW.PrintWords Go.Proofs.YtkihdohphddjaaaW.PrintLast Go.Proofs.YtkihdohphddjaaaW.PrintMore Go.Proofs.Ytkihdohphddjaaa.G
set_option linter.unusedVariables false
set_option linter.unusedSimpArgs false
theorem rec_inc {b : S75} (h : batOk b = true) (j : Nat) (hj : j + 1 < b.f5.length) : b.f5[j].f0 < b.f5[j + 1].f0 := by
  unfold batOk at h
  simp only [Bool.and_eq_true] at h
  have := List.all_eq_true.1 h.2.2.2 (j + 1) (by simp [List.mem_range']; omega)
  unfold recStep at this
  rw [rdR_nat b.f5 (j + 1) hj, show ((j + 1 : Nat) : Int) - 1 = ((j : Nat) : Int) by omega, rdR_nat b.f5 j (by omega), decide_eq_false (by omega : ¬ (j + 1 = 0)), Bool.false_or, Bool.and_eq_true, decide_eq_true_eq] at this
  exact this.2
theorem firstOf_eq {b : S75} (h : 0 < b.f5.length) : firstOf b = b.f5[0].f0 := by
  unfold firstOf
  rw [show (0 : Int) = ((0 : Nat) : Int) from rfl, rdR_nat b.f5 0 h]
theorem lastOf_eq {b : S75} (h : 0 < b.f5.length) : lastOf b = (b.f5[b.f5.length - 1]'(by omega)).f0 := by
  unfold lastOf
  rw [show (b.f5.length : Int) - 1 = ((b.f5.length - 1 : Nat) : Int) by omega, rdR_nat b.f5 _ (by omega)]
theorem rec_mono {b : S75} (h : batOk b = true) (i : Nat) : ∀ d (hj : i + d < b.f5.length), (b.f5[i]'(by omega)).f0 ≤ b.f5[i + d].f0
  | 0, hj => Int.le_refl _
  | d + 1, hj => by
    have := rec_mono h i d (by omega)
    have := rec_inc h (i + d) hj
    show _ ≤ b.f5[i + d + 1].f0
    omega
theorem rec_le {b : S75} (h : batOk b = true) (j : Nat) (hj : j < b.f5.length) : b.f5[j].f0 ≤ lastOf b := by
  rw [lastOf_eq (by omega)]
  have := rec_mono h j (b.f5.length - 1 - j) (by omega)
  simpa only [show j + (b.f5.length - 1 - j) = b.f5.length - 1 by omega] using this
theorem bat_inc {l : List S75} (h : logOk l = true) (i : Nat) (hi : i + 1 < l.length) : lastOf l[i] < firstOf l[i + 1] := by
  unfold logOk at h
  have := List.all_eq_true.1 (Bool.and_eq_true_iff.1 h).1 (i + 1) (by simp [List.mem_range']; omega)
  unfold batStep at this
  rw [rdB_nat l (i + 1) hi, show ((i + 1 : Nat) : Int) - 1 = ((i : Nat) : Int) by omega, rdB_nat l i (by omega), decide_eq_false (by omega : ¬ (i + 1 = 0)), Bool.false_or, Bool.and_eq_true, decide_eq_true_eq] at this
  exact this.2
theorem first_le_last {b : S75} (h : batOk b = true) : firstOf b ≤ lastOf b := by
  have hn := batOk_len h
  have := rec_le h 0 (by omega)
  rw [firstOf_eq (by omega)]
  exact this
theorem bat_mono {l : List S75} (h : logOk l = true) (i : Nat) : ∀ d (hj : i + d < l.length), firstOf (l[i]'(by omega)) ≤ firstOf l[i + d]
  | 0, hj => Int.le_refl _
  | d + 1, hj => by
    have h1 := bat_mono h i d (by omega)
    have h2 := bat_inc h (i + d) hj
    have h3 := first_le_last (logOk_bat h (i + d) (by omega))
    show _ ≤ firstOf l[i + d + 1]
    omega
theorem logOk_len {l : List S75} (h : logOk l = true) : l.length ≤ 8 := by
  unfold logOk at h
  simp only [Bool.and_eq_true, decide_eq_true_eq] at h
  omega
end Go.Proofs.Ytkihdohphddjaaa.Pu

namespace Go.Proofs.Ytkihdohphddjaaa.Pu
open Go.RowKit Go.Proofs.YtkihdohphddjaaaW.PrintWords Go.Proofs.YtkihdohphddjaaaW.PrintLast Go.Proofs.YtkihdohphddjaaaW.PrintMore Go.Proofs.Ytkihdohphddjaaa.G
set_option linter.unusedVariables false
set_option linter.unusedSimpArgs false
def recsOf (l : List S75) : List S78 := l.flatMap fun b => b.f5
theorem recsOf_len {l : List S75} (h : logOk l = true) : ∀ i, (recsOf (l.take i)).length ≤ 6 * i := by
  intro i
  have key : ∀ (m : List S75), (∀ b ∈ m, b.f5.length ≤ 6) → (recsOf m).length ≤ 6 * m.length := by
    intro m
    induction m with
    | nil => intro _; simp [recsOf]
    | cons b m ih =>
      intro hm
      have h1 := ih fun x hx => hm x (List.mem_cons_of_mem _ hx)
      have h2 := hm b (List.mem_cons_self ..)
      unfold recsOf at h1 ⊢
      rw [List.flatMap_cons, List.length_append, List.length_cons]
      omega
  have h1 := key (l.take i) (fun b hb => by
    obtain ⟨j, hj, rfl⟩ := List.getElem_of_mem (List.mem_of_mem_take hb)
    exact (batOk_len (logOk_bat h j hj)).2)
  have h2 : (l.take i).length ≤ i := List.length_take_le _ _
  omega
theorem recsOf_all_len {l : List S75} (h : logOk l = true) : (recsOf l).length ≤ 48 := by
  have h1 := recsOf_len h l.length
  rw [List.take_length] at h1
  have := logOk_len h
  omega
/-- A loop that gathers all records. -/
theorem gather_ev (l : List S75) (h : logOk l = true) (L : Nat → List S78 → Int → Option (List S78))
    (hend : ∀ k m, L (k + 1) m (l.length : Int) = some m)
    (hstep : ∀ k m (i : Nat) (hi : i < l.length), m.length + l[i].f5.length < 1759218604441 → L (k + 1) m (i : Int) = L k (m ++ l[i].f5) ((i : Int) + 1)) : Ev (fun k => L k [] 0) (recsOf l) := by
  have hl := logOk_len h
  have key : ∀ d i, l.length - i = d → i ≤ l.length → Ev (fun k => L k (recsOf (l.take i)) (i : Int)) (recsOf l) := by
    intro d
    induction d with
    | zero =>
      intro i hd hi
      obtain rfl : i = l.length := by omega
      refine Ev.step (fun k => hend k _) ?_
      rw [List.take_length]
      exact Ev.now _
    | succ d ih =>
      intro i hd hi
      have hlt : i < l.length := by omega
      have h1 := recsOf_len h i
      have h2 := (batOk_len (logOk_bat h i hlt)).2
      refine Ev.step (fun k => hstep k _ i hlt (by omega)) ?_
      have e : recsOf (l.take i) ++ l[i].f5 = recsOf (l.take (i + 1)) := by
        unfold recsOf
        rw [List.take_succ_eq_append_getElem hlt, List.flatMap_append]
        simp
      rw [e]
      exact_mod_cast ih (i + 1) (by omega) (by omega)
  have := key l.length 0 (by omega) (by omega)
  simpa [recsOf] using this
end Go.Proofs.Ytkihdohphddjaaa.Pu

namespace Go.Proofs.Ytkihdohphddjaaa.Pu
open Go.RowKit Go.Proofs.YtkihdohphddjaaaW.PrintWords Go.Proofs.YtkihdohphddjaaaW.PrintLast Go.Proofs.YtkihdohphddjaaaW.PrintMore Go.Proofs.Ytkihdohphddjaaa.G
set_option linter.unusedVariables false
set_option linter.unusedSimpArgs false
theorem lenG_ok {l : List S75} (h : logOk l = true) : lenG l = true := by
  unfold lenG
  simp only [Bool.and_eq_true, decide_eq_true_eq, List.all_eq_true]
  have := logOk_len h
  refine ⟨by omega, fun b hb => ?_⟩
  obtain ⟨i, hi, rfl⟩ := List.getElem_of_mem hb
  have := batOk_len (logOk_bat h i hi)
  omega
theorem recsOf_allP (l : List S75) : (allP l).map (fun x => x.2) = recsOf l := by
  unfold allP recsOf
  rw [List.map_flatMap]
  congr 1
  funext b
  rw [List.map_map]
  exact List.map_id _
def cntR (n : Int) (l : List S78) : Nat := (l.filter fun r => decide (n ≤ r.f0)).length
theorem cntR_allP (n : Int) (l : List S75) : leftN n (allP l) = cntR n (recsOf l) := by
  unfold leftN cntR
  rw [← recsOf_allP, List.filter_map, List.length_map]
  rfl
theorem cntR_le (n : Int) (l : List S78) : cntR n l ≤ l.length := List.length_filter_le _ _
theorem cntR_cons (n : Int) (r : S78) (l : List S78) : cntR n (r :: l) = (if n ≤ r.f0 then 1 else 0) + cntR n l := by
  unfold cntR
  rw [List.filter_cons]
  by_cases h : n ≤ r.f0
  · rw [if_pos (decide_eq_true h), if_pos h, List.length_cons, Nat.add_comm]
  · rw [if_neg (by simpa using h), if_neg h, Nat.zero_add]
theorem l14All_ev (l : List S75) (h : logOk l = true) : Ev (fun k => spec_l14All.f k l) (recsOf l) := by
  unfold spec_l14All.f
  have hl := logOk_len h
  exact gather_ev l h (fun k m i => spec_l14All.l0 k l m i)
    (fun k m => by simp only [spec_l14All.l0]; rw [if_neg (by omega)])
    (fun k m i hi hm => by simp only [spec_l14All.l0]; rw [if_pos (by omega), if_pos (by omega), rdB_nat l i hi, if_pos hm, w64 (by omega) (by omega)])
theorem rdG_nat' (l : List S25) (i : Nat) (h : i < l.length) : rd_T25 l (i : Int) = l[i] := by
  unfold rd_T25
  simp [h]
def findV (s : ByteArray) (R : List S78) (l0 : List S25) : Int := match l0.find? (fun g => decide (g.f0 = s)) with | some g => (cntR g.f1 R : Int) | none => -1
theorem findV_leftV (s : ByteArray) (l0 : List S25) (l : List S75) : leftV l0 s l = findV s (recsOf l) l0 := by
  unfold leftV findV
  cases l0.find? (fun g => decide (g.f0 = s)) with
  | none => rfl
  | some g => simp only [cntR_allP]
theorem sleft_cnt (l0 : List S25) (R : List S78) (hR : R.length ≤ 1000) (i : Nat) (hi : i < l0.length) : ∀ d j (c : Nat), R.length - j = d → j ≤ R.length → c ≤ j →
    Ev (fun k => spec_GroupsLeft.l1 k l0 R (i : Int) (c : Int) (j : Int)) ((c + cntR l0[i].f1 (R.drop j) : Nat) : Int) := by
  intro d
  induction d with
  | zero =>
    intro j c hd hj hc
    refine Ev.step (fun k => by rw [spec_GroupsLeft.l1]) ?_
    simp only [if_neg (show ¬ (j : Int) < (R.length : Int) by omega)]
    rw [List.drop_of_length_le (by omega)]
    exact Ev.now _
  | succ d ih =>
    intro j c hd hj hc
    have hlt : j < R.length := by omega
    refine Ev.step (fun k => by rw [spec_GroupsLeft.l1]) ?_
    simp only [if_pos (show (j : Int) < (R.length : Int) by omega), if_pos (show (0 : Int) ≤ (j : Int) by omega), if_pos (show (0 : Int) ≤ (i : Int) by omega), if_pos (show (i : Int) < (l0.length : Int) by omega), rdR_nat R j hlt, rdG_nat' l0 i hi, w64 (a := (j : Int) + 1) (by omega) (by omega), w64 (a := (c : Int) + 1) (by omega) (by omega)]
    rw [List.drop_eq_getElem_cons hlt, cntR_cons]
    by_cases h : R[j].f0 ≥ l0[i].f1
    · simp only [if_pos h]
      have := ih (j + 1) (c + 1) (by omega) (by omega) (by omega)
      rw [show c + (1 + cntR l0[i].f1 (R.drop (j + 1))) = c + 1 + cntR l0[i].f1 (R.drop (j + 1)) by omega]
      exact_mod_cast this
    · simp only [if_neg h]
      have := ih (j + 1) c (by omega) (by omega) (by omega)
      rw [Nat.zero_add]
      exact_mod_cast this
theorem sleft_loop (l0 : List S25) (s : ByteArray) (R : List S78) (hR : R.length ≤ 1000) (hl0 : l0.length ≤ 1000) : ∀ d i, l0.length - i = d → i ≤ l0.length →
    Ev (fun k => spec_GroupsLeft.l0 k l0 s R (i : Int)) (findV s R (l0.drop i)) := by
  intro d
  induction d with
  | zero =>
    intro i hd hi
    refine Ev.step (fun k => by rw [spec_GroupsLeft.l0]) ?_
    simp only [if_neg (show ¬ (i : Int) < (l0.length : Int) by omega)]
    rw [List.drop_of_length_le (by omega)]
    exact Ev.now _
  | succ d ih =>
    intro i hd hi
    have hlt : i < l0.length := by omega
    refine Ev.step (fun k => by rw [spec_GroupsLeft.l0]) ?_
    simp only [if_pos (show (i : Int) < (l0.length : Int) by omega), if_pos (show (0 : Int) ≤ (i : Int) by omega), rdG_nat' l0 i hlt, w64 (a := (i : Int) + 1) (by omega) (by omega)]
    rw [List.drop_eq_getElem_cons hlt]
    unfold findV
    by_cases h : l0[i].f0 = s
    · simp only [if_pos (show l0[i].f0.toList = s.toList by rw [h]), List.find?_cons, decide_eq_true h]
      have := sleft_cnt l0 R hR i hlt R.length 0 0 (by omega) (by omega) (by omega)
      simpa using this
    · simp only [if_neg (show ¬ l0[i].f0.toList = s.toList from fun e => h (ba_ext e)), List.find?_cons, decide_eq_false h]
      exact ih (i + 1) (by omega) (by omega)
def gleftV (l0 : List S25) (s : ByteArray) (l : List S75) : Int := if (gsOk l0 && logOk l) = true then findV s (recsOf l) l0 else -1
theorem gsOk_len {l : List S25} (h : gsOk l = true) : l.length ≤ 8 := by
  unfold gsOk at h
  simp only [Bool.and_eq_true, decide_eq_true_eq] at h
  omega
theorem GroupsLeft_ev (l0 : List S25) (s : ByteArray) (l : List S75) (hl : l0.length ≤ 9223372036854775807) (hs : ∀ g ∈ l0, g.f0.size ≤ 9223372036854775807) (hb : RowB l) : Ev (fun k => impl_GroupsLeft.f k l0 s l) (gleftV l0 s l) := by
  unfold impl_GroupsLeft.f gleftV
  refine Ev.bind (valid_ev l0 hl hs) ?_
  cases hg : gsOk l0
  · simp only [Bool.false_eq_true, if_false, Bool.false_and]
    exact Ev.now _
  · simp only [if_true, Bool.true_and]
    refine Ev.bind (LogValid_ev l hb) ?_
    cases hv : logOk l
    · exact Ev.now _
    · have := gsOk_len hg
      simp only [if_true, lenG_ok hv, decide_eq_true (show l0.length ≤ 100 by omega), Bool.and_self, findV_leftV]
      exact Ev.now _
theorem sGroupsLeft_ev (l0 : List S25) (s : ByteArray) (l : List S75) (hl : l0.length ≤ 9223372036854775807) (hs : ∀ g ∈ l0, g.f0.size ≤ 9223372036854775807) (hb : RowB l) : Ev (fun k => spec_GroupsLeft.f k l0 s l) (gleftV l0 s l) := by
  have bad : Ev (fun k => spec_GroupsLeft.j0 k l0 s l true) (-1) := by
    refine Ev.step (fun k => by rw [spec_GroupsLeft.j0]) ?_
    simp only [if_true]
    exact Ev.now _
  unfold spec_GroupsLeft.f gleftV
  refine Ev.bind (svalid_ev l0 hl hs) ?_
  cases hg : gsOk l0
  · simp only [Bool.false_eq_true, if_false, Bool.false_and]
    exact bad
  · simp only [if_true, Bool.true_and]
    refine Ev.bind (sLogValid_ev l hb) ?_
    cases hv : logOk l
    · exact bad
    · simp only [if_true, Bool.not_true]
      refine Ev.step (fun k => by rw [spec_GroupsLeft.j0]) ?_
      simp only [Bool.false_eq_true, if_false]
      refine Ev.bind (l14All_ev l hv) ?_
      have h1 := recsOf_all_len hv
      have h2 := gsOk_len hg
      have := sleft_loop l0 s (recsOf l) (by omega) (by omega) l0.length 0 (by omega) (by omega)
      simpa using this
end Go.Proofs.Ytkihdohphddjaaa.Pu

namespace Go.Proofs.Ytkihdohphddjaaa.Pu
open Go.RowKit Go.Proofs.YtkihdohphddjaaaW.PrintWords Go.Proofs.YtkihdohphddjaaaW.PrintLast Go.Proofs.YtkihdohphddjaaaW.PrintMore Go.Proofs.Ytkihdohphddjaaa.G
set_option linter.unusedVariables false
set_option linter.unusedSimpArgs false
theorem last_ev (b : S75) (h : 1 ≤ b.f5.length ∧ b.f5.length ≤ 6) : impl_Batch_last.f b.f0 b.f1 b.f2 b.f3 b.f4 b.f5 = some (lastOf b) := by
  unfold impl_Batch_last.f lastOf
  simp only [w64 (a := (b.f5.length : Int) - 1) (by omega) (by omega), if_pos (show (0 : Int) ≤ (b.f5.length : Int) - 1 by omega), if_pos (show (b.f5.length : Int) - 1 < (b.f5.length : Int) by omega)]
end Go.Proofs.Ytkihdohphddjaaa.Pu

namespace Go.Proofs.Ytkihdohphddjaaa.Pu
open Go.RowKit Go.Proofs.YtkihdohphddjaaaW.PrintWords Go.Proofs.YtkihdohphddjaaaW.PrintLast Go.Proofs.YtkihdohphddjaaaW.PrintMore Go.Proofs.Ytkihdohphddjaaa.G
set_option linter.unusedVariables false
set_option linter.unusedSimpArgs false
theorem last_range {b : S75} (hb : batOk b = true) : 0 ≤ lastOf b ∧ lastOf b ≤ 99999 := by
  have hnb := batOk_len hb
  have := batOk_rec hb (b.f5.length - 1) (by omega)
  rw [lastOf_eq (by omega)]
  unfold recOk rng at this
  simp only [Bool.and_eq_true, decide_eq_true_eq] at this
  omega
/-- The end of valid batches: every last offset lies ahead of it. -/
theorem readEnd_ends (l : List S75) (hv : logOk l = true) : EndsIn (fun k => impl_ReadEnd.f k l) (fun n => (0 ≤ n ∧ n ≤ 100000) ∧ ∀ b ∈ l, lastOf b < n) := by
  unfold impl_ReadEnd.f
  simp only [impl_LogValid.f, bindS, hv, if_true]
  have hn := logOk_len hv
  by_cases hz : l.length = 0
  · simp only [if_pos (show (l.length : Int) = 0 by omega)]
    exact EndsIn.now _ ⟨by omega, fun b hb => by rw [List.length_eq_zero_iff.1 hz] at hb; simp at hb⟩
  · have hlt : l.length - 1 < l.length := by omega
    have hb := logOk_bat hv _ hlt
    have hnb := batOk_len hb
    have hr := last_range hb
    simp only [if_neg (show ¬ (l.length : Int) = 0 by omega), w64 (a := (l.length : Int) - 1) (by omega) (by omega), if_pos (show (0 : Int) ≤ (l.length : Int) - 1 by omega), if_pos (show (l.length : Int) - 1 < (l.length : Int) by omega)]
    rw [show (l.length : Int) - 1 = ((l.length - 1 : Nat) : Int) by omega, rdB_nat l _ hlt, last_ev _ hnb]
    simp only [bindS, w64 (a := lastOf l[l.length - 1] + 1) (by omega) (by omega)]
    refine EndsIn.now _ ⟨by omega, fun b hb' => ?_⟩
    obtain ⟨i, hi, rfl⟩ := List.getElem_of_mem hb'
    have h1 := bat_mono hv i (l.length - 1 - i) (by omega)
    simp only [show i + (l.length - 1 - i) = l.length - 1 by omega] at h1
    rcases Nat.lt_or_ge i (l.length - 1) with hlt' | hge
    · have h2 := bat_inc hv i (by omega)
      have h3 := bat_mono hv (i + 1) (l.length - 1 - (i + 1)) (by omega)
      simp only [show i + 1 + (l.length - 1 - (i + 1)) = l.length - 1 by omega] at h3
      have h4 := first_le_last hb
      omega
    · have : i = l.length - 1 := by omega
      subst this
      omega
end Go.Proofs.Ytkihdohphddjaaa.Pu

namespace Go.Proofs.Ytkihdohphddjaaa.Pu
open Go.RowKit Go.Proofs.YtkihdohphddjaaaW.PrintWords Go.Proofs.YtkihdohphddjaaaW.PrintLast Go.Proofs.YtkihdohphddjaaaW.PrintMore Go.Proofs.Ytkihdohphddjaaa.G
set_option linter.unusedVariables false
theorem allOf_ev (l : List S75) (h : logOk l = true) : Ev (fun k => laws_allOf.f k l) (recsOf l) := by
  unfold laws_allOf.f
  have hl := logOk_len h
  exact gather_ev l h (fun k m i => laws_allOf.l0 k l m i)
    (fun k m => by simp only [laws_allOf.l0]; rw [if_neg (by omega)])
    (fun k m i hi hm => by simp only [laws_allOf.l0]; rw [if_pos (by omega), if_pos (by omega), rdB_nat l i hi, if_pos hm, w64 (by omega) (by omega)])
end Go.Proofs.Ytkihdohphddjaaa.Pu

namespace Go.Proofs.Ytkihdohphddjaaa.Pure
open Go.RowKit Go.Proofs.Ytkihdohphddjaaa.G Go.Proofs.YtkihdohphddjaaaW.PrintWords Go.Proofs.YtkihdohphddjaaaW.PrintLast Go.Proofs.YtkihdohphddjaaaW.PrintMore Go.Proofs.Ytkihdohphddjaaa.Pu
set_option linter.unusedSimpArgs false
theorem putG_len (g : S25) : ∀ (l : List S25) (p : Option S25), gsFrom p l = true → (∃ x ∈ l, x.f0.toList = g.f0.toList) → (putG g l).length = l.length
  | [], _, _, h => by simp at h
  | x :: l, p, hs, h => by
    have ht := gs_tail hs
    by_cases hx : nameLt g x = true
    · rw [putG_cons_lt l hx]
      have hne : ¬ x.f0.toList = g.f0.toList := fun e => by
        unfold nameLt at hx
        rw [e, less_irrefl] at hx
        exact absurd hx (by simp)
      obtain ⟨y, hy, he⟩ := h
      rcases List.mem_cons.1 hy with rfl | hy
      · exact absurd he hne
      · simp [putG_len g l (some x) ht ⟨y, hy, he⟩]
    · by_cases he : x.f0.toList = g.f0.toList
      · rw [putG_cons_eq ht hx he]
        rfl
      · obtain ⟨y, hy, hye⟩ := h
        rcases List.mem_cons.1 hy with rfl | hy
        · exact absurd hye he
        · have := gs_lt l x ht y hy
          rw [hye] at this
          exact absurd this hx
theorem find_putG (g : S25) : ∀ (l : List S25) (p : Option S25), gsFrom p l = true → (putG g l).find? (fun x => decide (x.f0 = g.f0)) = some g
  | [], _, _ => by simp [putG]
  | x :: l, p, hs => by
    have ht := gs_tail hs
    by_cases hx : nameLt g x = true
    · rw [putG_cons_lt l hx]
      have hne : ¬ x.f0 = g.f0 := fun e => by
        unfold nameLt at hx
        rw [e, less_irrefl] at hx
        exact absurd hx (by simp)
      rw [List.find?_cons, decide_eq_false hne]
      exact find_putG g l (some x) ht
    · by_cases he : x.f0.toList = g.f0.toList
      · rw [putG_cons_eq ht hx he]
        simp
      · rw [putG_cons_gt ht hx he]
        simp
theorem gs_mem : ∀ (l : List S25) (p : Option S25), gsFrom p l = true → ∀ g ∈ l, gOk g = true
  | [], _, _, _, h => absurd h (by simp)
  | x :: l, p, hs, g, hg => by
    have ht := gs_tail hs
    rw [gsFrom_cons] at hs
    simp only [Bool.and_eq_true] at hs
    rcases List.mem_cons.1 hg with rfl | hg
    · exact hs.1
    · exact gs_mem l (some x) ht g hg
theorem gPut_found {l : List S25} {g x : S25} (h : gsOk l = true) (hx : x ∈ l) (he : x.f0 = g.f0) (hn : 0 ≤ g.f1 ∧ g.f1 ≤ 100000) : gPut l g = (putG g l, true) := by
  have h2 := gsOk_parts h
  have hg : gOk g = true := by
    have h3 := gs_mem l none h2.1 x hx
    unfold gOk at h3 ⊢
    rw [he] at h3
    simp only [Bool.and_eq_true, decide_eq_true_eq] at h3 ⊢
    exact ⟨h3.1, hn⟩
  unfold gPut
  rw [if_pos (by rw [h, hg]; rfl)]
  unfold fin8
  rw [putG_len g l none h2.1 ⟨x, hx, by rw [he]⟩, if_neg (by omega)]
theorem cntR_none (n : Int) (l : List S78) (h : ∀ r ∈ l, r.f0 < n) : cntR n l = 0 := by
  unfold cntR
  rw [List.length_eq_zero_iff, List.filter_eq_nil_iff]
  intro r hr
  have := h r hr
  simp only [decide_eq_true_eq]
  omega
theorem cntR_all (l : List S78) (h : ∀ r ∈ l, 0 ≤ r.f0) : cntR 0 l = l.length := by
  unfold cntR
  rw [List.filter_eq_self.2 (fun r hr => by simpa using h r hr)]
theorem recs_range {log : List S75} (hv : logOk log = true) : ∀ r ∈ recsOf log, 0 ≤ r.f0 ∧ ∃ b ∈ log, r.f0 ≤ lastOf b := by
  intro r hr
  unfold recsOf at hr
  obtain ⟨b, hb, hr⟩ := List.mem_flatMap.1 hr
  obtain ⟨i, hi, rfl⟩ := List.getElem_of_mem hb
  obtain ⟨j, hj, rfl⟩ := List.getElem_of_mem hr
  have hbk := logOk_bat hv i hi
  have h1 := batOk_rec hbk j hj
  refine ⟨?_, log[i], hb, rec_le hbk j hj⟩
  unfold recOk rng at h1
  simp only [Bool.and_eq_true, decide_eq_true_eq] at h1
  omega
theorem FnGroupsLeftEnd : OFnGroupsLeftEnd.Pure := by
  intro l0 hl0 ho0
  refine EndsIn.rounds ?_
  unfold laws_FnGroupsLeftEnd.f
  by_cases h : (l0.length : Int) > 1048576
  · simp only [if_pos h]
    exact EndsIn.now _ rfl
  · simp only [if_neg h]
    refine EndsIn.bind (drawGL_ends l0 fun x hx => u8_range (ho0 x hx)) fun q hq => ?_
    obtain ⟨l, s, log⟩ := q
    have hb : RowB log := DrL.rowB hq.2
    have h8 : l.length ≤ 8 := hq.1.1
    have hl : l.length ≤ 9223372036854775807 := by omega
    refine EndsIn.bind (P := fun x => x = gleftV l s log) ⟨_, GroupsLeft_ev l s log hl hq.1.size hb, rfl⟩ fun x hx => ?_
    refine EndsIn.bind (P := fun x => x = gleftV l s log) ⟨_, sGroupsLeft_ev l s log hl hq.1.size hb, rfl⟩ fun y hy => ?_
    subst hx
    subst hy
    simp only [if_true]
    refine EndsIn.step (fun k => by rw [laws_FnGroupsLeftEnd.j0]) ?_
    by_cases hn : gleftV l s log < 0
    · simp only [decide_eq_true hn, if_true, beq_self_eq_true]
      exact EndsIn.now _ rfl
    · simp only [decide_eq_false hn, Bool.false_eq_true, if_false]
      have hv : (gsOk l && logOk log) = true := by
        cases hg : (gsOk l && logOk log)
        · exact absurd (by unfold gleftV; rw [hg]; simp) hn
        · rfl
      have hv2 := Bool.and_eq_true_iff.1 hv
      have hrr := recs_range hv2.2
      have h1 := recsOf_all_len hv2.2
      have e : gleftV l s log = findV s (recsOf log) l := by unfold gleftV; rw [if_pos hv]
      obtain ⟨g, hf⟩ : ∃ g, l.find? (fun g => decide (g.f0 = s)) = some g := by
        cases hf : l.find? (fun g => decide (g.f0 = s)) with
        | some g => exact ⟨g, rfl⟩
        | none =>
          rw [e] at hn
          unfold findV at hn
          rw [hf] at hn
          simp at hn
      have hgm := List.mem_of_find?_eq_some hf
      have hgs : g.f0 = s := by simpa using List.find?_some hf
      have hss : s.size ≤ 9223372036854775807 := by rw [← hgs]; exact hq.1.size g hgm
      have e2 : gleftV l s log = (cntR g.f1 (recsOf log) : Int) := by rw [e]; unfold findV; rw [hf]
      refine EndsIn.bind (readEnd_ends log hv2.2) fun n hnn => ?_
      have p1 : gPut l ⟨s, n⟩ = (putG ⟨s, n⟩ l, true) := gPut_found hv2.1 hgm hgs hnn.1
      have p2 : gPut l ⟨s, 0⟩ = (putG ⟨s, 0⟩ l, true) := gPut_found hv2.1 hgm hgs ⟨Int.le_refl _, show (0 : Int) ≤ 100000 by decide⟩
      have v1 := gPutI_ev l ⟨s, n⟩ (by omega) hq.1.size hss
      have v2 := gPutI_ev l ⟨s, 0⟩ (by omega) hq.1.size hss
      have o1 := gPut_ok (l := l) (g := ⟨s, n⟩) (by rw [p1])
      have o2 := gPut_ok (l := l) (g := ⟨s, 0⟩) (by rw [p2])
      have s1 := gPut_size (l := l) (g := ⟨s, n⟩) hq.1.size hss
      have s2 := gPut_size (l := l) (g := ⟨s, 0⟩) hq.1.size hss
      rw [p1] at v1 o1 s1
      rw [p2] at v2 o2 s2
      simp only at o1 o2 s1 s2
      have z1 := gsOk_len o1
      have z2 := gsOk_len o2
      refine ⟨true, Ev.bind v1 (Ev.bind v2 ?_), rfl⟩
      simp only [if_true]
      refine Ev.bind (GroupsLeft_ev _ s log (by omega) s1 hb) ?_
      have g1 : gleftV (putG ⟨s, n⟩ l) s log = 0 := by
        unfold gleftV
        rw [if_pos (by rw [o1, hv2.2]; rfl)]
        unfold findV
        rw [find_putG ⟨s, n⟩ l none (gsOk_parts hv2.1).1]
        have := cntR_none n (recsOf log) (fun r hr => by
          obtain ⟨_, b, hb1, hb2⟩ := hrr r hr
          have := hnn.2 b hb1
          omega)
        simpa using this
      rw [g1]
      simp only [if_true]
      refine Ev.bind (GroupsLeft_ev _ s log (by omega) s2 hb) ?_
      have g2 : gleftV (putG ⟨s, 0⟩ l) s log = ((recsOf log).length : Int) := by
        unfold gleftV
        rw [if_pos (by rw [o2, hv2.2]; rfl)]
        unfold findV
        rw [find_putG ⟨s, 0⟩ l none (gsOk_parts hv2.1).1]
        have := cntR_all (recsOf log) (fun r hr => (hrr r hr).1)
        simp only [this]
      rw [g2]
      refine Ev.bind (allOf_ev log hv2.2) ?_
      simp only [if_true]
      refine Ev.bind (allOf_ev log hv2.2) ?_
      rw [e2]
      have := cntR_le g.f1 (recsOf log)
      rw [decide_eq_true (show (cntR g.f1 (recsOf log) : Int) ≤ ((recsOf log).length : Int) by omega)]
      exact Ev.now _
end Go.Proofs.Ytkihdohphddjaaa.Pure

namespace Go.Proofs.Ytkihdohphddjaaa.fnGroupsLeftEnd
open Go.ChangeShapes Go.WideShapes Go.ChangeAt Go.RowKit Go.Proofs.Ytkihdohphddjaaa.OFnGroupsLeftEnd Go.Proofs.Ytkihdohphddjaaa.G Go.Joins
open Go.ChangeMaps (open_string shut_string)
set_option linter.unusedVariables false
theorem own : ownKnob Try.prog.godebug = none := by kernel_rfl
theorem laidOut : laidOutB Try.prog = true := by kernel_rfl
set_option maxRecDepth 100000 in
theorem lifted (os : Os) (started : os.Started) (H : Type) (enc : TypeId × Value → H) :
    ReturnsInHanded {} Try.checked os 6 .any (Rows.fnGroupsLeftEndSpec.pre6 enc Try.prog Try.f6 Rows.fnGroupsLeftEndRow.domain false) (Rows.fnGroupsLeftEndSpec.post enc Try.prog Try.f6 false true false false) := by
  refine returnsInHanded_of_change_sized (C := Try.checked) own started (by kernel_rfl) Try.func6
    (ChangeSpec.witness6 (enc := enc) (C := Try.checked) false ⟨#[], #[.slice none 0 0], []⟩ 8 (by kernel_rfl) (by kernel_rfl) (by kernel_rfl) (by kernel_rfl)) ?_
  intro W base args ds gs before hval0 hW hcnd hsz0 _
  have hsz : (DataW.weightsEach Try.prog (Try.f6.params.toList ++ Rows.fnGroupsLeftEndSpec.plain.varTypes Try.prog) (ds ++ gs)).all (· ≤ reachBytes) = true := hsz0
  have hval : ∀ (j : Nat) t v, Try.f6.params[j]? = some t → args[j]? = some v → Value.okWide Try.prog W .any base t v := hval0
  have hW' := hW
  obtain ⟨p, q, hA0, hV, rfl, hfz, hnd⟩ := hW
  have hA : DataW.TrodAll enc Try.prog W 0 (fun _ => true) true Try.f6.params.toList args.toList ds p := hA0
  rw [Try.params6] at hA hval hsz
  obtain ⟨v0, vs0, d0, ds0, p0, q0, hargs, rfl, rfl, h0, r0⟩ := trodAll_cons hA
  obtain ⟨rfl, rfl, rfl⟩ := trodAll_nil r0
  obtain rfl : args = #[v0] := by cases args; simp_all
  obtain ⟨rfl, rfl⟩ := trodVars_none hV
  obtain ⟨a0, len0, cap0, rfl⟩ := okWide_slice Try.underlying22 (hval 0 22 v0 rfl rfl)
  have k0 := h0
  have lt0 : ∀ x ∈ p0, x.block < W.heap.size := by obtain ⟨m, hm⟩ := k0; exact DataW.trod_lt m _ _ _ hm
  obtain ⟨fuel0, hf0⟩ := h0
  obtain ⟨A0, c0, l0, hcs0, hlc0, hm0, hC0, ho0⟩ := Rd.opens_row Try.underlying22 (Rd.opens_int Try.underlying5 (by kernel_rfl)) hf0
  simp [Value.cells] at hcs0
  obtain ⟨rfl, rfl, rfl⟩ := hcs0
  clear hA0 hval0 hsz0 hsz
  obtain ⟨k, h⟩ := Pure.FnGroupsLeftEnd l0 (Nat.le_trans hlc0 hm0) ho0
  refine (laws_FnGroupsLeftEnd.calls k _ _ l0 true W hC0 hlc0 h).mono fun e W' ⟨he, bel0⟩ => ?_
  subst he
  have bel : Below W.heap.size W W' := bel0
  exact ⟨_, rfl, _, _, _, [], _, [], hW', trodAll_mk1 (shut_bool Try.underlying4 _), (trodAll_cons_mk (Below.trod laidOut (by kernel_rfl) (of_decide_eq_true (by kernel_rfl)) k0 bel lt0) trodAll_mk0), rfl, bel.frame _, fun h => by cases h⟩
theorem over : Rows.fnGroupsLeftEndRow.holds Try.pinned (OpenSpec.ofChange Rows.fnGroupsLeftEndSpec) :=
  OpenClaim.holds_of_wide 6 Try.f6 rfl rfl rfl rfl rfl rfl rfl ⟨rfl, rfl, rfl, rfl, rfl⟩ rfl rfl rfl rfl rfl (by kernel_rfl) Try.func6 (by kernel_rfl)
    (of_decide_eq_true (by kernel_rfl)) (by unfold Func.isWrapper; first | (rw [if_pos (by decide +kernel)]; kernel_rfl) | (rw [if_neg (by decide +kernel)]; exact ⟨rfl, rfl⟩))
    (fun os started H enc _ => lifted os started H enc)
theorem proved : Rows.FnGroupsLeftEndSaid := over
#print axioms proved
end Go.Proofs.Ytkihdohphddjaaa.fnGroupsLeftEnd
namespace Go.Proofs.Ytkihdohphddjaaa
/-- The row, under a short name, for the claim. -/
theorem fnGroupsLeftEnd_holds : Rows.FnGroupsLeftEndSaid := fnGroupsLeftEnd.proved
end Go.Proofs.Ytkihdohphddjaaa

