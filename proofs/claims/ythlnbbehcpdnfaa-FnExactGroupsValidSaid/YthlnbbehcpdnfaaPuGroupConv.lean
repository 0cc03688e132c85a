/- Groups are copied, sized and compared: what the law's own helpers tell. -/
import Derived.Test.YthlnbbehcpdnfaaPuGroups
import Derived.Test.YthlnbbehcpdnfaaGx1
import Derived.Test.YthlnbbehcpdnfaaGx3
import Derived.Test.YthlnbbehcpdnfaaGx4
import Derived.Test.YthlnbbehcpdnfaaGx5
namespace Go.Proofs.Ythlnbbehcpdnfaa.Pu
open Go.RowKit Go.Proofs.YthlnbbehcpdnfaaW.PrintWords Go.Proofs.YthlnbbehcpdnfaaW.PrintLast Go.Proofs.Ythlnbbehcpdnfaa.G
set_option linter.unusedVariables false
set_option linter.unusedSimpArgs false
def cvG (g : S51) : S53 := ⟨g.f0, g.f1⟩
theorem rdL_nat (l : List S51) (i : Nat) (h : i < l.length) : rd_T51 l (i : Int) = l[i] := by
  unfold rd_T51
  simp [h]
theorem szGroup_some (s : ByteArray) (n a : Int) (hs : s.size ≤ 9223372036854775807) (ha : 0 ≤ a) (ha2 : a ≤ 1048576) :
    laws_szGroup.f s n a = some (if a - (s.size : Int) < 0 then -1 else a - (s.size : Int)) := by
  unfold laws_szGroup.f
  rw [w64 (a := a - (s.size : Int)) (by omega) (by omega)]
  split <;> rfl
theorem szGroupS_loop (l : List S51) (hl : l.length ≤ 9223372036854775807) (hs : ∀ g ∈ l, g.f0.size ≤ 9223372036854775807) : ∀ d i (a : Int), l.length - i = d → 0 ≤ a → a ≤ 1048576 →
    Ends (fun k => laws_szGroupS.l0 k l a (i : Int)) (fun r => r < 0 ∨ ∀ g ∈ l.drop i, g.f0.size ≤ 1048576) := by
  intro d
  induction d with
  | zero =>
    intro i a hi h0 h1
    refine Ends.step (fun k => by rw [laws_szGroupS.l0]) ?_
    simp only [if_neg (show ¬ ((i : Int) < (l.length : Int)) by omega)]
    refine Ends.now _ (.inr ?_)
    rw [List.drop_of_length_le (by omega)]
    simp
  | succ d ih =>
    intro i a hi h0 h1
    have hlt : i < l.length := by omega
    refine Ends.step (fun k => by rw [laws_szGroupS.l0]) ?_
    simp only [if_pos (show ((i : Int) < (l.length : Int)) by omega), if_pos (show (0 : Int) ≤ (i : Int) by omega), rdL_nat l i hlt, szGroup_some _ _ a (hs _ (List.getElem_mem hlt)) h0 h1, Option.bind_some, w64 (a := (i : Int) + 1) (by omega) (by omega)]
    by_cases h : a - (l[i].f0.size : Int) < 0
    · simp only [if_pos h, if_pos (show (-1 : Int) < 0 by omega)]
      exact Ends.now _ (.inl (by omega))
    · simp only [if_neg h]
      refine (ih (i + 1) (a - l[i].f0.size) (by omega) (by omega) (by omega)).mono fun r hr => ?_
      rcases hr with hr | hr
      · exact .inl hr
      · right
        rw [drop_cons_get l i hlt]
        intro g hg
        rcases List.mem_cons.1 hg with rfl | hg
        · omega
        · exact hr g hg
theorem szGroupS_ends (l : List S51) (hl : l.length ≤ 9223372036854775807) (hs : ∀ g ∈ l, g.f0.size ≤ 9223372036854775807) (a : Int) (h0 : 0 ≤ a) (h1 : a ≤ 1048576) :
    Ends (fun k => laws_szGroupS.f k l a) (fun r => r < 0 ∨ (l.length ≤ 1048576 ∧ ∀ g ∈ l, g.f0.size ≤ 1048576)) := by
  unfold laws_szGroupS.f
  rw [w64 (a := a - (l.length : Int)) (by omega) (by omega)]
  by_cases h : a - (l.length : Int) < 0
  · simp only [if_pos h]
    exact Ends.now _ (.inl (by omega))
  · simp only [if_neg h]
    refine (szGroupS_loop l hl hs l.length 0 _ (by omega) (by omega) (by omega)).mono fun r hr => ?_
    rcases hr with hr | hr
    · exact .inl hr
    · exact .inr ⟨by omega, by simpa using hr⟩
theorem toGroupS_loop (l : List S51) (hl : l.length ≤ 1048576) : ∀ d i, l.length - i = d → i ≤ l.length →
    Ev (fun k => laws_toGroupS.l0 k l ((l.take i).map cvG ++ List.replicate (l.length - i) z53) (i : Int)) (l.map cvG) := by
  intro d
  induction d with
  | zero =>
    intro i hi hle
    obtain rfl : i = l.length := by omega
    refine Ev.step (fun k => by rw [laws_toGroupS.l0]) ?_
    simp only [if_neg (show ¬ ((l.length : Int) < (l.length : Int)) by omega), List.take_length, Nat.sub_self, List.replicate_zero, List.append_nil]
    exact Ev.now _
  | succ d ih =>
    intro i hi hle
    have hlt : i < l.length := by omega
    refine Ev.step (fun k => by rw [laws_toGroupS.l0]) ?_
    simp only [if_pos (show ((i : Int) < (l.length : Int)) by omega), if_pos (show (0 : Int) ≤ (i : Int) by omega), rdL_nat l i hlt, laws_toGroup.f, Option.bind_some, fill_len cvG z53 l i hle, w64 (a := (i : Int) + 1) (by omega) (by omega), Int.toNat_natCast]
    have := ih (i + 1) (by omega) (by omega)
    rw [← fill_set cvG z53 l i hlt] at this
    exact this
theorem toGroupS_ev (l : List S51) (hl : l.length ≤ 1048576) : Ev (fun k => laws_toGroupS.f k l) (l.map cvG) := by
  unfold laws_toGroupS.f
  simp only [if_pos (show (0 : Int) ≤ (l.length : Int) by omega), Int.toNat_natCast, if_pos (show l.length ≤ 11728124029610 by omega)]
  have := toGroupS_loop l hl l.length 0 (by omega) (by omega)
  simpa using this
theorem eqGroupS_loop (l : List S53) (hl : l.length ≤ 1048576) : ∀ d i, l.length - i = d → Ev (fun k => laws_eqGroupS.l0 k l l (i : Int)) true := by
  intro d
  induction d with
  | zero =>
    intro i hi
    refine Ev.step (fun k => by rw [laws_eqGroupS.l0]) ?_
    simp only [if_neg (show ¬ ((i : Int) < (l.length : Int)) by omega)]
    exact Ev.now _
  | succ d ih =>
    intro i hi
    have hlt : i < l.length := by omega
    refine Ev.step (fun k => by rw [laws_eqGroupS.l0]) ?_
    simp only [if_pos (show ((i : Int) < (l.length : Int)) by omega), if_pos (show (0 : Int) ≤ (i : Int) by omega), laws_eqGroup.f, if_true, Option.bind_some, w64 (a := (i : Int) + 1) (by omega) (by omega)]
    exact ih (i + 1) (by omega)
theorem eqGroupS_ev (l : List S53) (hl : l.length ≤ 1048576) : Ev (fun k => laws_eqGroupS.f k l l) true := by
  unfold laws_eqGroupS.f
  simp only [if_true]
  exact eqGroupS_loop l hl l.length 0 (by omega)
end Go.Proofs.Ythlnbbehcpdnfaa.Pu
