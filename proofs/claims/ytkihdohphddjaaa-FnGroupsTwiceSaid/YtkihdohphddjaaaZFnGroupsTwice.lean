/- A text of seat Ytkihdohphddjaaa: what the law FnGroupsTwice needs of this repo's texts (by pack.py). Not trusted: Lean checks it. -/
import Derived.Test.YtkihdohphddjaaaKFnGroupsTwice7
import Derived.Deep.Slices
import Derived.SizedLaws
import Derived.Laws.BitsLemmas
import Derived.Test.YtkihdohphddjaaaRows
import Derived.WalkKit
import Derived.ProofKit
import Derived.OpenShut
import Derived.ShutString
import Derived.ChangeOld
import Derived.Below
import Derived.Lib.SmallJoins
import Derived.ChangeSlices
namespace Go.Proofs.Ytkihdohphddjaaa.Rd
open Go.RowKit Go.Proofs.YtkihdohphddjaaaW.PrintWords
set_option linter.unusedVariables false
section
variable {H : Type} {enc : TypeId × Value → H} {P : Program} {w : World} {base : Nat} {spare : Nat → Bool} {held : Bool}
/-- What a reading of type t gives: a value of the kind, and what is known of it. -/
def Opens (enc : TypeId × Value → H) (P : Program) (w : World) (base : Nat) (spare : Nat → Bool) (held : Bool) {α : Type} (t : TypeId) (d : Kd α) (ok : α → Prop) : Prop :=
  P.cellsOf t = d.sz ∧ ∀ fuel cs x, DataW.trod enc P w base spare held fuel t cs = some x → ∃ v, d.K w v cs ∧ ok v
theorem Opens.imp_ {α : Type} {t : TypeId} {d : Kd α} {ok ok' : α → Prop} (h : Opens enc P w base spare held t d ok) (hi : ∀ v, ok v → ok' v) : Opens enc P w base spare held t d ok' :=
  ⟨h.1, fun fuel cs x hx => by
    obtain ⟨v, hk, ho⟩ := h.2 fuel cs x hx
    exact ⟨v, hk, hi v ho⟩⟩
theorem opens_int {t : TypeId} {k : IntKind} (ht : P.underlying t = some (.int k)) (hc : P.cellsOf t = 1) : Opens enc P w base spare held t (Kd.int k) (fun n => (Lit.int k n).wf = true) := by
  refine ⟨hc, fun fuel cs x h => ?_⟩
  obtain ⟨n, rfl, _, hw⟩ := DataW.trod_int ht h
  exact ⟨n, rfl, hw⟩
theorem cells_len {base : Nat} {a : Addr} {n : Nat} {cs : List Value} (h : w.cells? base a n = some cs) : cs.length = n ∧ ∀ i u, cs[i]? = some u → w.cell? (a.add i) = some u := by
  unfold World.cells? at h
  split at h
  · rename_i hb
    refine ⟨by simpa using mapM_some_length h, fun i u hu => ?_⟩
    have hi : i < n := by
      have := (List.getElem?_eq_some_iff.1 hu).1
      have h2 : cs.length = n := by simpa using mapM_some_length h
      omega
    have := mapM_some_get h i i (by simp [hi])
    rw [hu] at this
    exact this
  · simp at h
theorem opens_row {α : Type} {t e : TypeId} {d : Kd α} {ok : α → Prop} (ht : P.underlying t = some (.slice e)) (hd : Opens enc P w base spare held e d ok) {fuel : Nat} {cs : List Value} {x : DataW H × List MemPlace}
    (h : DataW.trod enc P w base spare held fuel t cs = some x) : ∃ (A : Option Addr) (c : Nat) (xs : List α), cs = [.slice A xs.length c] ∧ xs.length ≤ c ∧ c ≤ maxLen ∧ d.C w A xs.length xs ∧ ∀ y ∈ xs, ok y := by
  rcases Go.Deep.open_slice ht h with ⟨rfl, _⟩ | ⟨a, len, cap, m, n, D, Pl, rfl, hb, hl, hm, hmm, _, hel⟩
  · exact ⟨none, 0, [], rfl, Nat.le_refl _, by unfold maxLen; omega, ⟨rfl, by simp, fun h0 => absurd h0 (by simp)⟩, by simp⟩
  have hlm : len ≤ m := by rw [hmm]; split <;> omega
  have hx : ∀ i, i < len → ∃ y : α, ok y ∧ ∃ c, c.length = d.sz ∧ d.K w y c ∧ ∀ j u, c[j]? = some u → w.cell? (a.add (i * d.sz + j)) = some u := by
    intro i hi
    obtain ⟨cs', h1, h2⟩ := hel i (by omega)
    obtain ⟨y, hk, ho⟩ := hd.2 _ _ _ h2
    obtain ⟨hl', hc'⟩ := cells_len h1
    refine ⟨y, ho, cs', by rw [hl', hd.1], hk, fun j u hu => ?_⟩
    have := hc' j u hu
    rw [Go.Deep.add_add, hd.1] at this
    exact this
  rcases Nat.eq_zero_or_pos len with h0 | h0
  · subst h0
    exact ⟨some a, cap, [], rfl, Nat.zero_le _, hm, ⟨rfl, by simp, fun h1 => absurd h1 (by simp)⟩, by simp⟩
  obtain ⟨y0, _⟩ := hx 0 h0
  haveI : Inhabited α := ⟨y0⟩
  obtain ⟨g, hg⟩ := Go.Deep.choose_lt hx
  have hlen : ((List.range len).map g).length = len := by simp
  refine ⟨some a, cap, (List.range len).map g, by rw [hlen], by rw [hlen]; exact hl, hm, ⟨rfl, by rw [hlen]; unfold maxLen at hm; omega, fun _ => ⟨a, rfl, fun j p hj => ?_⟩⟩, fun y hy => ?_⟩
  · have hj' : j < len := by
      have := (List.getElem?_eq_some_iff.1 hj).1
      omega
    rw [List.getElem?_map, List.getElem?_range hj'] at hj
    simp at hj
    subst hj
    obtain ⟨_, c, hc1, hc2, hc3⟩ := hg j hj'
    exact ⟨c, hc1, hc2, hc3⟩
  · obtain ⟨i, hi, rfl⟩ := List.mem_map.1 hy
    exact (hg i (List.mem_range.1 hi)).1
end
end Go.Proofs.Ytkihdohphddjaaa.Rd

namespace Go.Proofs.Ytkihdohphddjaaa.OFnGroupsTwice
open Go.RowKit Go.Proofs.YtkihdohphddjaaaW.PrintWords Go.Proofs.Ytkihdohphddjaaa.G
set_option linter.unusedVariables false
def Pure : Prop := ∀ (l0 : List Int), l0.length ≤ maxLen → (∀ y ∈ l0, (Lit.int .u8 y).wf = true) → ∃ k, laws_FnGroupsTwice.f k l0 = some true
end Go.Proofs.Ytkihdohphddjaaa.OFnGroupsTwice

namespace Go.Proofs.Ytkihdohphddjaaa.Pu
open Go.RowKit Go.Proofs.YtkihdohphddjaaaW.PrintWords Go.Proofs.YtkihdohphddjaaaW.PrintLast
set_option linter.unusedVariables false
set_option linter.unusedSimpArgs false
theorem w64 {a : Int} (h0 : -9223372036854775808 ≤ a) (h1 : a ≤ 9223372036854775807) : wrap64 a = a := by unfold wrap64; omega
/-- (Not by 'rfl': a large number in a test behind it would be counted up by the kernel.) -/
theorem bindS {α β : Type} (x : α) (f : α → Option β) : (some x).bind f = f x := Eq.trans (Option.bind_some x f) (Eq.refl _)
/-- It ends, in something of which P holds. -/
def EndsIn {α : Type} (g : Nat → Option α) (P : α → Prop) : Prop := ∃ r, Ev g r ∧ P r
theorem EndsIn.bind {α β : Type} {g : Nat → Option α} {f : Nat → α → Option β} {P : α → Prop} {Q : β → Prop} (h : EndsIn g P) (k : ∀ a, P a → EndsIn (fun n => f n a) Q) : EndsIn (fun n => (g n).bind (f n)) Q := by
  obtain ⟨a, ha, hp⟩ := h
  obtain ⟨b, hb, hq⟩ := k a hp
  exact ⟨b, Ev.bind ha hb, hq⟩
theorem EndsIn.step {α : Type} {g f : Nat → Option α} {P : α → Prop} (h : ∀ k, g (k + 1) = f k) (k : EndsIn f P) : EndsIn g P := by
  obtain ⟨a, ha, hp⟩ := k
  exact ⟨a, Ev.step h ha, hp⟩
theorem EndsIn.now {α : Type} {P : α → Prop} (r : α) (hp : P r) : EndsIn (fun _ => some r) P := ⟨r, Ev.now r, hp⟩
theorem EndsIn.mono {α : Type} {g : Nat → Option α} {P Q : α → Prop} (h : EndsIn g P) (k : ∀ a, P a → Q a) : EndsIn g Q := by
  obtain ⟨a, ha, hp⟩ := h
  exact ⟨a, ha, k a hp⟩
theorem EndsIn.ev {α : Type} {g : Nat → Option α} {r : α} (h : EndsIn g (fun x => x = r)) : Ev g r := by
  obtain ⟨a, ha, rfl⟩ := h
  exact ha
theorem EndsIn.rounds {α : Type} {g : Nat → Option α} {r : α} (h : EndsIn g (fun x => x = r)) : ∃ k, g k = some r := h.ev.rounds
/-! bytes -/
theorem bt_get (s : ByteArray) (i : Nat) (h : i < s.size) : bt s (i : Int) = ((s.data.toList[i]'(by simpa using h)).toNat : Int) := by
  unfold bt
  rw [dif_pos (by simpa using h)]
  simp only [Int.toNat_natCast]
  rfl
theorem data_len (s : ByteArray) : s.data.toList.length = s.size := by simp
theorem toList_data (s : ByteArray) : s.toList = s.data.toList := ByteArray.toList_eq s
/-! the order of strings -/
theorem less_irrefl : ∀ (x : List UInt8), Op.bytesLess x x = false
  | [] => rfl
  | a :: x => by
    simp only [Op.bytesLess, beq_self_eq_true, Bool.true_and, less_irrefl x, Bool.or_false, decide_eq_false_iff_not]
    exact UInt8.lt_irrefl a
theorem less_trans : ∀ (x y z : List UInt8), Op.bytesLess x y = true → Op.bytesLess y z = true → Op.bytesLess x z = true
  | [], [], _, h, _ => by simp [Op.bytesLess] at h
  | [], _ :: _, [], _, h => by simp [Op.bytesLess] at h
  | [], _ :: _, _ :: _, _, _ => rfl
  | _ :: _, [], _, h, _ => by simp [Op.bytesLess] at h
  | _ :: _, _ :: _, [], _, h => by simp [Op.bytesLess] at h
  | a :: x, b :: y, c :: z, h, k => by
    simp only [Op.bytesLess, Bool.or_eq_true, decide_eq_true_eq, Bool.and_eq_true, beq_iff_eq] at h k ⊢
    rcases h with h | ⟨rfl, h⟩
    · rcases k with k | ⟨rfl, k⟩
      · exact .inl (UInt8.lt_trans h k)
      · exact .inl h
    · rcases k with k | ⟨rfl, k⟩
      · exact .inl k
      · exact .inr ⟨rfl, less_trans x y z h k⟩
theorem less_total : ∀ (x y : List UInt8), Op.bytesLess x y = true ∨ x = y ∨ Op.bytesLess y x = true
  | [], [] => .inr (.inl rfl)
  | [], _ :: _ => .inl rfl
  | _ :: _, [] => .inr (.inr rfl)
  | a :: x, b :: y => by
    simp only [Op.bytesLess, Bool.or_eq_true, decide_eq_true_eq, Bool.and_eq_true, beq_iff_eq]
    rcases Nat.lt_trichotomy a.toNat b.toNat with h | h | h
    · exact .inl (.inl (UInt8.lt_iff_toNat_lt.2 h))
    · obtain rfl : a = b := UInt8.toNat_inj.1 h
      rcases less_total x y with h | h | h
      · exact .inl (.inr ⟨rfl, h⟩)
      · exact .inr (.inl (by rw [h]))
      · exact .inr (.inr (.inr ⟨rfl, h⟩))
    · exact .inr (.inr (.inl (UInt8.lt_iff_toNat_lt.2 h)))
theorem u8_range {x : Int} (h : (Lit.int .u8 x).wf = true) : 0 ≤ x ∧ x ≤ 255 := by
  simp only [Lit.wf, Bool.and_eq_true, decide_eq_true_eq] at h
  exact ⟨h.1, h.2⟩
end Go.Proofs.Ytkihdohphddjaaa.Pu

namespace Go.Proofs.Ytkihdohphddjaaa.Pu
open Go.RowKit Go.Proofs.YtkihdohphddjaaaW.PrintWords Go.Proofs.YtkihdohphddjaaaW.PrintLast Go.Proofs.Ytkihdohphddjaaa.G
set_option linter.unusedVariables false
set_option linter.unusedSimpArgs false
def low (c : UInt8) : Bool := decide (97 ≤ c.toNat) && decide (c.toNat ≤ 122)
def word (s : ByteArray) (most : Int) : Bool := (decide (1 ≤ s.size) && decide ((s.size : Int) ≤ most)) && s.data.toList.all low
def gOk (g : S25) : Bool := word g.f0 6 && (decide (0 ≤ g.f1) && decide (g.f1 ≤ 100000))
theorem drop_cons_get {α : Type} (l : List α) (i : Nat) (h : i < l.length) : l.drop i = l[i] :: l.drop (i + 1) := by simp
theorem bt_low (s : ByteArray) (i : Nat) (h : i < s.size) : low (s.data.toList[i]'(by simpa using h)) = (decide (¬ bt s (i : Int) < 97) && decide (¬ bt s (i : Int) > 122)) := by
  rw [bt_get s i h]
  unfold low
  congr 1
  · simp only [decide_eq_decide]; omega
  · simp only [decide_eq_decide]; omega
theorem letters_loop (s : ByteArray) (hs : s.size ≤ 9223372036854775807) : ∀ d i, s.size - i = d → Ev (fun k => impl_letters.l0 k s (s.size : Int) (i : Int)) ((s.data.toList.drop i).all low) := by
  intro d
  induction d with
  | zero =>
    intro i hi
    refine Ev.step (fun k => by rw [impl_letters.l0]) ?_
    rw [List.drop_of_length_le (by rw [data_len]; omega)]
    simp only [if_neg (show ¬ ((i : Int) < (s.size : Int)) by omega)]
    exact Ev.now _
  | succ d ih =>
    intro i hi
    have hlt : i < s.size := by omega
    refine Ev.step (fun k => by rw [impl_letters.l0]) ?_
    simp only [if_pos (show ((i : Int) < (s.size : Int)) by omega), if_pos (show (0 : Int) ≤ (i : Int) by omega)]
    rw [drop_cons_get _ i (by rw [data_len]; exact hlt), List.all_cons, bt_low s i hlt]
    by_cases h1 : bt s (i : Int) < 97
    · simp only [if_pos h1, h1]
      exact Ev.now _
    · by_cases h2 : bt s (i : Int) > 122
      · simp only [if_neg h1, if_pos h2, h1, h2]
        exact Ev.now _
      · simp only [if_neg h1, if_neg h2, w64 (a := (i : Int) + 1) (by omega) (by omega)]
        have := ih (i + 1) (by omega)
        simpa [h1, h2] using this
theorem letters_ev (s : ByteArray) (most : Int) (hs : s.size ≤ 9223372036854775807) : Ev (fun k => impl_letters.f k s most) (word s most) := by
  unfold impl_letters.f word
  by_cases h0 : (s.size : Int) < 1
  · simp only [if_pos h0]
    refine Ev.step (fun k => by rw [impl_letters.j0]) ?_
    rw [show decide (1 ≤ s.size) = false from decide_eq_false (by omega)]
    exact Ev.now _
  · simp only [if_neg h0]
    refine Ev.step (fun k => by rw [impl_letters.j0]) ?_
    rw [show decide (1 ≤ s.size) = true from decide_eq_true (by omega)]
    by_cases h1 : (s.size : Int) > most
    · simp only [h1, decide_true, if_true]
      rw [show decide ((s.size : Int) ≤ most) = false from decide_eq_false (by omega)]
      exact Ev.now _
    · simp only [h1, decide_false]
      rw [show decide ((s.size : Int) ≤ most) = true from decide_eq_true (by omega)]
      have := letters_loop s hs s.size 0 (by omega)
      simpa using this
theorem groupValid_ev (g : S25) (hs : g.f0.size ≤ 9223372036854775807) : Ev (fun k => impl_groupValid.f k g.f0 g.f1) (gOk g) := by
  unfold impl_groupValid.f gOk
  refine Ev.bind (letters_ev _ _ hs) ?_
  cases word g.f0 6
  · exact Ev.now _
  · simp only [if_true]
    unfold impl_within.f
    by_cases h : g.f1 ≥ 0
    · simp only [if_pos h, Option.bind_some]
      rw [show decide (0 ≤ g.f1) = true from decide_eq_true h]
      exact Ev.now _
    · simp only [if_neg h, Option.bind_some]
      rw [show decide (0 ≤ g.f1) = false from decide_eq_false h]
      exact Ev.now _
theorem l6In_some (a b c : Int) : spec_l6In.f a b c = some (decide (b ≤ a) && decide (a ≤ c)) := by
  unfold spec_l6In.f
  by_cases h : a ≥ b
  · rw [if_pos h, show decide (b ≤ a) = true from decide_eq_true h]; rfl
  · rw [if_neg h, show decide (b ≤ a) = false from decide_eq_false h]; rfl
theorem group_loop (g : S25) (hs : g.f0.size ≤ 9223372036854775807) : ∀ d i, g.f0.size - i = d → Ev (fun k => spec_l32Group.l0 k (i : Int) g.f0 g.f1) ((g.f0.data.toList.drop i).all low && ((decide (1 ≤ g.f0.size) && decide ((g.f0.size : Int) ≤ 6)) && (decide (0 ≤ g.f1) && decide (g.f1 ≤ 100000)))) := by
  intro d
  induction d with
  | zero =>
    intro i hi
    refine Ev.step (fun k => by rw [spec_l32Group.l0]) ?_
    rw [List.drop_of_length_le (by rw [data_len]; omega)]
    simp only [if_neg (show ¬ ((i : Int) < (g.f0.size : Int)) by omega), l6In_some, Option.bind_some]
    rw [show decide ((1 : Int) ≤ (g.f0.size : Int)) = decide (1 ≤ g.f0.size) from decide_eq_decide.2 (by omega)]
    cases (decide (1 ≤ g.f0.size) && decide ((g.f0.size : Int) ≤ 6))
    · exact Ev.now _
    · exact Ev.now _
  | succ d ih =>
    intro i hi
    have hlt : i < g.f0.size := by omega
    refine Ev.step (fun k => by rw [spec_l32Group.l0]) ?_
    simp only [if_pos (show ((i : Int) < (g.f0.size : Int)) by omega), if_pos (show (0 : Int) ≤ (i : Int) by omega)]
    rw [drop_cons_get _ i (by rw [data_len]; exact hlt), List.all_cons, bt_low g.f0 i hlt]
    by_cases h1 : bt g.f0 (i : Int) < 97
    · simp only [if_pos h1, h1]
      exact Ev.now _
    · by_cases h2 : bt g.f0 (i : Int) > 122
      · simp only [if_neg h1, if_pos h2, h1, h2]
        exact Ev.now _
      · simp only [if_neg h1, if_neg h2, w64 (a := (i : Int) + 1) (by omega) (by omega)]
        have := ih (i + 1) (by omega)
        simpa [h1, h2] using this
theorem l32Group_ev (g : S25) (hs : g.f0.size ≤ 9223372036854775807) : Ev (fun k => spec_l32Group.f k g.f0 g.f1) (gOk g) := by
  have := group_loop g hs g.f0.size 0 (by omega)
  unfold spec_l32Group.f gOk word
  rw [List.drop_zero] at this
  have e : ∀ a b c : Bool, (a && (b && c)) = ((b && a) && c) := by decide
  rw [e] at this
  exact this
/-- Valid from place i on, each behind the one ahead of it. -/
def gsFrom (prev : Option S25) : List S25 → Bool
  | [] => true
  | g :: l => gOk g && ((match prev with | none => true | some p => Op.bytesLess p.f0.toList g.f0.toList) && gsFrom (some g) l)
def gsOk (l : List S25) : Bool := gsFrom none l && decide (l.length ≤ 8)
theorem rd_nat (l : List S25) (i : Nat) (h : i < l.length) : rd_T25 l (i : Int) = l[i] := by
  unfold rd_T25
  simp [h]
def prevOf (l : List S25) (i : Nat) : Option S25 := if i = 0 then none else l[i - 1]?
theorem valid_loop (l : List S25) (hl : l.length ≤ 9223372036854775807) (hs : ∀ g ∈ l, g.f0.size ≤ 9223372036854775807) : ∀ d i, l.length - i = d → Ev (fun k => impl_GroupsValid.l0 k l l (l.length : Int) (i : Int)) (gsFrom (prevOf l i) (l.drop i)) := by
  intro d
  induction d with
  | zero =>
    intro i hi
    refine Ev.step (fun k => by rw [impl_GroupsValid.l0]) ?_
    rw [List.drop_of_length_le (by omega)]
    simp only [if_neg (show ¬ ((i : Int) < (l.length : Int)) by omega)]
    exact Ev.now _
  | succ d ih =>
    intro i hi
    have hlt : i < l.length := by omega
    refine Ev.step (fun k => by rw [impl_GroupsValid.l0]) ?_
    simp only [if_pos (show ((i : Int) < (l.length : Int)) by omega), if_pos (show (0 : Int) ≤ (i : Int) by omega)]
    rw [drop_cons_get _ i hlt, rd_nat l i hlt]
    refine Ev.bind (groupValid_ev _ (hs _ (List.getElem_mem _))) ?_
    unfold gsFrom
    have hn := ih (i + 1) (by omega)
    rw [show prevOf l (i + 1) = some l[i] by unfold prevOf; simp [hlt]] at hn
    cases gOk l[i]
    · exact Ev.now _
    · simp only [if_true, Bool.true_and, w64 (a := (i : Int) + 1) (by omega) (by omega)]
      rcases Nat.eq_zero_or_pos i with h0 | h0
      · subst h0
        simp only [if_neg (show ¬ (((0 : Nat) : Int) > 0) by omega)]
        unfold prevOf
        simpa using hn
      · have hp : prevOf l i = some l[i - 1] := by
          unfold prevOf
          rw [if_neg (by omega)]
          simp [show i - 1 < l.length by omega]
        rw [hp]
        simp only [if_pos (show ((i : Int) > 0) by omega), w64 (a := (i : Int) - 1) (by omega) (by omega), if_pos (show (0 : Int) ≤ (i : Int) - 1 by omega), if_pos (show ((i : Int) - 1) < (l.length : Int) by omega)]
        rw [show ((i : Int) - 1) = ((i - 1 : Nat) : Int) by omega, rd_nat l (i - 1) (by omega)]
        cases Op.bytesLess l[i - 1].f0.toList l[i].f0.toList
        · exact Ev.now _
        · simpa using hn
theorem valid_ev (l : List S25) (hl : l.length ≤ 9223372036854775807) (hs : ∀ g ∈ l, g.f0.size ≤ 9223372036854775807) : Ev (fun k => impl_GroupsValid.f k l) (gsOk l) := by
  unfold impl_GroupsValid.f gsOk
  by_cases h : (l.length : Int) > 8
  · simp only [if_pos h]
    rw [show decide (l.length ≤ 8) = false from decide_eq_false (by omega), Bool.and_false]
    exact Ev.now _
  · simp only [if_neg h]
    rw [show decide (l.length ≤ 8) = true from decide_eq_true (by omega), Bool.and_true]
    have := valid_loop l hl hs l.length 0 (by omega)
    simpa [prevOf] using this
theorem svalid_loop (l : List S25) (hl : l.length ≤ 9223372036854775807) (hs : ∀ g ∈ l, g.f0.size ≤ 9223372036854775807) : ∀ d i, l.length - i = d → Ev (fun k => spec_GroupsValid.l0 k l (i : Int)) (gsFrom (prevOf l i) (l.drop i) && decide (l.length ≤ 8)) := by
  intro d
  induction d with
  | zero =>
    intro i hi
    refine Ev.step (fun k => by rw [spec_GroupsValid.l0]) ?_
    rw [List.drop_of_length_le (by omega)]
    simp only [if_neg (show ¬ ((i : Int) < (l.length : Int)) by omega)]
    rw [show decide ((l.length : Int) ≤ 8) = decide (l.length ≤ 8) from decide_eq_decide.2 (by omega)]
    exact Ev.now _
  | succ d ih =>
    intro i hi
    have hlt : i < l.length := by omega
    refine Ev.step (fun k => by rw [spec_GroupsValid.l0]) ?_
    simp only [if_pos (show ((i : Int) < (l.length : Int)) by omega), if_pos (show (0 : Int) ≤ (i : Int) by omega)]
    rw [drop_cons_get _ i hlt, rd_nat l i hlt]
    refine Ev.bind (l32Group_ev _ (hs _ (List.getElem_mem _))) ?_
    unfold gsFrom
    have hn := ih (i + 1) (by omega)
    rw [show prevOf l (i + 1) = some l[i] by unfold prevOf; simp [hlt]] at hn
    cases gOk l[i]
    · exact Ev.now _
    · simp only [if_true, Bool.true_and, w64 (a := (i : Int) + 1) (by omega) (by omega)]
      rcases Nat.eq_zero_or_pos i with h0 | h0
      · subst h0
        simp only [if_neg (show ¬ (((0 : Nat) : Int) > 0) by omega)]
        unfold prevOf
        simpa using hn
      · have hp : prevOf l i = some l[i - 1] := by
          unfold prevOf
          rw [if_neg (by omega)]
          simp [show i - 1 < l.length by omega]
        rw [hp]
        simp only [if_pos (show ((i : Int) > 0) by omega), w64 (a := (i : Int) - 1) (by omega) (by omega), if_pos (show (0 : Int) ≤ (i : Int) - 1 by omega), if_pos (show ((i : Int) - 1) < (l.length : Int) by omega)]
        rw [show ((i : Int) - 1) = ((i - 1 : Nat) : Int) by omega, rd_nat l (i - 1) (by omega)]
        cases Op.bytesLess l[i - 1].f0.toList l[i].f0.toList
        · exact Ev.now _
        · simpa using hn
theorem svalid_ev (l : List S25) (hl : l.length ≤ 9223372036854775807) (hs : ∀ g ∈ l, g.f0.size ≤ 9223372036854775807) : Ev (fun k => spec_GroupsValid.f k l) (gsOk l) := by
  unfold spec_GroupsValid.f gsOk
  have := svalid_loop l hl hs l.length 0 (by omega)
  simpa [prevOf] using this
end Go.Proofs.Ytkihdohphddjaaa.Pu

namespace Go.Proofs.Ytkihdohphddjaaa.Pu
open Go.RowKit Go.Proofs.YtkihdohphddjaaaW.PrintWords Go.Proofs.YtkihdohphddjaaaW.PrintLast Go.Proofs.Ytkihdohphddjaaa.G
set_option linter.unusedVariables false
set_option linter.unusedSimpArgs false
def putG (g : S25) : List S25 → List S25
  | [] => [g]
  | x :: xs => if Op.bytesLess x.f0.toList g.f0.toList = true then x :: putG g xs else g :: (x :: xs).filter (fun y => decide (y.f0.toList ≠ g.f0.toList))
def fin8 (l : List S25) : List S25 × Bool := if l.length > 8 then ([], false) else (l, true)
def gPut (l : List S25) (g : S25) : List S25 × Bool := if (gsOk l && gOk g) = true then fin8 (putG g l) else ([], false)
theorem fin8_if (l : List S25) : (if (l.length : Int) > 8 then (some ((([] : List S25)), false)) else (some (l, true))) = some (fin8 l) := by
  unfold fin8
  by_cases h : l.length > 8
  · rw [if_pos (show (l.length : Int) > 8 by omega), if_pos h]
  · rw [if_neg (show ¬ (l.length : Int) > 8 by omega), if_neg h]
theorem put_done (l : List S25) (g : S25) (hl : l.length ≤ 1048576) : ∀ d i (out : List S25), l.length - i = d → out.length ≤ i + 1 →
    Ev (fun k => spec_GroupsPut.l0 k l out true (i : Int) g.f0 g.f1) (fin8 (out ++ (l.drop i).filter (fun y => decide (y.f0.toList ≠ g.f0.toList)))) := by
  intro d
  induction d with
  | zero =>
    intro i out hi ho
    refine Ev.step (fun k => by rw [spec_GroupsPut.l0]) ?_
    simp only [if_neg (show ¬ ((i : Int) < (l.length : Int)) by omega), if_true]
    rw [List.drop_of_length_le (by omega)]
    simp only [List.filter_nil, List.append_nil, fin8_if]
    exact Ev.now _
  | succ d ih =>
    intro i out hi ho
    have hlt : i < l.length := by omega
    refine Ev.step (fun k => by rw [spec_GroupsPut.l0]) ?_
    simp only [if_pos (show ((i : Int) < (l.length : Int)) by omega), if_true]
    refine Ev.step (fun k => by rw [spec_GroupsPut.j2]) ?_
    simp only [Bool.false_eq_true, if_false, if_pos (show (0 : Int) ≤ (i : Int) by omega), if_pos (show ((i : Int) < (l.length : Int)) by omega), rd_nat l i hlt, w64 (a := (i : Int) + 1) (by omega) (by omega)]
    rw [drop_cons_get l i hlt, List.filter_cons]
    by_cases h : l[i].f0.toList = g.f0.toList
    · simp only [h, if_true, ne_eq, not_true_eq_false, decide_false, Bool.false_eq_true, if_false]
      exact ih (i + 1) out (by omega) (by omega)
    · simp only [if_neg h, ne_eq, h, not_false_eq_true, decide_true, if_true, if_pos (show out.length < 5864062014805 by omega)]
      have := ih (i + 1) (out ++ [l[i]]) (by omega) (by simp; omega)
      simp only [List.append_assoc, List.cons_append, List.nil_append] at this
      exact this
theorem put_not (l : List S25) (g : S25) (hl : l.length ≤ 1048576) : ∀ d i (out : List S25), l.length - i = d → i ≤ l.length → out.length ≤ i →
    Ev (fun k => spec_GroupsPut.l0 k l out false (i : Int) g.f0 g.f1) (fin8 (out ++ putG g (l.drop i))) := by
  intro d
  induction d with
  | zero =>
    intro i out hi hle ho
    refine Ev.step (fun k => by rw [spec_GroupsPut.l0]) ?_
    simp only [if_neg (show ¬ ((i : Int) < (l.length : Int)) by omega), Bool.false_eq_true, if_false]
    rw [List.drop_of_length_le (by omega)]
    have hlim : out.length < 5864062014805 := by omega
    simp only [if_pos hlim, Option.bind_some, fin8_if, putG]
    exact Ev.now _
  | succ d ih =>
    intro i out hi hle ho
    have hlt : i < l.length := by omega
    refine Ev.step (fun k => by rw [spec_GroupsPut.l0]) ?_
    simp only [if_pos (show ((i : Int) < (l.length : Int)) by omega), Bool.false_eq_true, if_false, if_pos (show (0 : Int) ≤ (i : Int) by omega), rd_nat l i hlt]
    refine Ev.step (fun k => by rw [spec_GroupsPut.j2]) ?_
    rw [drop_cons_get l i hlt]
    simp only [if_pos (show (0 : Int) ≤ (i : Int) by omega), if_pos (show ((i : Int) < (l.length : Int)) by omega), rd_nat l i hlt, w64 (a := (i : Int) + 1) (by omega) (by omega), putG]
    by_cases h : Op.bytesLess l[i].f0.toList g.f0.toList = true
    · have hne : ¬ l[i].f0.toList = g.f0.toList := by
        intro e
        rw [e, less_irrefl] at h
        exact absurd h (by simp)
      simp only [h, Bool.not_true, Bool.false_eq_true, if_false, if_neg hne, if_true, if_pos (show out.length < 5864062014805 by omega)]
      have := ih (i + 1) (out ++ [l[i]]) (by omega) (by omega) (by simp; omega)
      simp only [List.append_assoc, List.cons_append, List.nil_append] at this
      exact this
    · simp only [h, Bool.not_false, if_true, if_false, if_pos (show out.length < 5864062014805 by omega), Option.bind_some, Bool.false_eq_true]
      rw [List.filter_cons]
      by_cases he : l[i].f0.toList = g.f0.toList
      · simp only [he, if_true, ne_eq, not_true_eq_false, decide_false, Bool.false_eq_true, if_false]
        have := put_done l g hl (l.length - (i + 1)) (i + 1) (out ++ [g]) rfl (by simp; omega)
        simp only [List.append_assoc, List.cons_append, List.nil_append, ne_eq] at this
        exact this
      · simp only [ne_eq, he, if_false, not_false_eq_true, decide_true, if_true, if_pos (show (out ++ [g]).length < 5864062014805 by simp; omega)]
        have := put_done l g hl (l.length - (i + 1)) (i + 1) (out ++ [g] ++ [l[i]]) rfl (by simp; omega)
        have e : ∀ F : List S25, (out ++ [g] ++ [l[i]]) ++ F = out ++ (g :: l[i] :: F) := by intro F; simp
        rw [e] at this
        simp only [ne_eq] at this
        exact this
theorem gPut_ev (l : List S25) (g : S25) (hl : l.length ≤ 1048576) (hs : ∀ x ∈ l, x.f0.size ≤ 9223372036854775807) (hg : g.f0.size ≤ 9223372036854775807) :
    Ev (fun k => spec_GroupsPut.f k l g.f0 g.f1) (gPut l g) := by
  unfold spec_GroupsPut.f gPut
  refine Ev.bind (svalid_ev l (by omega) hs) ?_
  cases gsOk l
  · simp only [Bool.false_eq_true, if_false, Bool.false_and]
    refine Ev.step (fun k => by rw [spec_GroupsPut.j0]) ?_
    simp only [if_true]
    exact Ev.now _
  · simp only [if_true, Bool.true_and]
    refine Ev.bind (l32Group_ev g hg) ?_
    refine Ev.step (fun k => by rw [spec_GroupsPut.j0]) ?_
    cases gOk g
    · simp only [Bool.not_false, if_true, Bool.false_eq_true, if_false]
      exact Ev.now _
    · simp only [Bool.not_true, Bool.false_eq_true, if_false, if_true]
      have := put_not l g hl l.length 0 [] (by omega) (by omega) (by simp)
      simpa using this
theorem putG_mem (g : S25) : ∀ (l : List S25) x, x ∈ putG g l → x = g ∨ x ∈ l
  | [], x, h => by simp [putG] at h; exact .inl h
  | y :: ys, x, h => by
    unfold putG at h
    split at h
    · rcases List.mem_cons.1 h with rfl | h
      · exact .inr (by simp)
      · rcases putG_mem g ys x h with h | h
        · exact .inl h
        · exact .inr (by simp [h])
    · rcases List.mem_cons.1 h with rfl | h
      · exact .inl rfl
      · exact .inr ((List.mem_filter.1 h).1)
theorem gPut_mem {l : List S25} {g : S25} {x : S25} (h : x ∈ (gPut l g).1) : x = g ∨ x ∈ l := by
  unfold gPut at h
  split at h
  · unfold fin8 at h
    split at h
    · simp at h
    · exact putG_mem g l x h
  · simp at h
theorem gPut_len (l : List S25) (g : S25) : (gPut l g).1.length ≤ 8 := by
  unfold gPut
  split
  · unfold fin8
    split
    · simp
    · rename_i h
      simpa using h
  · simp
end Go.Proofs.Ytkihdohphddjaaa.Pu

namespace Go.Proofs.Ytkihdohphddjaaa.Pu
open Go.RowKit Go.Proofs.YtkihdohphddjaaaW.PrintWords Go.Proofs.YtkihdohphddjaaaW.PrintLast Go.Proofs.Ytkihdohphddjaaa.G
set_option linter.unusedVariables false
set_option linter.unusedSimpArgs false
theorem cmp_lt : ∀ x y : List UInt8, Lib.compareBytes x y < 0 ↔ Op.bytesLess x y = true
  | [], [] => by simp [Lib.compareBytes, Op.bytesLess]
  | [], _ :: _ => by simp [Lib.compareBytes, Op.bytesLess]
  | _ :: _, [] => by simp [Lib.compareBytes, Op.bytesLess]
  | a :: x, b :: y => by
    have ih := cmp_lt x y
    simp only [Lib.compareBytes, Op.bytesLess, Bool.or_eq_true, decide_eq_true_eq, Bool.and_eq_true, beq_iff_eq]
    by_cases h1 : a < b
    · simp [h1]
    · by_cases h2 : b < a
      · have : a ≠ b := fun e => by subst e; exact h1 h2
        simp [h1, h2, this]
      · have : a = b := UInt8.le_antisymm (UInt8.not_lt.1 h2) (UInt8.not_lt.1 h1)
        simp [h1, h2, this, ih]
theorem cmp_eq : ∀ x y : List UInt8, Lib.compareBytes x y = 0 ↔ x = y
  | [], [] => by simp [Lib.compareBytes]
  | [], _ :: _ => by simp [Lib.compareBytes]
  | _ :: _, [] => by simp [Lib.compareBytes]
  | a :: x, b :: y => by
    have ih := cmp_eq x y
    simp only [Lib.compareBytes, List.cons.injEq]
    by_cases h1 : a < b
    · have : a ≠ b := fun e => by subst e; exact absurd h1 (UInt8.lt_irrefl a)
      simp [h1, this]
    · by_cases h2 : b < a
      · have : a ≠ b := fun e => by subst e; exact h1 h2
        simp [h1, h2, this]
      · have : a = b := UInt8.le_antisymm (UInt8.not_lt.1 h2) (UInt8.not_lt.1 h1)
        simp [h1, h2, this, ih]
def nameLt (g x : S25) : Bool := Op.bytesLess x.f0.toList g.f0.toList
def cnt (g : S25) : List S25 → Nat
  | [] => 0
  | x :: l => if nameLt g x = true then cnt g l + 1 else 0
def hit (g : S25) : List S25 → Bool
  | [] => false
  | x :: l => if nameLt g x = true then hit g l else decide (x.f0.toList = g.f0.toList)
theorem cnt_le (g : S25) : ∀ l, cnt g l ≤ l.length
  | [] => Nat.le_refl _
  | x :: l => by
    have := cnt_le g l
    unfold cnt
    split <;> simp <;> omega
theorem cnt_lo (g : S25) : ∀ (l : List S25) (m : Nat) (h : m < l.length), m < cnt g l → nameLt g l[m] = true
  | [], m, h, _ => absurd h (by simp)
  | x :: l, m, h, hm => by
    unfold cnt at hm
    split at hm
    · rename_i hx
      cases m with
      | zero => exact hx
      | succ m => exact cnt_lo g l m (by simpa using h) (by omega)
    · omega
theorem gs_lt : ∀ (l : List S25) (x : S25), gsFrom (some x) l = true → ∀ y ∈ l, Op.bytesLess x.f0.toList y.f0.toList = true
  | [], _, _, y, hy => absurd hy (by simp)
  | z :: l, x, h, y, hy => by
    unfold gsFrom at h
    simp only [Bool.and_eq_true] at h
    rcases List.mem_cons.1 hy with rfl | hy
    · exact h.2.1
    · exact less_trans _ _ _ h.2.1 (gs_lt l z h.2.2 y hy)
theorem gs_tail {p : Option S25} {x : S25} {l : List S25} (h : gsFrom p (x :: l) = true) : gsFrom (some x) l = true := by
  unfold gsFrom at h
  simp only [Bool.and_eq_true] at h
  exact h.2.2
theorem cnt_hi (g : S25) : ∀ (l : List S25) (p : Option S25), gsFrom p l = true → ∀ (m : Nat) (h : m < l.length), cnt g l ≤ m → nameLt g l[m] = false
  | [], _, _, m, h, _ => absurd h (by simp)
  | x :: l, p, hs, m, h, hm => by
    unfold cnt at hm
    split at hm
    · cases m with
      | zero => omega
      | succ m => exact cnt_hi g l (some x) (gs_tail hs) m (by simpa using h) (by omega)
    · rename_i hx
      cases m with
      | zero => simpa using hx
      | succ m =>
        have h1 := gs_lt l x (gs_tail hs) (l[m]'(by simpa using h)) (List.getElem_mem _)
        show Op.bytesLess (l[m]'(by simpa using h)).f0.toList g.f0.toList = false
        cases hb : Op.bytesLess (l[m]'(by simpa using h)).f0.toList g.f0.toList with
        | false => rfl
        | true => exact absurd (less_trans _ _ _ h1 hb) hx
theorem hit_at (g : S25) : ∀ (l : List S25) (h : cnt g l < l.length), hit g l = decide ((l[cnt g l]'h).f0.toList = g.f0.toList)
  | [], h => absurd h (by simp)
  | x :: l, h => by
    by_cases hx : nameLt g x = true
    · have e : cnt g (x :: l) = cnt g l + 1 := by rw [cnt, if_pos hx]
      have h' : cnt g l < l.length := by rw [e] at h; simpa using h
      rw [hit, if_pos hx, hit_at g l h']
      simp only [e, List.getElem_cons_succ]
    · have e : cnt g (x :: l) = 0 := by rw [cnt, if_neg hx]
      rw [hit, if_neg hx]
      simp only [e, List.getElem_cons_zero]
theorem hit_end (g : S25) : ∀ (l : List S25), cnt g l = l.length → hit g l = false
  | [], _ => rfl
  | x :: l, h => by
    unfold cnt at h
    split at h
    · rename_i hx
      rw [hit, if_pos hx]
      exact hit_end g l (by simpa using h)
    · simp at h
theorem put1_some (a : ByteArray) (b : Int) (c : ByteArray) (d : Int) : impl_members_put_1.f a b c d = some (Lib.compareBytes a.toList c.toList) := by
  unfold impl_members_put_1.f strings_Compare.f
  rw [toList_data, toList_data]
  rfl
theorem bs_loop (l : List S25) (g : S25) (hl : l.length ≤ 1048576) (hs : gsFrom none l = true) : ∀ d i j, j - i = d → i ≤ cnt g l → cnt g l ≤ j → j ≤ l.length →
    Ev (fun k => impl_Group_46.l0 k l (l.length : Int) (i : Int) (j : Int) g.f0 g.f1) ((cnt g l : Nat), hit g l) := by
  intro d
  induction d using Nat.strongRecOn with
  | ind d ih =>
    intro i j hd hi hj hjl
    refine Ev.step (fun k => by rw [impl_Group_46.l0]) ?_
    rcases Nat.lt_or_ge i j with hij | hij
    · have hh : wrap64 ((IntKind.u64.wrap (wrap64 ((i : Int) + (j : Int)))) / 2) = (((i + j) / 2 : Nat) : Int) := by
        rw [w64 (a := (i : Int) + (j : Int)) (by omega) (by omega)]
        have e : IntKind.u64.wrap ((i : Int) + (j : Int)) = (i : Int) + (j : Int) := by
          simp only [IntKind.wrap, IntKind.bits, IntKind.signed]
          first | omega | (simp; omega)
        rw [e, w64 (by omega) (by omega)]
        omega
      obtain ⟨h, hhe⟩ : ∃ h, h = (i + j) / 2 := ⟨_, rfl⟩
      rw [← hhe] at hh
      have hlt : h < l.length := by omega
      simp only [if_pos (show (i : Int) < (j : Int) by omega), hh, if_pos (show (0 : Int) ≤ (h : Int) by omega), if_pos (show (h : Int) < (l.length : Int) by omega), rd_nat l h hlt, put1_some, Option.bind_some, w64 (a := (h : Int) + 1) (by omega) (by omega)]
      by_cases hc : Lib.compareBytes l[h].f0.toList g.f0.toList < 0
      · simp only [if_pos hc]
        have hn : nameLt g l[h] = true := (cmp_lt _ _).1 hc
        have hcl : h < cnt g l := by
          rcases Nat.lt_or_ge h (cnt g l) with h9 | h9
          · exact h9
          · rw [cnt_hi g l none hs h hlt h9] at hn
            exact absurd hn (by simp)
        exact ih (j - (h + 1)) (by omega) (h + 1) j rfl (by omega) hj hjl
      · simp only [if_neg hc]
        have hcl : cnt g l ≤ h := by
          rcases Nat.lt_or_ge h (cnt g l) with h9 | h9
          · exact absurd ((cmp_lt _ _).2 (cnt_lo g l h hlt h9)) hc
          · exact h9
        exact ih (h - i) (by omega) i h rfl hi hcl (by omega)
    · obtain rfl : i = cnt g l := by omega
      simp only [if_neg (show ¬ ((cnt g l : Nat) : Int) < (j : Int) by omega)]
      rcases Nat.lt_or_ge (cnt g l) l.length with hlt | hge
      · simp only [if_pos (show ((cnt g l : Nat) : Int) < (l.length : Int) by omega), if_pos (show (0 : Int) ≤ ((cnt g l : Nat) : Int) by omega), rd_nat l _ hlt, put1_some, Option.bind_some]
        have e : (Lib.compareBytes (l[cnt g l]'hlt).f0.toList g.f0.toList == 0) = hit g l := by
          rw [hit_at g l hlt, Bool.eq_iff_iff, beq_iff_eq, decide_eq_true_eq]
          exact cmp_eq _ _
        rw [e]
        exact Ev.now _
      · simp only [if_neg (show ¬ ((cnt g l : Nat) : Int) < (l.length : Int) by omega)]
        rw [hit_end g l (by have := cnt_le g l; omega)]
        exact Ev.now _
theorem bsG_ev (l : List S25) (g : S25) (hl : l.length ≤ 1048576) (hs : gsFrom none l = true) : Ev (fun k => bsG k l g) ((cnt g l : Nat), hit g l) := by
  unfold bsG impl_Group_46.f
  exact bs_loop l g hl hs l.length 0 l.length (by omega) (by omega) (cnt_le g l) (Nat.le_refl _)
theorem putL_eq (g : S25) : ∀ (l : List S25) (p : Option S25), gsFrom p l = true → putL l g ((cnt g l : Nat) : Int) (hit g l) = putG g l
  | [], _, _ => by simp [putL, hit, cnt, insL, putG]
  | x :: l, p, hs => by
    have ih := putL_eq g l (some x) (gs_tail hs)
    have hlt := gs_lt l x (gs_tail hs)
    by_cases hx : nameLt g x = true
    · rw [cnt, if_pos hx, hit, if_pos hx, putG, if_pos (show Op.bytesLess x.f0.toList g.f0.toList = true from hx), ← ih]
      unfold putL
      cases hit g l
      · simp [insL]
      · simp
    · rw [cnt, if_neg hx, hit, if_neg hx, putG, if_neg (show ¬ Op.bytesLess x.f0.toList g.f0.toList = true from hx)]
      have hne : ∀ y ∈ l, ¬ y.f0.toList = g.f0.toList := by
        intro y hy e
        have := hlt y hy
        rw [e] at this
        exact hx this
      have hf : l.filter (fun y => decide (y.f0.toList ≠ g.f0.toList)) = l := List.filter_eq_self.2 (fun y hy => by simpa using hne y hy)
      rw [List.filter_cons, hf]
      by_cases he : x.f0.toList = g.f0.toList
      · simp [he, putL]
      · simp [he, putL, insL]
theorem putR_fin (l : List S25) : putR l = fin8 l := by
  unfold putR fin8
  rfl
theorem gPutI_ev (l : List S25) (g : S25) (hl : l.length ≤ 1048576) (hs : ∀ x ∈ l, x.f0.size ≤ 9223372036854775807) (hg : g.f0.size ≤ 9223372036854775807) :
    Ev (fun k => impl_GroupsPut.f k l g.f0 g.f1) (gPut l g) := by
  unfold impl_GroupsPut.f gPut
  refine Ev.bind (valid_ev l (by omega) hs) ?_
  cases hv : gsOk l
  · simp only [Bool.false_eq_true, if_false, Bool.false_and]
    exact Ev.now _
  · simp only [if_true, Bool.true_and]
    refine Ev.bind (groupValid_ev g hg) ?_
    cases gOk g
    · simp only [Bool.false_eq_true, if_false]
      exact Ev.now _
    · simp only [if_true]
      have hs' : gsFrom none l = true := by unfold gsOk at hv; simp only [Bool.and_eq_true] at hv; exact hv.1
      refine Ev.bind (bsG_ev l g hl hs') ?_
      have hle := cnt_le g l
      have hh : (!hit g l || decide (((cnt g l : Nat) : Int) < (l.length : Int))) = true := by
        rcases Nat.lt_or_ge (cnt g l) l.length with h | h
        · simp [h]
        · rw [hit_end g l (by omega)]
          rfl
      unfold putAt
      rw [if_pos (by simp only [Bool.and_eq_true, decide_eq_true_eq]; exact ⟨⟨by omega, by omega⟩, hh⟩), putL_eq g l none hs', putR_fin]
      exact Ev.now _
end Go.Proofs.Ytkihdohphddjaaa.Pu

namespace Go.Proofs.Ytkihdohphddjaaa.Pu
open Go.RowKit Go.Proofs.YtkihdohphddjaaaW.PrintWords Go.Proofs.YtkihdohphddjaaaW.PrintLast Go.Proofs.Ytkihdohphddjaaa.G
set_option linter.unusedVariables false
set_option linter.unusedSimpArgs false
theorem xor_i64 (a b : Int) (h0 : 0 ≤ a) (h1 : a < 4611686018427387904) (k0 : 0 ≤ b) (k1 : b < 4611686018427387904) : 0 ≤ bits .xor .i64 a b := by
  obtain ⟨a, rfl⟩ := Int.eq_ofNat_of_zero_le h0
  obtain ⟨b, rfl⟩ := Int.eq_ofNat_of_zero_le k0
  have ha : a < 2 ^ 62 := by omega
  have hb : b < 2 ^ 62 := by omega
  have hx := Nat.xor_lt_two_pow ha hb
  have ha' : a % 2 ^ 64 = a := Nat.mod_eq_of_lt (by omega)
  have hb' : b % 2 ^ 64 = b := Nat.mod_eq_of_lt (by omega)
  show 0 ≤ IntKind.i64.wrap ((BitVec.ofInt 64 (a : Int) ^^^ BitVec.ofInt 64 (b : Int)).toNat : Int)
  rw [BitVec.ofInt_natCast, BitVec.ofInt_natCast, BitVec.toNat_xor, BitVec.toNat_ofNat, BitVec.toNat_ofNat, ha', hb', IntKind.wrap_i64]
  omega
theorem rd_range {b : List Int} (hb : ∀ x ∈ b, 0 ≤ x ∧ x ≤ 255) (i : Int) : 0 ≤ rd b i ∧ rd b i ≤ 255 := by
  unfold rd
  rw [List.getD_eq_getElem?_getD]
  rcases h : b[i.toNat]? with _ | x
  · simp
  · exact hb x (List.mem_of_getElem? h)
theorem mod_range {x n : Int} (h0 : 0 ≤ x) (h1 : 1 ≤ n) : 0 ≤ Int.tmod x n ∧ Int.tmod x n < n := by
  rw [Int.tmod_eq_emod_of_nonneg h0]
  exact ⟨Int.emod_nonneg _ (by omega), Int.emod_lt_of_pos _ (by omega)⟩
/-- A code that is read: bytes, and a place that is no great number. -/
def CodeOk (b : List Int) : Prop := b.length ≤ 2000 ∧ ∀ x ∈ b, 0 ≤ x ∧ x ≤ 255
theorem pick_ends {b : List Int} (hb : CodeOk b) (p n : Int) (h0 : 0 ≤ p) (h1 : p ≤ 1000000000) (hn : n ≤ 4611686018427387904) :
    EndsIn (fun k => spec_l6Rd_pick.f k b p n) (fun r => r.2 = p + 1 ∧ 0 ≤ r.1 ∧ (1 ≤ n → r.1 < n) ∧ (n < 1 → r.1 = 0)) := by
  obtain ⟨hl, hr⟩ := hb
  unfold spec_l6Rd_pick.f
  rw [w64 (a := p + 1) (by omega) (by omega)]
  by_cases hn1 : n < 1
  · simp only [if_pos hn1]
    refine EndsIn.step (fun k => by rw [spec_l6Rd_pick.j0]) ?_
    simp only [if_true]
    exact EndsIn.now _ ⟨rfl, by omega, by omega, fun _ => rfl⟩
  · simp only [if_neg hn1]
    refine EndsIn.step (fun k => by rw [spec_l6Rd_pick.j0]) ?_
    rw [show p + 1 - 1 = p by omega, w64 (a := p) (by omega) (by omega)]
    by_cases hz : (b.length : Int) = 0
    · have : ((b.length : Int) == 0) = true := by simpa using hz
      simp only [this, if_true]
      exact EndsIn.now _ ⟨rfl, by omega, by omega, fun h => by omega⟩
    · have hz' : ((b.length : Int) == 0) = false := by simpa using hz
      simp only [hz', Bool.false_eq_true, if_false]
      by_cases hp : p < (b.length : Int)
      · have hx := rd_range hr p
        simp only [if_pos hp, if_pos h0, if_neg (show ¬ n = 0 by omega)]
        rw [w64 (a := rd b p) (by omega) (by omega)]
        have hm := mod_range (x := rd b p) (n := n) hx.1 (by omega)
        exact EndsIn.now _ ⟨rfl, hm.1, fun _ => hm.2, fun h => by omega⟩
      · have hm1 := mod_range (x := p) (n := (b.length : Int)) h0 (by omega)
        have h7 : wrap64 (wrap64 (p * 7) + 3) = p * 7 + 3 := by
          rw [w64 (a := p * 7) (by omega) (by omega), w64 (by omega) (by omega)]
        have hm2 := mod_range (x := p * 7 + 3) (n := (b.length : Int)) (by omega) (by omega)
        simp only [if_neg hp, if_neg hz, h7, if_pos hm1.1, if_pos hm1.2, if_pos hm2.1, if_pos hm2.2, if_neg (show ¬ n = 0 by omega)]
        have hx1 := rd_range hr (Int.tmod p b.length)
        have hx2 := rd_range hr (Int.tmod (p * 7 + 3) b.length)
        generalize rd b (Int.tmod p b.length) = x1 at hx1 ⊢
        generalize rd b (Int.tmod (p * 7 + 3) b.length) = x2 at hx2 ⊢
        have hd : 0 ≤ Int.tdiv p (b.length : Int) ∧ Int.tdiv p (b.length : Int) ≤ p := by
          rw [Int.tdiv_eq_ediv_of_nonneg h0]
          exact ⟨Int.ediv_nonneg h0 (by omega), Int.ediv_le_self _ h0⟩
        generalize Int.tdiv p (b.length : Int) = q at hd ⊢
        have e1 : wrap64 x1 = x1 := w64 (by omega) (by omega)
        have e2 : wrap64 x2 = x2 := w64 (by omega) (by omega)
        have e3 : wrap64 (x1 * 131) = x1 * 131 := w64 (by omega) (by omega)
        have e4 : wrap64 (x2 * 1117) = x2 * 1117 := w64 (by omega) (by omega)
        have e5 : wrap64 (x1 * 131 + x2 * 1117) = x1 * 131 + x2 * 1117 := w64 (by omega) (by omega)
        have e6 : wrap64 (p * 29) = p * 29 := w64 (by omega) (by omega)
        have e7 : wrap64 (x1 * 131 + x2 * 1117 + p * 29) = x1 * 131 + x2 * 1117 + p * 29 := w64 (by omega) (by omega)
        have e8 : wrap64 q = q := w64 (by omega) (by omega)
        have e9 : wrap64 (q * 53) = q * 53 := w64 (by omega) (by omega)
        have e10 : wrap64 (x1 * 131 + x2 * 1117 + p * 29 + q * 53) = x1 * 131 + x2 * 1117 + p * 29 + q * 53 := w64 (by omega) (by omega)
        simp only [e1, e2, e3, e4, e5, e6, e7, e8, e9, e10]
        have hX : 0 ≤ x1 * 131 + x2 * 1117 + p * 29 + q * 53 ∧ x1 * 131 + x2 * 1117 + p * 29 + q * 53 < 4611686018427387904 := ⟨by omega, by omega⟩
        generalize x1 * 131 + x2 * 1117 + p * 29 + q * 53 = X at hX ⊢
        have e11 : wrap64 (Int.tdiv X 64) = X / 64 := by
          rw [Int.tdiv_eq_ediv_of_nonneg hX.1]
          exact w64 (by omega) (by omega)
        rw [e11]
        have hxx := xor_i64 X (X / 64) hX.1 hX.2 (by omega) (by omega)
        have hm := mod_range (n := n) hxx (by omega)
        exact EndsIn.now _ ⟨rfl, hm.1, fun _ => hm.2, fun h => by omega⟩
end Go.Proofs.Ytkihdohphddjaaa.Pu

namespace Go.Proofs.Ytkihdohphddjaaa.Pu
open Go.RowKit Go.Proofs.YtkihdohphddjaaaW.PrintWords Go.Proofs.YtkihdohphddjaaaW.PrintLast Go.Proofs.Ytkihdohphddjaaa.G
set_option linter.unusedVariables false
set_option linter.unusedSimpArgs false
theorem open_some (l0 : List Int) (hr : ∀ x ∈ l0, 0 ≤ x ∧ x ≤ 255) : ∃ b, spec_l6Open.f l0 = some (b, 0) ∧ CodeOk b := by
  unfold spec_l6Open.f
  by_cases h : (l0.length : Int) > 2000
  · rw [if_pos h, if_pos (by omega)]
    exact ⟨_, rfl, by rw [List.length_take]; omega, fun x hx => hr x (List.mem_of_mem_take hx)⟩
  · rw [if_neg h]
    exact ⟨_, rfl, by omega, hr⟩
end Go.Proofs.Ytkihdohphddjaaa.Pu

namespace Go.Proofs.Ytkihdohphddjaaa.Pu
open Go.RowKit Go.Proofs.YtkihdohphddjaaaW.PrintWords Go.Proofs.YtkihdohphddjaaaW.PrintLast Go.Proofs.Ytkihdohphddjaaa.G
set_option linter.unusedVariables false
set_option linter.unusedSimpArgs false
theorem of_ends {b : List Int} (hb : CodeOk b) (p : Int) (l : List ByteArray) (h0 : 0 ≤ p) (h1 : p ≤ 1000000000) (hl : 1 ≤ l.length) (hl2 : l.length ≤ 1000000) :
    EndsIn (fun k => spec_l6Rd_of.f k b p l) (fun r => r.2 = p + 1 ∧ r.1 ∈ l) := by
  unfold spec_l6Rd_of.f
  refine EndsIn.bind (pick_ends hb p (l.length : Int) h0 h1 (by omega)) fun r hr => ?_
  obtain ⟨h2, h3, h4, _⟩ := hr
  have h5 := h4 (by omega)
  simp only [if_pos h3, if_pos h5]
  refine EndsIn.now _ ⟨h2, ?_⟩
  unfold rdOf
  rw [List.getD_eq_getElem?_getD, List.getElem?_eq_getElem (by omega)]
  exact List.getElem_mem _
/-- What is drawn: at most so many groups, each with a short name and a small number. -/
def DrG (l : List S25) : Prop := l.length ≤ 8 ∧ ∀ g ∈ l, g.f0.size ≤ 7 ∧ 0 ≤ g.f1 ∧ g.f1 ≤ 100
theorem DrG.size {l : List S25} (h : DrG l) : ∀ g ∈ l, g.f0.size ≤ 9223372036854775807 := fun g hg => by have := (h.2 g hg).1; omega
theorem drawG_j {b : List Int} (hb : CodeOk b) (l : List S25) (hl : DrG l) (hl0 : 1 ≤ l.length) (c : Bool) (hc : c = true → 1 ≤ l.length) (p : Int) (h0 : 0 ≤ p) (h1 : p ≤ 900000000) :
    EndsIn (fun k => spec_l92Groups.j1 k l c b p) (fun r => DrG r.1 ∧ p ≤ r.2 ∧ r.2 ≤ p + 10) := by
  refine EndsIn.step (fun k => by rw [spec_l92Groups.j1]) ?_
  cases c
  · simp only [Bool.false_eq_true, if_false]
    exact EndsIn.now _ ⟨hl, by omega, by omega⟩
  · simp only [if_true]
    have hl8 := hl.1
    refine EndsIn.bind (pick_ends hb p (l.length : Int) h0 (by omega) (by omega)) fun r hr => ?_
    obtain ⟨e2, h3, h4, _⟩ := hr
    have h5 := h4 (by omega)
    rw [e2]
    refine EndsIn.bind (of_ends hb (p + 1) _ (by omega) (by omega) (by decide) (by decide)) fun q hq => ?_
    obtain ⟨q2, q1⟩ := hq
    simp only [if_pos h3, if_pos h5]
    refine EndsIn.now _ ⟨⟨by rw [List.length_set]; exact hl8, fun g hg => ?_⟩, by omega, by omega⟩
    rcases List.mem_or_eq_of_mem_set hg with hg | rfl
    · exact hl.2 g hg
    · have hm : rd_T25 l r.1 ∈ l := by
        unfold rd_T25
        rw [List.getD_eq_getElem?_getD, List.getElem?_eq_getElem (by omega)]
        exact List.getElem_mem _
      refine ⟨?_, (hl.2 _ hm).2⟩
      simp only [List.mem_cons, List.not_mem_nil, or_false] at q1
      rcases q1 with q1 | q1 | q1 <;> (show q.1.size ≤ 7; rw [q1]; decide)
theorem drawG_loop {b : List Int} (hb : CodeOk b) (n : Int) (hn : n ≤ 5) : ∀ d (i : Nat) (l : List S25) (p : Int), 5 - i = d → i ≤ 5 → DrG l → 0 ≤ p → p ≤ 100 * (i : Int) + 100 →
    EndsIn (fun k => spec_l92Groups.l0 k l n (i : Int) b p) (fun r => DrG r.1 ∧ p ≤ r.2 ∧ r.2 ≤ 10000) := by
  intro d
  induction d with
  | zero =>
    intro i l p hi hle hl h0 h1
    obtain rfl : i = 5 := by omega
    refine EndsIn.step (fun k => by rw [spec_l92Groups.l0]) ?_
    simp only [if_neg (show ¬ (((5 : Nat) : Int) < n) by omega)]
    by_cases hz : (l.length : Int) > 0
    · simp only [if_pos hz]
      refine EndsIn.bind (pick_ends hb p 24 h0 (by omega) (by omega)) fun r hr => ?_
      rw [hr.1]
      exact (drawG_j hb l hl (by omega) _ (fun _ => by omega) (p + 1) (by omega) (by omega)).mono fun r hr => ⟨hr.1, by omega, by omega⟩
    · simp only [if_neg hz]
      refine EndsIn.step (fun k => by rw [spec_l92Groups.j1]) ?_
      simp only [Bool.false_eq_true, if_false]
      exact EndsIn.now _ ⟨hl, by omega, by omega⟩
  | succ d ih =>
    intro i l p hi hle hl h0 h1
    refine EndsIn.step (fun k => by rw [spec_l92Groups.l0]) ?_
    by_cases hin : (i : Int) < n
    · simp only [if_pos hin]
      refine EndsIn.bind (of_ends hb p _ h0 (by omega) (by decide) (by decide)) fun r hr => ?_
      obtain ⟨r2, r1⟩ := hr
      rw [r2]
      refine EndsIn.bind (pick_ends hb (p + 1) 20 (by omega) (by omega) (by omega)) fun q hq => ?_
      obtain ⟨q2, q3, q4, _⟩ := hq
      have q5 := q4 (by omega)
      have hsz : r.1.size ≤ 7 := by
        simp only [List.mem_cons, List.not_mem_nil, or_false] at r1
        rcases r1 with r1 | r1 | r1 | r1 | r1 | r1 | r1 | r1 <;> (rw [r1]; decide)
      have hev := gPut_ev l ⟨r.1, q.1⟩ (by have := hl.1; omega) hl.size (by show r.1.size ≤ _; omega)
      have hd : DrG (gPut l ⟨r.1, q.1⟩).1 := ⟨gPut_len _ _, fun g hg => by
        rcases gPut_mem hg with rfl | hg
        · exact ⟨hsz, q3, by show q.1 ≤ 100; omega⟩
        · exact hl.2 g hg⟩
      refine EndsIn.bind (P := fun x => x = gPut l ⟨r.1, q.1⟩) ⟨_, hev, rfl⟩ fun x hx => ?_
      subst hx
      rw [q2, w64 (a := (i : Int) + 1) (by omega) (by omega)]
      cases (gPut l ⟨r.1, q.1⟩).2
      · simp only [Bool.false_eq_true, if_false]
        exact (ih (i + 1) l (p + 1 + 1) (by omega) (by omega) hl (by omega) (by omega)).mono fun r hr => ⟨hr.1, by omega, hr.2.2⟩
      · simp only [if_true]
        exact (ih (i + 1) _ (p + 1 + 1) (by omega) (by omega) hd (by omega) (by omega)).mono fun r hr => ⟨hr.1, by omega, hr.2.2⟩
    · simp only [if_neg hin]
      by_cases hz : (l.length : Int) > 0
      · simp only [if_pos hz]
        refine EndsIn.bind (pick_ends hb p 24 h0 (by omega) (by omega)) fun r hr => ?_
        rw [hr.1]
        exact (drawG_j hb l hl (by omega) _ (fun _ => by omega) (p + 1) (by omega) (by omega)).mono fun r hr => ⟨hr.1, by omega, by omega⟩
      · simp only [if_neg hz]
        refine EndsIn.step (fun k => by rw [spec_l92Groups.j1]) ?_
        simp only [Bool.false_eq_true, if_false]
        exact EndsIn.now _ ⟨hl, by omega, by omega⟩
theorem drawGroups_ends {b : List Int} (hb : CodeOk b) : EndsIn (fun k => spec_l92Groups.f k b 0) (fun r => DrG r.1 ∧ 0 ≤ r.2 ∧ r.2 ≤ 10000) := by
  unfold spec_l92Groups.f
  refine EndsIn.bind (pick_ends hb 0 6 (by omega) (by omega) (by omega)) fun r hr => ?_
  obtain ⟨r2, r3, r4, _⟩ := hr
  have r5 := r4 (by omega)
  rw [r2]
  have := drawG_loop hb r.1 (by omega) 5 0 [] (0 + 1) (by omega) (by omega) ⟨by simp, by simp⟩ (by omega) (by omega)
  exact this.mono fun q hq => ⟨hq.1, by omega, hq.2.2⟩
end Go.Proofs.Ytkihdohphddjaaa.Pu

namespace Go.Proofs.Ytkihdohphddjaaa.Pu
open Go.RowKit Go.Proofs.YtkihdohphddjaaaW.PrintWords Go.Proofs.YtkihdohphddjaaaW.PrintLast Go.Proofs.Ytkihdohphddjaaa.G
set_option linter.unusedVariables false
set_option linter.unusedSimpArgs false
theorem sameG_loop (l : List S25) (hl : l.length ≤ 1048576) : ∀ d i, l.length - i = d → Ev (fun k => laws_sameGroups.l0 k l l (i : Int)) true := by
  intro d
  induction d with
  | zero =>
    intro i hi
    refine Ev.step (fun k => by rw [laws_sameGroups.l0]) ?_
    simp only [if_neg (show ¬ ((i : Int) < (l.length : Int)) by omega)]
    exact Ev.now _
  | succ d ih =>
    intro i hi
    refine Ev.step (fun k => by rw [laws_sameGroups.l0]) ?_
    simp only [if_pos (show ((i : Int) < (l.length : Int)) by omega), if_pos (show (0 : Int) ≤ (i : Int) by omega), beq_self_eq_true, Bool.not_true, Bool.or_self, Bool.false_eq_true, if_false, w64 (a := (i : Int) + 1) (by omega) (by omega)]
    exact ih (i + 1) (by omega)
theorem sameG_self (l : List S25) (hl : l.length ≤ 1048576) : Ev (fun k => laws_sameGroups.f k l l) true := by
  unfold laws_sameGroups.f
  simp only [if_true]
  exact sameG_loop l hl l.length 0 (by omega)
def below (p : Option S25) (g : S25) : Bool := match p with | none => true | some q => Op.bytesLess q.f0.toList g.f0.toList
theorem gsFrom_cons (p : Option S25) (g : S25) (l : List S25) : gsFrom p (g :: l) = (gOk g && (below p g && gsFrom (some g) l)) := by
  cases p <;> rfl
theorem gsFrom_name {x y : S25} (h : x.f0.toList = y.f0.toList) : ∀ l : List S25, gsFrom (some x) l = gsFrom (some y) l
  | [] => rfl
  | z :: l => by rw [gsFrom_cons, gsFrom_cons, below, below, h]
theorem ne_tail {g x : S25} {l : List S25} (hs : gsFrom (some x) l = true) (hx : ¬ nameLt g x = true) : l.filter (fun y => decide (y.f0.toList ≠ g.f0.toList)) = l :=
  List.filter_eq_self.2 (fun y hy => by
    have := gs_lt l x hs y hy
    simp only [ne_eq, decide_eq_true_eq]
    intro e
    rw [e] at this
    exact hx this)
theorem putG_cons_lt {g x : S25} (l : List S25) (hx : nameLt g x = true) : putG g (x :: l) = x :: putG g l := by
  rw [putG, if_pos (show Op.bytesLess x.f0.toList g.f0.toList = true from hx)]
theorem putG_cons_eq {g x : S25} {l : List S25} (hs : gsFrom (some x) l = true) (hx : ¬ nameLt g x = true) (he : x.f0.toList = g.f0.toList) : putG g (x :: l) = g :: l := by
  rw [putG, if_neg (show ¬ Op.bytesLess x.f0.toList g.f0.toList = true from hx), List.filter_cons, ne_tail hs hx]
  simp [he]
theorem putG_cons_gt {g x : S25} {l : List S25} (hs : gsFrom (some x) l = true) (hx : ¬ nameLt g x = true) (he : ¬ x.f0.toList = g.f0.toList) : putG g (x :: l) = g :: x :: l := by
  rw [putG, if_neg (show ¬ Op.bytesLess x.f0.toList g.f0.toList = true from hx), List.filter_cons, ne_tail hs hx]
  simp [he]
theorem not_self (g : S25) : ¬ nameLt g g = true := by
  unfold nameLt
  rw [less_irrefl]
  simp
theorem gt_of {g x : S25} (hx : ¬ nameLt g x = true) (he : ¬ x.f0.toList = g.f0.toList) : Op.bytesLess g.f0.toList x.f0.toList = true := by
  rcases less_total x.f0.toList g.f0.toList with h | h | h
  · exact absurd h hx
  · exact absurd h he
  · exact h
/-- .. is valid again. -/
theorem putG_ok (g : S25) (hg : gOk g = true) : ∀ (l : List S25) (p : Option S25), gsFrom p l = true → below p g = true → gsFrom p (putG g l) = true
  | [], p, _, hb => by
    show gsFrom p [g] = true
    rw [gsFrom_cons, hg, hb]
    rfl
  | x :: l, p, hs, hb => by
    have ht := gs_tail hs
    rw [gsFrom_cons] at hs
    simp only [Bool.and_eq_true] at hs
    by_cases hx : nameLt g x = true
    · rw [putG_cons_lt l hx, gsFrom_cons, hs.1, hs.2.1, putG_ok g hg l (some x) ht hx]
      rfl
    · by_cases he : x.f0.toList = g.f0.toList
      · rw [putG_cons_eq ht hx he, gsFrom_cons, hg, hb, ← gsFrom_name he, ht]
        rfl
      · rw [putG_cons_gt ht hx he, gsFrom_cons, hg, hb, gsFrom_cons, hs.1, below, gt_of hx he, ht]
        rfl
theorem putG_twice (g : S25) : ∀ (l : List S25) (p : Option S25), gsFrom p l = true → putG g (putG g l) = putG g l
  | [], p, _ => by
    show putG g [g] = [g]
    rw [putG_cons_eq rfl (not_self g) rfl]
  | x :: l, p, hs => by
    have ht := gs_tail hs
    by_cases hx : nameLt g x = true
    · rw [putG_cons_lt l hx, putG_cons_lt _ hx, putG_twice g l (some x) ht]
    · by_cases he : x.f0.toList = g.f0.toList
      · rw [putG_cons_eq ht hx he, putG_cons_eq (by rw [← gsFrom_name he]; exact ht) (not_self g) rfl]
      · rw [putG_cons_gt ht hx he]
        have h2 : gsFrom (some g) (x :: l) = true := by
          rw [gsFrom_cons] at hs ⊢
          simp only [Bool.and_eq_true] at hs
          rw [hs.1, below, gt_of hx he, ht]
          rfl
        rw [putG_cons_eq h2 (not_self g) rfl]
theorem gsOk_parts {l : List S25} (h : gsOk l = true) : gsFrom none l = true ∧ l.length ≤ 8 := by
  unfold gsOk at h
  simpa using h
theorem gPut_true {l : List S25} {g : S25} (h : (gPut l g).2 = true) : gsOk l = true ∧ gOk g = true ∧ gPut l g = (putG g l, true) ∧ (putG g l).length ≤ 8 := by
  unfold gPut at h ⊢
  by_cases hc : (gsOk l && gOk g) = true
  · rw [if_pos hc] at h ⊢
    unfold fin8 at h ⊢
    by_cases h8 : (putG g l).length > 8
    · rw [if_pos h8] at h
      simp at h
    · rw [if_neg h8]
      simp only [Bool.and_eq_true] at hc
      exact ⟨hc.1, hc.2, rfl, by omega⟩
  · rw [if_neg hc] at h
    simp at h
theorem gPut_ok {l : List S25} {g : S25} (h : (gPut l g).2 = true) : gsOk (gPut l g).1 = true := by
  obtain ⟨h1, h2, h3, h4⟩ := gPut_true h
  rw [h3]
  unfold gsOk
  rw [putG_ok g h2 l none (gsOk_parts h1).1 rfl]
  simpa using h4
theorem gPut_twice {l : List S25} {g : S25} (h : (gPut l g).2 = true) : gPut (gPut l g).1 g = ((gPut l g).1, true) := by
  have h0 := gPut_ok h
  obtain ⟨h1, h2, h3, h4⟩ := gPut_true h
  rw [h3] at h0 ⊢
  unfold gPut
  rw [if_pos (by rw [h0, h2]; rfl), putG_twice g l none (gsOk_parts h1).1]
  unfold fin8
  rw [if_neg (by omega)]
theorem gPut_size {l : List S25} {g : S25} (hs : ∀ x ∈ l, x.f0.size ≤ 9223372036854775807) (hg : g.f0.size ≤ 9223372036854775807) : ∀ x ∈ (gPut l g).1, x.f0.size ≤ 9223372036854775807 := fun x hx => by
  rcases gPut_mem hx with rfl | h
  · exact hg
  · exact hs x h
end Go.Proofs.Ytkihdohphddjaaa.Pu

namespace Go.Proofs.Ytkihdohphddjaaa.Pu
open Go.RowKit Go.Proofs.YtkihdohphddjaaaW.PrintWords Go.Proofs.YtkihdohphddjaaaW.PrintLast Go.Proofs.Ytkihdohphddjaaa.G
set_option linter.unusedVariables false
set_option linter.unusedSimpArgs false
theorem drawGP_ends (l0 : List Int) (hr : ∀ x ∈ l0, 0 ≤ x ∧ x ≤ 255) : EndsIn (fun k => spec_DrawGroupsPut.f k l0) (fun r => DrG r.1 ∧ r.2.1.size ≤ 7) := by
  obtain ⟨c, hc, hok⟩ := open_some l0 hr
  unfold spec_DrawGroupsPut.f
  simp only [hc, bindS]
  refine EndsIn.bind (drawGroups_ends hok) fun r hr => EndsIn.bind (of_ends hok r.2 _ (by omega) (by omega) (by simp) (by simp)) fun q hq => ?_
  refine EndsIn.bind (pick_ends hok q.2 30 (by omega) (by omega) (by omega)) fun s hs => EndsIn.bind (pick_ends hok s.2 24 (by omega) (by omega) (by omega)) fun u hu => EndsIn.now _ ⟨hr.1, ?_⟩
  have hm := hq.2
  simp only [List.mem_cons, List.not_mem_nil, or_false] at hm
  rcases hm with h | h | h | h | h | h | h <;> rw [h] <;> decide
end Go.Proofs.Ytkihdohphddjaaa.Pu

namespace Go.Proofs.Ytkihdohphddjaaa.Pure
open Go.RowKit Go.Proofs.Ytkihdohphddjaaa.G Go.Proofs.YtkihdohphddjaaaW.PrintWords Go.Proofs.YtkihdohphddjaaaW.PrintLast Go.Proofs.Ytkihdohphddjaaa.Pu
set_option linter.unusedSimpArgs false
theorem FnGroupsTwice : OFnGroupsTwice.Pure := by
  intro l0 hl0 ho0
  refine EndsIn.rounds ?_
  unfold laws_FnGroupsTwice.f
  have hr := fun x hx => u8_range (ho0 x hx)
  by_cases h : (l0.length : Int) > 1048576
  · simp only [if_pos h]
    exact EndsIn.now _ rfl
  · simp only [if_neg h]
    refine EndsIn.bind (drawGP_ends l0 hr) fun r hr => ?_
    obtain ⟨l, s, n⟩ := r
    obtain ⟨hl, hs⟩ := hr
    simp only at hl hs ⊢
    have h8 := hl.1
    have e1 := gPutI_ev l ⟨s, n⟩ (by omega) hl.size (show s.size ≤ _ by omega)
    have e2 := gPut_ev l ⟨s, n⟩ (by omega) hl.size (show s.size ≤ _ by omega)
    have hlen := gPut_len l ⟨s, n⟩
    refine ⟨true, Ev.bind e1 (Ev.bind e2 ?_), rfl⟩
    simp only [bne_self_eq_false, Bool.false_eq_true, if_false]
    refine Ev.bind (sameG_self _ (by omega)) ?_
    simp only [if_true]
    refine Ev.step (fun k => by rw [laws_FnGroupsTwice.j0]) ?_
    cases hb : (gPut l ⟨s, n⟩).2
    · simp only [Bool.not_false, if_true, beq_self_eq_true]
      refine Ev.bind (sameG_self _ (by omega)) ?_
      exact Ev.now _
    · simp only [Bool.not_true, Bool.false_eq_true, if_false]
      refine Ev.bind (gPutI_ev (gPut l ⟨s, n⟩).1 ⟨s, n⟩ (by omega) (gPut_size hl.size (show s.size ≤ _ by omega)) (show s.size ≤ _ by omega)) ?_
      rw [gPut_twice hb]
      simp only [if_true]
      refine Ev.bind (sameG_self _ (by omega)) ?_
      exact Ev.now _
end Go.Proofs.Ytkihdohphddjaaa.Pure

namespace Go.Proofs.Ytkihdohphddjaaa.fnGroupsTwice
open Go.ChangeShapes Go.WideShapes Go.ChangeAt Go.RowKit Go.Proofs.Ytkihdohphddjaaa.OFnGroupsTwice Go.Proofs.Ytkihdohphddjaaa.G Go.Joins
open Go.ChangeMaps (open_string shut_string)
set_option linter.unusedVariables false
theorem own : ownKnob Try.prog.godebug = none := by kernel_rfl
theorem laidOut : laidOutB Try.prog = true := by kernel_rfl
set_option maxRecDepth 100000 in
theorem lifted (os : Os) (started : os.Started) (H : Type) (enc : TypeId × Value → H) :
    ReturnsInHanded {} Try.checked os 4 .any (Rows.fnGroupsTwiceSpec.pre6 enc Try.prog Try.f4 Rows.fnGroupsTwiceRow.domain false) (Rows.fnGroupsTwiceSpec.post enc Try.prog Try.f4 false true false false) := by
  refine returnsInHanded_of_change_sized (C := Try.checked) own started (by kernel_rfl) Try.func4
    (ChangeSpec.witness6 (enc := enc) (C := Try.checked) false ⟨#[], #[.slice none 0 0], []⟩ 8 (by kernel_rfl) (by kernel_rfl) (by kernel_rfl) (by kernel_rfl)) ?_
  intro W base args ds gs before hval0 hW hcnd hsz0 _
  have hsz : (DataW.weightsEach Try.prog (Try.f4.params.toList ++ Rows.fnGroupsTwiceSpec.plain.varTypes Try.prog) (ds ++ gs)).all (· ≤ reachBytes) = true := hsz0
  have hval : ∀ (j : Nat) t v, Try.f4.params[j]? = some t → args[j]? = some v → Value.okWide Try.prog W .any base t v := hval0
  have hW' := hW
  obtain ⟨p, q, hA0, hV, rfl, hfz, hnd⟩ := hW
  have hA : DataW.TrodAll enc Try.prog W 0 (fun _ => true) true Try.f4.params.toList args.toList ds p := hA0
  rw [Try.params4] at hA hval hsz
  obtain ⟨v0, vs0, d0, ds0, p0, q0, hargs, rfl, rfl, h0, r0⟩ := trodAll_cons hA
  obtain ⟨rfl, rfl, rfl⟩ := trodAll_nil r0
  obtain rfl : args = #[v0] := by cases args; simp_all
  obtain ⟨rfl, rfl⟩ := trodVars_none hV
  obtain ⟨a0, len0, cap0, rfl⟩ := okWide_slice Try.underlying22 (hval 0 22 v0 rfl rfl)
  have k0 := h0
  have lt0 : ∀ x ∈ p0, x.block < W.heap.size := by obtain ⟨m, hm⟩ := k0; exact DataW.trod_lt m _ _ _ hm
  obtain ⟨fuel0, hf0⟩ := h0
  obtain ⟨A0, c0, l0, hcs0, hlc0, hm0, hC0, ho0⟩ := Rd.opens_row Try.underlying22 (Rd.opens_int Try.underlying5 (by kernel_rfl)) hf0
  simp [Value.cells] at hcs0
  obtain ⟨rfl, rfl, rfl⟩ := hcs0
  clear hA0 hval0 hsz0 hsz
  obtain ⟨k, h⟩ := Pure.FnGroupsTwice l0 (Nat.le_trans hlc0 hm0) ho0
  refine (laws_FnGroupsTwice.calls k _ _ l0 true W hC0 hlc0 h).mono fun e W' ⟨he, bel0⟩ => ?_
  subst he
  have bel : Below W.heap.size W W' := bel0
  exact ⟨_, rfl, _, _, _, [], _, [], hW', trodAll_mk1 (shut_bool Try.underlying4 _), (trodAll_cons_mk (Below.trod laidOut (by kernel_rfl) (of_decide_eq_true (by kernel_rfl)) k0 bel lt0) trodAll_mk0), rfl, bel.frame _, fun h => by cases h⟩
theorem over : Rows.fnGroupsTwiceRow.holds Try.pinned (OpenSpec.ofChange Rows.fnGroupsTwiceSpec) :=
  OpenClaim.holds_of_wide 4 Try.f4 rfl rfl rfl rfl rfl rfl rfl ⟨rfl, rfl, rfl, rfl, rfl⟩ rfl rfl rfl rfl rfl (by kernel_rfl) Try.func4 (by kernel_rfl)
    (of_decide_eq_true (by kernel_rfl)) (by unfold Func.isWrapper; first | (rw [if_pos (by decide +kernel)]; kernel_rfl) | (rw [if_neg (by decide +kernel)]; exact ⟨rfl, rfl⟩))
    (fun os started H enc _ => lifted os started H enc)
theorem proved : Rows.FnGroupsTwiceSaid := over
#print axioms proved
end Go.Proofs.Ytkihdohphddjaaa.fnGroupsTwice
namespace Go.Proofs.Ytkihdohphddjaaa
/-- The row, under a short name, for the claim. -/
theorem fnGroupsTwice_holds : Rows.FnGroupsTwiceSaid := fnGroupsTwice.proved
end Go.Proofs.Ytkihdohphddjaaa

