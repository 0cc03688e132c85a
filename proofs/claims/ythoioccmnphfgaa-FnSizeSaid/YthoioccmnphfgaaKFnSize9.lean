/- A text of seat Ythoioccmnphfgaa: what the law FnSize needs of this repo's texts (by pack.py). Not trusted: Lean checks it. -/
import Derived.Test.YthoioccmnphfgaaKFnSize8
import Derived.WideKeyEntry
import Derived.WideKeyArr
import Derived.Shelf.RegionOpenPlain
import Derived.Test.YthoioccmnphfgaaProg
import Derived.Lib.AppendZerosOnto
namespace Go.Proofs.Ythoioccmnphfgaa.G
open Go.RowKit Go.Shelf Go.Proofs.YthoioccmnphfgaaW.PrintWords Go.Proofs.YthoioccmnphfgaaW.PrintLast Go.Proofs.YthoioccmnphfgaaW.PrintMore
open Go.WideMaps Go.MapKept Go.ChangeMaps
set_option linter.unusedVariables false
set_option linter.unusedSimpArgs false
def inI (x : Int) : Bool := decide (-1000000000000000000 ≤ x) && decide (x ≤ 1000000000000000000)
theorem law3 : KeyLaw Try.prog 91 := ArrKey.law (e := 3) (n := 3) ⟨by kernel_rfl, by kernel_rfl, by kernel_rfl, by kernel_rfl⟩
def keyV (l : List Int) (p : Nat) : Value := .agg #[.int .i64 (l.getD p 0), .int .i64 (l.getD (p + 1) 0), .int .i64 (l.getD (p + 2) 0)]
theorem key3 (x y z : Int) (hx : inI x = true) (hy : inI y = true) (hz : inI z = true) : ∃ k, keyOf Try.prog 91 (.agg #[.int .i64 x, .int .i64 y, .int .i64 z]) = some k := by
  simp only [inI, Bool.and_eq_true, decide_eq_true_eq] at hx hy hz
  have hu : Try.prog.underlying 91 = some (.array 3 3) := by kernel_rfl
  have hi : Try.prog.underlying 3 = some (.int .i64) := Try.underlying3
  have hk : Try.prog.keyType 91 = true := by kernel_rfl
  have hc : Try.prog.cellsOf 91 = 3 := by kernel_rfl
  have hc1 : Try.prog.cellsOf 3 = 1 := by kernel_rfl
  have hs : ∃ m, Try.prog.types.size = m + 1 := ⟨Try.prog.types.size - 1, by kernel_rfl⟩
  obtain ⟨m, hm⟩ := hs
  have hmin : IntKind.i64.min = -9223372036854775808 := by rfl
  have hmax : IntKind.i64.max = 9223372036854775807 := by rfl
  have wx : (Lit.int .i64 x).wf = true := by simp [Lit.wf, hmin, hmax]; omega
  have wy : (Lit.int .i64 y).wf = true := by simp [Lit.wf, hmin, hmax]; omega
  have wz : (Lit.int .i64 z).wf = true := by simp [Lit.wf, hmin, hmax]; omega
  unfold keyOf
  rw [hu]
  simp only [hk, Value.formed, hu, hc, Bool.true_and]
  simp [Program.keyLits, hu, hc, hc1, hi, hm, wx, wy, wz, List.range_succ, Value.cells]
theorem keyV_key (l : List Int) (hl : l.all inI = true) (p : Nat) (hp : p + 3 ≤ l.length) : ∃ k, keyOf Try.prog 91 (keyV l p) = some k := by
  have h : ∀ i, i < l.length → inI (l.getD i 0) = true := fun i hi => by
    rw [getD_lt l i hi]
    exact List.all_eq_true.1 hl _ (List.getElem_mem hi)
  exact key3 _ _ _ (h _ (by omega)) (h _ (by omega)) (h _ (by omega))
theorem keyV_iff (l : List Int) (p q : Nat) (hp : p + 3 ≤ l.length) (hq : q + 3 ≤ l.length) : keyV l p = keyV l q ↔ (l.drop p).take 3 = (l.drop q).take 3 := by
  have e : ∀ p, p + 3 ≤ l.length → (l.drop p).take 3 = [l.getD p 0, l.getD (p + 1) 0, l.getD (p + 2) 0] := fun p hp => by
    rw [List.drop_eq_getElem_cons (by omega : p < l.length), List.drop_eq_getElem_cons (by omega : p + 1 < l.length), List.drop_eq_getElem_cons (by omega : p + 1 + 1 < l.length), getD_lt l p (by omega), getD_lt l (p + 1) (by omega), getD_lt l (p + 2) (by omega)]
    rfl
  rw [e p hp, e q hq]
  unfold keyV
  simp
/-- The places with these three numbers, up to z. -/
def posS (l : List Int) (z q : Nat) : List Nat := (List.range z).filter (Pu.keyed l q)
theorem posS_succ (l : List Int) (z q : Nat) : posS l (z + 1) q = posS l z q ++ if Pu.keyed l q z = true then [z] else [] := by
  unfold posS
  rw [List.range_succ, List.filter_append]
  congr 1
  by_cases h : Pu.keyed l q z = true
  · rw [if_pos h, List.filter_cons_of_pos h, List.filter_nil]
  · rw [if_neg h, List.filter_cons_of_neg h, List.filter_nil]
theorem posS_lt {l : List Int} {z q p : Nat} (h : p ∈ posS l z q) : p < z := by
  unfold posS at h
  have := (List.mem_filter.1 h).1
  simpa using this
theorem posS_len (l : List Int) (z q : Nat) : (posS l z q).length ≤ z := by
  have := List.length_filter_le (Pu.keyed l q) (List.range z)
  unfold posS
  simpa using this
theorem keyed_iff {l : List Int} {q p : Nat} (hq : q + 3 ≤ l.length) : Pu.keyed l q p = true ↔ p + 3 ≤ l.length ∧ keyV l p = keyV l q := by
  unfold Pu.keyed
  rw [Bool.and_eq_true, decide_eq_true_eq, decide_eq_true_eq]
  constructor
  · rintro ⟨h1, h2⟩
    exact ⟨h1, (keyV_iff l p q h1 hq).2 h2⟩
  · rintro ⟨h1, h2⟩
    exact ⟨h1, (keyV_iff l p q h1 hq).1 h2⟩
theorem posS_same {l : List Int} {z p q : Nat} (hp : p + 3 ≤ l.length) (hq : q + 3 ≤ l.length) (h : keyV l p = keyV l q) : posS l z p = posS l z q := by
  unfold posS
  refine List.filter_congr fun r _ => ?_
  rw [Bool.eq_iff_iff, keyed_iff hp, keyed_iff hq, h]
/-- A row's block among the entries. -/
def eRow (es : Array MapEntry) (k : Nat) : Prop := ∃ e ∈ es.toList, e.val.ownBlock = some k
/-- The map holds, by their three numbers, the places ahead of z. -/
structure MapI (W : World) (n0 m : Nat) (l : List Int) (z : Nat) (es : Array MapEntry) (clock : Nat) : Prop where
  at_ : W.heap[m]? = some (.map es clock)
  st : Stamped es clock
  ent : ∀ e ∈ es.toList, ∃ p, p + 3 ≤ l.length ∧ e.key = keyV l p ∧ IR W n0 e.val (pI (posS l z p))
  all : ∀ p, p < z → p + 3 ≤ l.length → ∃ e ∈ es.toList, e.key = keyV l p
  apart : es.toList.Pairwise fun e f => ∀ k, e.val.ownBlock = some k → f.val.ownBlock ≠ some k
  size : es.size ≤ z
theorem MapI.fit {W : World} {n0 m : Nat} {l : List Int} {z : Nat} {es : Array MapEntry} {clock : Nat} (h : MapI W n0 m l z es clock) (hl : l.all inI = true) (hz : z ≤ 1000) : WideElems.Fit (H := Unit) Try.prog 91 (fun _ => some (.nil, [])) es clock := by
  refine ⟨by have := h.size; unfold maxLen; omega, h.st, fun x hx => ?_⟩
  obtain ⟨p, h1, h2, _⟩ := h.ent x hx
  obtain ⟨k, hk⟩ := keyV_key l hl p h1
  rw [← h2] at hk
  exact ⟨_, WideElems.rd_mk hk rfl⟩
theorem MapI.keys {W : World} {n0 m : Nat} {l : List Int} {z : Nat} {es : Array MapEntry} {clock : Nat} (h : MapI W n0 m l z es clock) (hl : l.all inI = true) : ∀ e ∈ es.toList, ∃ k, keyOf Try.prog 91 e.key = some k := by
  intro x hx
  obtain ⟨p, h1, h2, _⟩ := h.ent x hx
  rw [h2]
  exact keyV_key l hl p h1
theorem MapI.uniq {es : Array MapEntry} {clock : Nat} (h : Stamped es clock) {e f : MapEntry} (he : e ∈ es.toList) (hf : f ∈ es.toList) (hk : e.key = f.key) : e = f := by
  have hst := ((stamped_iff es clock).1 h).2.2
  obtain ⟨i, hi⟩ := List.getElem?_of_mem he
  obtain ⟨j, hj⟩ := List.getElem?_of_mem hf
  obtain ⟨a1, a2⟩ := List.getElem?_eq_some_iff.1 hi
  obtain ⟨b1, b2⟩ := List.getElem?_eq_some_iff.1 hj
  by_cases hij : i = j
  · subst hij
    exact a2.symm.trans b2
  · exfalso
    rcases Nat.lt_or_gt_of_ne hij with h | h
    · exact List.pairwise_iff_getElem.1 hst i j a1 b1 h (by rw [a2, b2]; exact hk)
    · exact List.pairwise_iff_getElem.1 hst j i b1 a1 h (by rw [a2, b2]; exact hk.symm)
/-- What is looked up. -/
theorem MapI.look {W : World} {n0 m : Nat} {l : List Int} {z : Nat} {es : Array MapEntry} {clock : Nat} (h : MapI W n0 m l z es clock) (hl : l.all inI = true) (q : Nat) (hq : q + 3 ≤ l.length) :
    ∃ v, (∀ W2 : World, W2.heap[m]? = some (.map es clock) → (Instr.lookup 89 (.map (some m)) (keyV l q) false).run Try.prog W2 = .ok v W2) ∧ IR W n0 v (pI (posS l z q)) ∧ ((v = .slice none 0 0) ∨ ∃ e ∈ es.toList, e.val = v) := by
  obtain ⟨kl, hk⟩ := keyV_key l hl q hq
  have ht : Try.prog.underlying 89 = some (.map 91 26) := by kernel_rfl
  have hz : ∀ W2 : World, (zeroValue 26).run Try.prog W2 = .ok (.slice none 0 0) W2 := fun W2 => by
    obtain ⟨i0, hi0, hz0, _, _⟩ := info_parts info26
    simp [zeroValue, typeInfo, hi0, hz0]
  rcases Classical.em (∃ e ∈ es.toList, e.key = keyV l q) with ⟨e0, hm0, hk0⟩ | hno
  · refine ⟨e0.val, fun W2 h2 => ?_, ?_, .inr ⟨e0, hm0, rfl⟩⟩
    · rcases law3.find W2 hk es.toList (h.keys hl) with ⟨h1, h3⟩ | ⟨j, e, h1, h3, h4⟩
      · exact absurd hk0 (h3 e0 hm0)
      · rw [MapI.uniq h.st hm0 (List.mem_of_getElem? h3) (hk0.trans h4.symm)]
        simp [Instr.lookup, run_underlying ht, MapKept.run_getObj_map h2, law3.check W2 _ hk, h1, Result.andThen]
    · obtain ⟨p, h5, h6, h7⟩ := h.ent e0 hm0
      rw [posS_same hq h5 (hk0.symm.trans h6)]
      exact h7
  · refine ⟨.slice none 0 0, fun W2 h2 => ?_, ?_, .inl rfl⟩
    · rcases law3.find W2 hk es.toList (h.keys hl) with ⟨h1, h3⟩ | ⟨j, e, h1, h3, h4⟩
      · simp [Instr.lookup, run_underlying ht, MapKept.run_getObj_map h2, law3.check W2 _ hk, h1, hz W2, Result.andThen]
      · exact absurd ⟨e, List.mem_of_getElem? h3, h4⟩ hno
    · have : posS l z q = [] := by
        unfold posS
        refine List.filter_eq_nil_iff.2 fun p hp hkd => ?_
        obtain ⟨h5, h6⟩ := (keyed_iff hq).1 hkd
        obtain ⟨e, he, hek⟩ := h.all p (by simpa using hp) h5
        exact hno ⟨e, he, hek.trans h6⟩
      rw [this]
      exact Kd.R_nil _ _ _ _ _
/-- An entry is there, or is made; then a value is stored in it. -/
theorem MapI.entry {W : World} {n0 m : Nat} {l : List Int} {z : Nat} {es : Array MapEntry} {clock : Nat} (h : MapI W n0 m l z es clock) (hl : l.all inI = true) (hz : z + 3 ≤ l.length) (hzl : z ≤ 1000) (W2 : World) (h2 : W2.heap[m]? = some (.map es clock)) :
    ∃ v0 st es1 clock1, (Instr.mapEntry 89 (.map (some m)) (keyV l z)).run Try.prog W2 = .ok (.tuple #[v0, goInt st]) (setBlock W2 m (.map es1 clock1)) ∧ IR W n0 v0 (pI (posS l z z)) ∧ (v0 = .slice none 0 0 ∨ ∃ e ∈ es.toList, e.val = v0) ∧
      ∀ (w3 : World) (val : Value), w3.heap[m]? = some (.map es1 clock1) → ∃ es' clock', (Instr.entryStore 89 (.map (some m)) (goInt st) val).run Try.prog w3 = .ok () (setBlock w3 m (.map es' clock')) ∧
        (((∀ x ∈ es.toList, x.key ≠ keyV l z) ∧ v0 = .slice none 0 0 ∧ es' = es.push ⟨keyV l z, val, clock⟩ ∧ clock' = clock + 1) ∨
          ∃ j e0, es.toList[j]? = some e0 ∧ e0.key = keyV l z ∧ v0 = e0.val ∧ es' = es.modify j (fun e' => { e' with key := keyV l z, val := val }) ∧ clock' = clock) := by
  obtain ⟨kl, hk⟩ := keyV_key l hl z hz
  have ht : Try.prog.underlying 89 = some (.map 91 26) := by kernel_rfl
  have hzv : ∀ u : World, (zeroValue 26).run Try.prog u = .ok (.slice none 0 0) u := fun u => by
    obtain ⟨i0, hi0, hz0, _, _⟩ := info_parts info26
    simp [zeroValue, typeInfo, hi0, hz0]
  obtain ⟨v0, st, es1, clock1, hE, hv0, hS⟩ := WideElems.entry_then_store (H := Unit) law3 ht hzv h2 (h.fit hl hzl) hk
  have hinj : ∀ {a b : Array MapEntry} {c d : Nat}, (Result.ok () (setBlock W2 m (.map a c)) : Result Unit) = .ok () (setBlock W2 m (.map b d)) → a = b ∧ c = d := fun {a b c d} e => by
    injection e with _ e
    have h3 := heap_setBlock_same h2 (.map a c)
    rw [e, heap_setBlock_same h2 (.map b d)] at h3
    injection h3 with h3
    injection h3 with h4 h5
    exact ⟨h4.symm, h5.symm⟩
  rcases law3.find W2 hk es.toList (h.keys hl) with ⟨h1, h3⟩ | ⟨j, e0, h1, h3, h4⟩
  · have hv : v0 = .slice none 0 0 := by
      rcases hv0 with ⟨e, he, hek, _⟩ | ⟨_, hv⟩
      · exact absurd hek (h3 e he)
      · exact hv
    refine ⟨v0, st, es1, clock1, hE, ?_, .inl hv, fun w3 val hw => ?_⟩
    · have : posS l z z = [] := by
        unfold posS
        refine List.filter_eq_nil_iff.2 fun p hp hkd => ?_
        obtain ⟨h5, h6⟩ := (keyed_iff hz).1 hkd
        obtain ⟨e, he, hek⟩ := h.all p (by simpa using hp) h5
        exact h3 e he (hek.trans h6)
      rw [this, hv]
      exact Kd.R_nil _ _ _ _ _
    · obtain ⟨es', clock', hst, hup⟩ := hS w3 val hw
      have hup2 : (Instr.mapUpdate 89 (.map (some m)) (keyV l z) val).run Try.prog W2 = .ok () (setBlock W2 m (.map (es.push ⟨keyV l z, val, clock⟩) (clock + 1))) := by
        simp [Instr.mapUpdate, run_underlying ht, MapKept.run_getObj_map h2, law3.check W2 false hk, h1, MapKept.run_setObj_map _ h2, Result.andThen, setBlock]
      obtain ⟨h5, h6⟩ := hinj (hup.symm.trans hup2)
      exact ⟨es', clock', hst, .inl ⟨h3, hv, h5, h6⟩⟩
  · have hm0 : e0 ∈ es.toList := List.mem_of_getElem? h3
    have hj : es[j]? = some e0 := by simpa using h3
    have hv : v0 = e0.val := by
      rcases hv0 with ⟨e, he, hek, hv⟩ | ⟨hno, _⟩
      · have hst := ((stamped_iff es clock).1 h.st).2.2
        obtain ⟨i, hi⟩ := List.getElem?_of_mem he
        by_cases hij : i = j
        · subst hij
          rw [h3] at hi
          cases hi
          exact hv
        · obtain ⟨a1, a2⟩ := List.getElem?_eq_some_iff.1 hi
          obtain ⟨b1, b2⟩ := List.getElem?_eq_some_iff.1 h3
          have hne : e.key ≠ e0.key := by
            rw [← a2, ← b2]
            rcases Nat.lt_or_gt_of_ne hij with h | h
            · exact List.pairwise_iff_getElem.1 hst i j a1 b1 h
            · exact fun e1 => List.pairwise_iff_getElem.1 hst j i b1 a1 h e1.symm
          exact absurd (hek.trans h4.symm) hne
      · exact absurd h4 (hno e0 hm0)
    refine ⟨v0, st, es1, clock1, hE, ?_, .inr ⟨e0, hm0, hv.symm⟩, fun w3 val hw => ?_⟩
    · obtain ⟨p, h5, h6, h7⟩ := h.ent e0 hm0
      rw [posS_same hz h5 (h4.symm.trans h6), hv]
      exact h7
    · obtain ⟨es', clock', hst, hup⟩ := hS w3 val hw
      have hup2 : (Instr.mapUpdate 89 (.map (some m)) (keyV l z) val).run Try.prog W2 = .ok () (setBlock W2 m (.map (es.modify j (fun e' => { e' with key := keyV l z, val := val })) clock)) := by
        simp [Instr.mapUpdate, run_underlying ht, MapKept.run_getObj_map h2, law3.check W2 false hk, h1, hj, h4, law3.stays W2 hk, MapKept.run_setObj_map _ h2, Result.andThen, setBlock]
      obtain ⟨h5, h6⟩ := hinj (hup.symm.trans hup2)
      exact ⟨es', clock', hst, .inr ⟨j, e0, h3, h4, hv, h5, h6⟩⟩
theorem MapI.row {W : World} {n0 m : Nat} {l : List Int} {z : Nat} {es : Array MapEntry} {clock : Nat} (h : MapI W n0 m l z es clock) {k : Nat} (hk : eRow es k) : k < W.heap.size ∧ n0 ≤ k ∧ ∃ cs, W.heap[k]? = some (.cells cs 3 (0, 0)) := by
  obtain ⟨e, he, hek⟩ := hk
  obtain ⟨p, _, _, hi⟩ := h.ent e he
  exact ⟨hi.lt k hek, Kd.R_base hi k hek, Kd.R_typed hi k hek⟩
theorem posS_other {l : List Int} {z p : Nat} (hp : p + 3 ≤ l.length) (hne : keyV l p ≠ keyV l z) : posS l (z + 1) p = posS l z p := by
  rw [posS_succ, if_neg (fun h => hne ((keyed_iff hp).1 h).2.symm), List.append_nil]
theorem posS_self {l : List Int} {z : Nat} (hz : z + 3 ≤ l.length) : posS l (z + 1) z = posS l z z ++ [z] := by
  rw [posS_succ, if_pos ((keyed_iff hz).2 ⟨hz, rfl⟩)]
theorem MapI.next {W W' : World} {n0 m : Nat} {l : List Int} {z : Nat} {es es' : Array MapEntry} {clock clock' : Nat} {val v0 : Value} (h : MapI W n0 m l z es clock) (hz : z + 3 ≤ l.length) (hat : W'.heap[m]? = some (.map es' clock'))
    (hes : ((∀ x ∈ es.toList, x.key ≠ keyV l z) ∧ v0 = .slice none 0 0 ∧ es' = es.push ⟨keyV l z, val, clock⟩ ∧ clock' = clock + 1) ∨ ∃ j e0, es.toList[j]? = some e0 ∧ e0.key = keyV l z ∧ v0 = e0.val ∧ es' = es.modify j (fun e' => { e' with key := keyV l z, val := val }) ∧ clock' = clock)
    (hv : IR W' n0 val (pI (posS l z z ++ [z]))) (hown : val.ownBlock = v0.ownBlock ∨ ∃ k, val.ownBlock = some k ∧ W.heap.size ≤ k) (hrest : ∀ k, k < W.heap.size → eRow es k → v0.ownBlock ≠ some k → W'.heap[k]? = W.heap[k]?) :
    MapI W' n0 m l (z + 1) es' clock' ∧ ∀ k, eRow es' k → eRow es k ∨ W.heap.size ≤ k := by
  rcases hes with ⟨hno, rfl, rfl, rfl⟩ | ⟨j, e0, hj, hk0, rfl, rfl, rfl⟩
  · have hval : ∀ k, val.ownBlock = some k → W.heap.size ≤ k := fun k hk => by
      rcases hown with h1 | ⟨k', h1, h2⟩
      · rw [h1] at hk
        cases hk
      · rw [h1] at hk
        cases hk
        exact h2
    refine ⟨⟨hat, stamped_push h.st hno, fun e he => ?_, fun p hp h3 => ?_, ?_, by have := h.size; simp; omega⟩, fun k hk => ?_⟩
    · rw [Array.toList_push] at he
      rcases List.mem_append.1 he with he | he
      · obtain ⟨p, h1, h2, h3⟩ := h.ent e he
        refine ⟨p, h1, h2, ?_⟩
        rw [posS_other h1 (fun e1 => hno e he (h2.trans e1))]
        exact h3.moved fun k hk => hrest k (h3.lt k hk) ⟨e, he, hk⟩ (by simp [Value.ownBlock])
      · obtain rfl : e = _ := by simpa using he
        exact ⟨z, hz, rfl, by rw [posS_self hz]; exact hv⟩
    · rw [Array.toList_push]
      by_cases hpz : p = z
      · subst hpz
        exact ⟨_, List.mem_append_right _ (List.mem_singleton.2 rfl), rfl⟩
      · obtain ⟨e, he, hek⟩ := h.all p (by omega) h3
        exact ⟨e, List.mem_append_left _ he, hek⟩
    · rw [Array.toList_push]
      refine List.pairwise_append.2 ⟨h.apart, List.pairwise_singleton _ _, fun e he f hf k hk hf2 => ?_⟩
      obtain rfl : f = _ := by simpa using hf
      have := hval k hf2
      have := (h.row ⟨e, he, hk⟩).1
      omega
    · obtain ⟨e, he, hek⟩ := hk
      rw [Array.toList_push] at he
      rcases List.mem_append.1 he with he | he
      · exact .inl ⟨e, he, hek⟩
      · obtain rfl : e = _ := by simpa using he
        exact .inr (hval k hek)
  · have hm0 : e0 ∈ es.toList := List.mem_of_getElem? hj
    have hset : (es.modify j (fun e' => { e' with key := keyV l z, val := val })).toList = es.toList.set j { e0 with key := keyV l z, val := val } := by
      rw [Array.toList_modify, modify_eq_set _ _ _ _ hj]
    obtain ⟨hjl, hje⟩ := List.getElem?_eq_some_iff.1 hj
    have hkeys := ((stamped_iff _ _).1 h.st).2.2
    have hother : ∀ i x, es.toList[i]? = some x → i ≠ j → x.key ≠ keyV l z := fun i x hi hne => by
      obtain ⟨a1, a2⟩ := List.getElem?_eq_some_iff.1 hi
      rw [← a2, ← hk0, ← hje]
      rcases Nat.lt_or_gt_of_ne hne with h | h
      · exact List.pairwise_iff_getElem.1 hkeys i j a1 hjl h
      · exact fun e1 => List.pairwise_iff_getElem.1 hkeys j i hjl a1 h e1.symm
    have hap : ∀ i x, es.toList[i]? = some x → i ≠ j → ∀ k, x.val.ownBlock = some k → e0.val.ownBlock ≠ some k := fun i x hi hne k hk hk2 => by
      obtain ⟨a1, a2⟩ := List.getElem?_eq_some_iff.1 hi
      rcases Nat.lt_or_gt_of_ne hne with h1 | h1
      · exact List.pairwise_iff_getElem.1 h.apart i j a1 hjl h1 k (by rw [a2]; exact hk) (by rw [hje]; exact hk2)
      · exact List.pairwise_iff_getElem.1 h.apart j i hjl a1 h1 k (by rw [hje]; exact hk2) (by rw [a2]; exact hk)
    have hmem : ∀ x, x ∈ (es.modify j (fun e' => { e' with key := keyV l z, val := val })).toList → (∃ i, i ≠ j ∧ es.toList[i]? = some x) ∨ x = { e0 with key := keyV l z, val := val } := fun x hx => by
      rw [hset] at hx
      obtain ⟨i, hi⟩ := List.getElem?_of_mem hx
      by_cases hij : i = j
      · subst hij
        rw [List.getElem?_set_self hjl] at hi
        exact .inr (Option.some.inj hi).symm
      · rw [List.getElem?_set_ne (fun e => hij e.symm)] at hi
        exact .inl ⟨i, hij, hi⟩
    have hvx : ∀ k, val.ownBlock = some k → e0.val.ownBlock = some k ∨ W.heap.size ≤ k := fun k hk => by
      rcases hown with h1 | ⟨k', h1, h2⟩
      · exact .inl (h1.symm.trans hk)
      · rw [h1] at hk
        cases hk
        exact .inr h2
    have hfar : ∀ i x, es.toList[i]? = some x → i ≠ j → ∀ k, x.val.ownBlock = some k → val.ownBlock ≠ some k := fun i x hi hne k hk hk2 => by
      rcases hvx k hk2 with h1 | h1
      · exact hap i x hi hne k hk h1
      · have := (h.row ⟨x, List.mem_of_getElem? hi, hk⟩).1
        omega
    refine ⟨⟨hat, ?_, fun e he => ?_, fun p hp h3 => ?_, ?_, by have := h.size; simp; omega⟩, fun k hk => ?_⟩
    · exact stamped_modify h.st _ _ (fun _ _ => rfl) (fun e' _ he' => by
        have hj' : es[j]? = some e0 := by simpa using hj
        rw [hj'] at he'
        cases he'
        exact hk0.symm)
    · rcases hmem e he with ⟨i, hij, hi⟩ | rfl
      · obtain ⟨p, h1, h2, h3⟩ := h.ent e (List.mem_of_getElem? hi)
        refine ⟨p, h1, h2, ?_⟩
        rw [posS_other h1 (fun e1 => hother i e hi hij (h2.trans e1))]
        exact h3.moved fun k hk => hrest k (h3.lt k hk) ⟨e, List.mem_of_getElem? hi, hk⟩ (hap i e hi hij k hk)
      · exact ⟨z, hz, rfl, by rw [posS_self hz]; exact hv⟩
    · rw [hset]
      have hnew : ({ e0 with key := keyV l z, val := val } : MapEntry) ∈ es.toList.set j { e0 with key := keyV l z, val := val } := List.mem_of_getElem? (List.getElem?_set_self hjl)
      by_cases hpz : p = z
      · subst hpz
        exact ⟨_, hnew, rfl⟩
      · obtain ⟨e, he, hek⟩ := h.all p (by omega) h3
        obtain ⟨i, hi⟩ := List.getElem?_of_mem he
        by_cases hij : i = j
        · subst hij
          rw [hj] at hi
          cases hi
          exact ⟨_, hnew, hk0.symm.trans hek⟩
        · exact ⟨e, List.mem_of_getElem? (by rw [List.getElem?_set_ne (fun e => hij e.symm)]; exact hi), hek⟩
    · rw [hset]
      refine List.pairwise_iff_getElem.2 fun i i' hi hi' hlt k hk hk2 => ?_
      have e1 : (es.toList.set j { e0 with key := keyV l z, val := val })[i]? = some (es.toList.set j { e0 with key := keyV l z, val := val })[i] := List.getElem?_eq_getElem hi
      have e2 : (es.toList.set j { e0 with key := keyV l z, val := val })[i']? = some (es.toList.set j { e0 with key := keyV l z, val := val })[i'] := List.getElem?_eq_getElem hi'
      generalize (es.toList.set j { e0 with key := keyV l z, val := val })[i] = x at e1 hk
      generalize (es.toList.set j { e0 with key := keyV l z, val := val })[i'] = x' at e2 hk2
      by_cases hij : i = j
      · have hij' : i' ≠ j := by omega
        subst hij
        rw [List.getElem?_set_self hjl] at e1
        rw [List.getElem?_set_ne (fun e => hij' e.symm)] at e2
        obtain rfl := Option.some.inj e1
        exact hfar i' x' e2 hij' k hk2 hk
      · rw [List.getElem?_set_ne (fun e => hij e.symm)] at e1
        by_cases hij' : i' = j
        · subst hij'
          rw [List.getElem?_set_self hjl] at e2
          obtain rfl := Option.some.inj e2
          exact hfar i x e1 hij k hk hk2
        · rw [List.getElem?_set_ne (fun e => hij' e.symm)] at e2
          obtain ⟨a1, a2⟩ := List.getElem?_eq_some_iff.1 e1
          obtain ⟨b1, b2⟩ := List.getElem?_eq_some_iff.1 e2
          exact List.pairwise_iff_getElem.1 h.apart i i' a1 b1 hlt k (by rw [a2]; exact hk) (by rw [b2]; exact hk2)
    · obtain ⟨e, he, hek⟩ := hk
      rcases hmem e he with ⟨i, hij, hi⟩ | rfl
      · exact .inl ⟨e, List.mem_of_getElem? hi, hek⟩
      · rcases hvx k hek with h1 | h1
        · exact .inl ⟨e0, hm0, h1⟩
        · exact .inr h1
end Go.Proofs.Ythoioccmnphfgaa.G

namespace Go.Proofs.Ythoioccmnphfgaa.G
open Go.RowKit Go.Shelf Go.Proofs.YthoioccmnphfgaaW.PrintWords Go.Proofs.YthoioccmnphfgaaW.PrintLast Go.Proofs.YthoioccmnphfgaaW.PrintMore
open Go.WideMaps Go.MapKept Go.ChangeMaps
set_option linter.unusedVariables false
set_option linter.unusedSimpArgs false
theorem MapI.skip {W W' : World} {n0 m : Nat} {l : List Int} {z : Nat} {es : Array MapEntry} {clock : Nat} (h : MapI W n0 m l z es clock) (hz : ¬ z + 3 ≤ l.length) : MapI W n0 m l (z + 1) es clock := by
  refine ⟨h.at_, h.st, fun e he => ?_, fun p hp h3 => h.all p (by omega) h3, h.apart, by have := h.size; omega⟩
  obtain ⟨p, h1, h2, h3⟩ := h.ent e he
  refine ⟨p, h1, h2, ?_⟩
  rw [posS_succ, if_neg (fun hk => hz ((keyed_iff h1).1 hk).1), List.append_nil]
  exact h3
def SeeP (W : World) (n0 m : Nat) (l : List Int) (z : Nat) (es : Array MapEntry) (W' : World) : Prop := ∃ es' clock', MapI W' n0 m l (z + 1) es' clock' ∧ (∀ k, eRow es' k → eRow es k ∨ W.heap.size ≤ k) ∧ Below n0 W W' ∧ Kept W W' (fun k => k = m ∨ eRow es k)
theorem arr_at (A : Option Addr) (c : Nat) (W : World) : (Instr.arrayAt 91 (.slice A 3 c)).run Try.prog W = .ok (.pointer A) W := by
  have hu : Try.prog.underlying 91 = some (.array 3 3) := by kernel_rfl
  simp [Instr.arrayAt, run_underlying hu]
set_option maxRecDepth 100000 in
set_option maxHeartbeats 4000000 in
theorem see_calls (l : List Int) (A0 : Option Addr) (c0 b bm m z n0 : Nat) (W : World) (es : Array MapEntry) (clock : Nat) (hb : Boxed W b 26 (.slice A0 l.length c0)) (hr : Kd.C (Kd.int .i64) W A0 l.length l) (hc : l.length ≤ c0) (hbm : Boxed W bm 89 (.map (some m))) (hM : MapI W n0 m l z es clock) (hl : l.all inI = true) (hlen : l.length ≤ 1000) (hz : z < l.length) (hn0 : n0 ≤ W.heap.size) (hm0 : n0 ≤ m) :
    Calls Try.prog 62 #[.int .i64 z, .pointer (some ⟨b, 0, none⟩), .pointer (some ⟨bm, 0, none⟩)] W fun e W' => (∃ v, e = .returned v) ∧ SeeP W n0 m l z es W' := by
  have cB := hb.cell
  have cM := hbm.cell
  have hw1 := wr_add z 3 (by omega)
  obtain ⟨z3, hz3⟩ : ∃ z3, z3 = z + 3 := ⟨_, rfl⟩
  rw [← hz3] at hw1
  replace hw1 : IntKind.i64.wrap ((z : Int) + 3) = (z3 : Int) := hw1
  by_cases h3 : z3 ≤ l.length
  · have h3i : (z3 : Int) ≤ (l.length : Int) := by omega
    obtain ⟨ad, rfl, hx0⟩ := cell_int hr z hz
    obtain ⟨ad', e1, hx1⟩ := cell_int hr (z + 1) (by omega)
    cases e1
    obtain ⟨ad', e2, hx2⟩ := cell_int hr (z + 2) (by omega)
    cases e2
    have y1 : W.cell? ⟨(ad.add z).block, (ad.add z).off + 1, none⟩ = some (.int .i64 (l.getD (z + 1) 0)) := by rw [← add_field _ _ 1 (by omega)]; exact hx1
    have y2 : W.cell? ⟨(ad.add z).block, (ad.add z).off + 2, none⟩ = some (.int .i64 (l.getD (z + 2) 0)) := by rw [← add_field _ _ 2 (by omega)]; exact hx2
    clear hx1 hx2
    obtain ⟨x0, hx0e⟩ : ∃ x, x = l.getD z 0 := ⟨_, rfl⟩
    obtain ⟨x1, hx1e⟩ : ∃ x, x = l.getD (z + 1) 0 := ⟨_, rfl⟩
    obtain ⟨x2, hx2e⟩ : ∃ x, x = l.getD (z + 2) 0 := ⟨_, rfl⟩
    rw [← hx0e] at hx0
    rw [← hx1e] at y1
    rw [← hx2e] at y2
    have hkv : keyV l z = .agg #[.int .i64 x0, .int .i64 x1, .int .i64 x2] := by unfold keyV; rw [hx0e, hx1e, hx2e]
    have HK := Aside0.mk hkv
    clear hx0e hx1e hx2e hkv
    have a1 : (z : Int) ≤ (z3 : Int) := by omega
    have a2 : (z3 : Int) ≤ (c0 : Int) := by omega
    have a3 : z3 - z = 3 := by omega
    have a4 : ¬ c0 = z := by omega
    have a5 := arr_at (some (ad.add z)) (c0 - z)
    obtain ⟨W2, hW2⟩ : ∃ W2, W2 = (W.alloc (.cells #[.int .i64 x0, .int .i64 x1, .int .i64 x2] 91)).alloc (.cells #[.int .i64 z] 3) := ⟨_, rfl⟩
    have hB2 : Below W.heap.size W W2 := by rw [hW2]; exact below_alloc (below_alloc (Below.refl _ _) _) _
    have cM1 : (W.alloc (.cells #[.int .i64 x0, .int .i64 x1, .int .i64 x2] 91)).cell? ⟨bm, 0, none⟩ = some (.map (some m)) := (hbm.alloc _).cell
    have h2 : W2.heap[m]? = some (.map es clock) := (hB2.block m (Array.getElem?_eq_some_iff.1 hM.at_).1).trans hM.at_
    obtain ⟨v0, st, es1, clock1, hE, i0, hv0, hS⟩ := hM.entry hl (by omega) (by omega) W2 h2
    rw [HK.out] at hE
    obtain ⟨A9, c9, e9⟩ := Kd.R_slice i0
    obtain ⟨n9, hn9⟩ : ∃ n9, n9 = (pI (posS l z z)).length := ⟨_, rfl⟩
    rw [← hn9] at e9
    subst e9
    rw [hW2] at hE
    have HM := Aside0.mk (And.intro hM (And.intro hb (And.intro hbm (And.intro hr (And.intro hl (And.intro hz3 hlen))))))
    have HE := Aside0.mk (And.intro hW2 (And.intro hB2 (And.intro h2 (And.intro i0 (And.intro hv0 (And.intro hS hn9))))))
    have hmW : m < W.heap.size := (Array.getElem?_eq_some_iff.1 hM.at_).1
    have hnm : ∀ k, (Value.slice A9 n9 c9).ownBlock = some k → k ≠ m := fun k hk e => by
      obtain ⟨cs, hcs⟩ := Kd.R_typed i0 k hk
      rw [e, hM.at_] at hcs
      cases hcs
    have i3 : IR (setBlock W2 m (.map es1 clock1)) n0 (.slice A9 n9 c9) (pI (posS l z z)) := i0.moved fun k hk => by
      rw [heap_setBlock_other h2 _ (hnm k hk)]
      exact hB2.block k (i0.lt k hk)
    have hs2 : W2.heap.size = W.heap.size + 2 := by rw [hW2]; simp
    have hlit : (setBlock W2 m (.map es1 clock1)).heap[W.heap.size + 1]? = some (.cells #[.int .i64 z] 3 (0, 0)) := by
      rw [heap_setBlock_other h2 _ (by omega), hW2]
      have := World.alloc_heap_new (W.alloc (.cells #[.int .i64 x0, .int .i64 x1, .int .i64 x2] 91)) (.cells #[.int .i64 z] 3)
      rwa [World.size_alloc] at this
    have c3 : Kd.C (Kd.int .i64) (setBlock W2 m (.map es1 clock1)) (some ⟨W.heap.size + 1, 0, none⟩) 1 [(z : Int)] := ⟨rfl, by omega, fun _ => ⟨_, rfl, fun j p hj => by
      obtain ⟨rfl, rfl⟩ : j = 0 ∧ p = (z : Int) := by
        cases j with
        | zero => simp at hj; exact ⟨rfl, hj.symm⟩
        | succ j => simp at hj
      refine ⟨[.int .i64 (z : Int)], rfl, rfl, fun q u hq => ?_⟩
      rw [Addr.add_lit, cell_of_row _ (W.heap.size + 1) _ _ _ (0, 0) hlit, ← hq]
      simp⟩⟩
    have h3s : (setBlock W2 m (.map es1 clock1)).heap.size = W2.heap.size := by simp [setBlock]
    have hpl := posS_len l z z
    have H3 := Aside0.mk (And.intro i3 (And.intro c3 (And.intro (show n0 ≤ (setBlock W2 m (.map es1 clock1)).heap.size by omega) (And.intro (show ((pI (posS l z z)).length + 1) * 8 ≤ 140737488355328 by rw [pI_len]; omega) (show ∀ (w4 : World) (v1 : Value), (setBlock W2 m (.map es1 clock1)).grownBy w4 (Value.slice A9 n9 c9).ownBlock → ∃ es' clock', (Instr.entryStore 89 (.map (some m)) (goInt st) v1).run Try.prog w4 = .ok () (setBlock w4 m (.map es' clock')) ∧ _ from fun w4 v1 hg => hS w4 v1 ((hg.block m (by omega) (fun e => hnm m e.symm rfl)).trans (heap_setBlock_same h2 _)))))))
    rw [hW2] at H3
    clear hM hb hbm hr hl hz3 hlen hmW hnm i3 hs2 hlit c3 h3s hpl hW2 hB2 h2 i0 hv0 hS hn9
    go_enter Try.func62, Try.ntmps62
    go_wp2_with ((with_reducible refine gate_builtin (b := .append) (xs := #[.tmp 19, .tmp 21]) rfl ?_); at_builtin; refine Kd.R_append_rows (Kd.int .i64) (w0 := setBlock ((W.alloc (.cells #[.int .i64 x0, .int .i64 x1, .int .i64 x2] 91)).alloc (.cells #[.int .i64 z] 3)) m (.map es1 clock1)) n0 rfl (.tmp 19) (.tmp 21) 26 3 (.int .i64 0) 8 rfl Try.underlying26 info3 rfl (by decide) (by omega) (.slice A9 n9 c9) (pI (posS l z z)) [(z : Int)] (some ⟨W.heap.size + 1, 0, none⟩) 1 1 (fun _ => True) (fun _ => False) rfl rfl H3.out.1 H3.out.2.1 (fun _ _ h => h) (fun _ h => h.elim) (fun _ _ => trivial) (Below.refl _ _) H3.out.2.2.1 H3.out.2.2.2.1 ?_; intro v1 w4 ho1 hb1 hg1 hat1; obtain ⟨es', clock', hst, hd⟩ := H3.out.2.2.2.2 w4 v1 hg1; obtain ⟨A8, c8, e8⟩ := Kd.R_slice ho1; obtain ⟨n8, hn8⟩ : ∃ n8, n8 = (pI (posS l z z) ++ [(z : Int)]).length := ⟨_, rfl⟩; rw [← hn8] at e8; subst e8; have hst' : (Instr.entryStore 89 (.map (some m)) (.int .i64 st) (.slice A8 n8 c8)).run Try.prog w4 = .ok () (setBlock w4 m (.map es' clock')) := hst; clear hst; have HO := Aside0.mk (And.intro ho1 (And.intro hg1 (And.intro hat1 hd))); clear ho1 hb1 hg1 hat1 hd hn8)
    go_end0
    obtain ⟨ho1, hg1, hat1, hd⟩ := HO.out
    obtain ⟨hM, hb, hbm, hr, hl, hz3, hlen⟩ := HM.out
    obtain ⟨hW2, hB2, h2, i0, hv0, hS, hn9⟩ := HE.out
    rw [← hW2] at hg1 hat1
    have hnm : ∀ k, (Value.slice A9 n9 c9).ownBlock = some k → k ≠ m := fun k hk e => by
      obtain ⟨cs, hcs⟩ := Kd.R_typed i0 k hk
      rw [e, hM.at_] at hcs
      cases hcs
    have hmW : m < W.heap.size := (Array.getElem?_eq_some_iff.1 hM.at_).1
    have h3s : (setBlock W2 m (.map es1 clock1)).heap.size = W2.heap.size := by simp [setBlock]
    have hz2 := hB2.size
    have hw4 : w4.heap[m]? = some (.map es1 clock1) := (hg1.block m (by omega) (fun e => hnm m e.symm rfl)).trans (heap_setBlock_same h2 _)
    have hkeep : ∀ k, k < W.heap.size → k ≠ m → (Value.slice A9 n9 c9).ownBlock ≠ some k → (setBlock w4 m (.map es' clock')).heap[k]? = W.heap[k]? := fun k hk e1 e2 => by
      rw [heap_setBlock_other hw4 _ e1, hg1.block k (by omega) (fun e => e2 e.symm), heap_setBlock_other h2 _ e1]
      exact hB2.block k hk
    have hown : ∀ k, (Value.slice A8 n8 c8).ownBlock = some k → k ≠ m := fun k hk e => by
      obtain ⟨cs, hcs⟩ := Kd.R_typed ho1 k hk
      rw [e, hw4] at hcs
      cases hcs
    have hiv : IR (setBlock w4 m (.map es' clock')) n0 (.slice A8 n8 c8) (pI (posS l z z ++ [z])) := by
      have e : pI (posS l z z ++ [z]) = pI (posS l z z) ++ [(z : Int)] := by simp [pI]
      rw [e]
      exact IR.moved (show IR w4 n0 _ _ from ho1) fun k hk => heap_setBlock_other hw4 _ (hown k hk)
    have hn := hM.next (by omega) (heap_setBlock_same hw4 (.map es' clock')) hd hiv (by
      rcases hat1 with h | ⟨k, h, h5⟩
      · exact .inl h
      · exact .inr ⟨k, h, by omega⟩) (fun k hk he h5 => hkeep k hk (fun e => by
        obtain ⟨_, _, cs, hcs⟩ := hM.row he
        rw [e, hM.at_] at hcs
        cases hcs) h5)
    have hrow0 : ∀ k, (Value.slice A9 n9 c9).ownBlock = some k → eRow es k := fun k hk => by
      rcases hv0 with e | ⟨e, he, hev⟩
      · rw [e] at hk
        cases hk
      · exact ⟨e, he, by rw [hev]; exact hk⟩
    refine ⟨⟨_, rfl⟩, es', clock', hn.1, hn.2, ?_, ?_⟩
    · have b1 : Below n0 W (setBlock W2 m (.map es1 clock1)) := by
        refine (hB2.mono hn0).trans ⟨rfl, rfl, rfl, by simp [setBlock], fun k hk => heap_setBlock_other h2 _ (by omega)⟩
      have b2 : Below n0 W w4 := b1.grown hg1 (by omega) (fun k hk => (hM.row (hrow0 k hk)).2.1)
      exact b2.trans ⟨rfl, rfl, rfl, by simp [setBlock], fun k hk => heap_setBlock_other hw4 _ (by omega)⟩
    · refine ⟨?_, fun k hk hS => hkeep k hk (fun e => hS (.inl e)) (fun e => hS (.inr (hrow0 k e)))⟩
      have := hg1.size
      have : (setBlock w4 m (.map es' clock')).heap.size = w4.heap.size := by simp [setBlock]
      omega
  · have h3i : ¬ ((z3 : Int) ≤ (l.length : Int)) := by omega
    have HM := Aside0.mk hM
    have HZ := Aside0.mk hz3
    clear hM hz3
    go_enter Try.func62, Try.ntmps62
    go_wp2
    go_end0
    exact ⟨⟨_, rfl⟩, es, clock, HM.out.skip (W' := W) (by have := HZ.out; omega), fun k hk => .inl hk, Below.refl _ _, Kept.refl _ _⟩
end Go.Proofs.Ythoioccmnphfgaa.G

namespace Go.Proofs.Ythoioccmnphfgaa.G
open Go.RowKit Go.Shelf Go.Proofs.YthoioccmnphfgaaW.PrintWords Go.Proofs.YthoioccmnphfgaaW.PrintLast Go.Proofs.YthoioccmnphfgaaW.PrintMore
open Go.WideMaps Go.MapKept Go.ChangeMaps
set_option linter.unusedVariables false
set_option linter.unusedSimpArgs false
def impl_pack.f (k : Nat) (l : List Int) : Option (List Int) := if l.length ≤ 1000 ∧ l.all inI = true then some (Pu.packW (Pu.implM l) l (l.length + 1) 0 [] []) else none
theorem near_le (n : Nat → Nat) (m : Nat) (hn : ∀ b, n b ≤ m) (z : Nat) : ∀ (ps : List Nat) (s : Nat × Nat), s.1 ≤ m → (Pu.near n z ps s).1 ≤ m
  | [], s, h => h
  | p :: ps, s, h => by
    unfold Pu.near
    split
    · exact h
    · refine near_le n m hn z ps _ ?_
      split
      · exact hn _
      · exact h
theorem implM_le (l : List Int) (z : Nat) (hz : z ≤ l.length) : (Pu.implM l z).1 ≤ l.length - z ∧ (Pu.implM l z).1 ≤ 66 := by
  unfold Pu.implM
  split
  · refine ⟨near_le _ _ (fun b => ?_) _ _ _ (Nat.zero_le _), near_le _ _ (fun b => ?_) _ _ _ (Nat.zero_le _)⟩
    · have := Pu.alike_le 66 (l.drop (z - b)) (l.drop z)
      rwa [List.length_drop] at this
    · exact alike_le_m 66 _ _
  · exact ⟨Nat.zero_le _, Nat.zero_le _⟩
theorem plainV_len (l : List Int) : (Pu.plainV l).length ≤ 2 * l.length := by
  rw [plainV_eq, List.length_flatMap]
  have h1 : ∀ j ∈ List.range (chN l.length), (pcOf l j).length = min 64 (l.length - 64 * j) + 1 := fun j hj => by
    unfold pcOf
    rw [List.length_cons, List.length_take, List.length_drop]
  have h2 : ∀ n, ((List.range n).map fun j => (pcOf l j).length).sum ≤ min (64 * n) l.length + n := fun n => by
    induction n with
    | zero => simp
    | succ n ih =>
      rw [List.range_succ, List.map_append, List.sum_append]
      have : (pcOf l n).length = min 64 (l.length - 64 * n) + 1 := by unfold pcOf; rw [List.length_cons, List.length_take, List.length_drop]
      simp only [List.map_cons, List.map_nil, List.sum_cons, List.sum_nil, this]
      omega
  have h3 := h2 (chN l.length)
  have : chN l.length ≤ l.length := by unfold chN; omega
  omega
theorem MapI.keep {W W' : World} {n0 m : Nat} {l : List Int} {z : Nat} {es : Array MapEntry} {clock : Nat} (h : MapI W n0 m l z es clock) (hk : ∀ k, k = m ∨ eRow es k → W'.heap[k]? = W.heap[k]?) : MapI W' n0 m l z es clock := by
  refine ⟨(hk m (.inl rfl)).trans h.at_, h.st, fun e he => ?_, h.all, h.apart, h.size⟩
  obtain ⟨p, h1, h2, h3⟩ := h.ent e he
  exact ⟨p, h1, h2, h3.moved fun k hk1 => hk k (.inr ⟨e, he, hk1⟩)⟩
/-- The memory of a call of pack. -/
structure PkS (w : World) (A0 : Option Addr) (c0 : Nat) (l : List Int) (b bo bp bm m z : Nat) (out plain : List Int) (vo vp : Value) (es : Array MapEntry) (clock : Nat) (W : World) : Prop where
  bB : Boxed W b 26 (.slice A0 l.length c0)
  bO : Boxed W bo 26 vo
  bP : Boxed W bp 26 vp
  bM : Boxed W bm 89 (.map (some m))
  iO : IR W w.heap.size vo out
  iP : IR W w.heap.size vp plain
  sep : ∀ k, vp.ownBlock = some k → vo.ownBlock ≠ some k
  mp : MapI W w.heap.size m l z es clock
  row : ∀ k, eRow es k → vo.ownBlock ≠ some k ∧ vp.ownBlock ≠ some k
  bel : Below w.heap.size w W
section
variable {w : World} {A0 : Option Addr} {c0 : Nat} {l : List Int} {b bo bp bm m z : Nat} {out plain out' plain' : List Int} {vo vp vo' vp' : Value} {es : Array MapEntry} {clock : Nat} {W W' : World}
theorem PkS.mlt (h : PkS w A0 c0 l b bo bp bm m z out plain vo vp es clock W) : m < W.heap.size := (Array.getElem?_eq_some_iff.1 h.mp.at_).1
theorem PkS.no_m {t : TypeId} {v : Value} {x : Nat} (h : PkS w A0 c0 l b bo bp bm m z out plain vo vp es clock W) (hx : Boxed W x t v) : x ≠ m := fun e => by
  have h1 := h.mp.at_
  rw [← e, show W.heap[x]? = _ from hx] at h1
  cases h1
theorem PkS.ir_m {v : Value} {xs : List Int} (h : PkS w A0 c0 l b bo bp bm m z out plain vo vp es clock W) (hi : IR W w.heap.size v xs) : ∀ k, v.ownBlock = some k → k ≠ m := fun k hk e => by
  obtain ⟨cs, hc⟩ := Kd.R_typed hi k hk
  rw [e, h.mp.at_] at hc
  cases hc
theorem PkS.no_row {t : TypeId} {v : Value} {x : Nat} (h : PkS w A0 c0 l b bo bp bm m z out plain vo vp es clock W) (hx : Boxed W x t v) (ht : t ≠ 3) : ¬ eRow es x := fun e => by
  obtain ⟨_, _, cs, hc⟩ := h.mp.row e
  rw [show W.heap[x]? = _ from hx] at hc
  cases hc
  exact ht rfl
/-- The rows of what is out and what is plain have been written. -/
theorem PkS.upd (h : PkS w A0 c0 l b bo bp bm m z out plain vo vp es clock W) (hbo : b ≠ bo) (hbp : b ≠ bp) (hmo : bm ≠ bo) (hmp : bm ≠ bp) (hk : Kept W W' (fun k => k = bo ∨ k = bp ∨ some k = vo.ownBlock ∨ some k = vp.ownBlock)) (hB : Below w.heap.size W W')
    (bO : Boxed W' bo 26 vo') (bP : Boxed W' bp 26 vp') (iO : IR W' w.heap.size vo' out') (iP : IR W' w.heap.size vp' plain') (hs : ∀ k, vp'.ownBlock = some k → vo'.ownBlock ≠ some k)
    (ho : ∀ k, vo'.ownBlock = some k → vo.ownBlock = some k ∨ W.heap.size ≤ k) (hp : ∀ k, vp'.ownBlock = some k → vp.ownBlock = some k ∨ W.heap.size ≤ k) : PkS w A0 c0 l b bo bp bm m z out' plain' vo' vp' es clock W' := by
  have hx : ∀ {x t v}, Boxed W x t v → 3 ≠ t → x ≠ bo → x ≠ bp → Boxed W' x t v := fun {x t v} hx ht e1 e2 => (hk.2 x hx.lt (fun e => by
    rcases e with e | e | e | e
    · exact e1 e
    · exact e2 e
    · exact h.iO.box ht hx e
    · exact h.iP.box ht hx e)).trans hx
  refine ⟨hx h.bB (by decide) hbo hbp, bO, bP, hx h.bM (by decide) hmo hmp, iO, iP, hs, h.mp.keep fun k hk1 => hk.2 k ?_ ?_, fun k hr => ⟨fun e => ?_, fun e => ?_⟩, h.bel.trans hB⟩
  · rcases hk1 with rfl | hk1
    · exact h.mlt
    · exact (h.mp.row hk1).1
  · intro e
    rcases hk1 with rfl | hk1
    · rcases e with e | e | e | e
      · exact h.no_m h.bO e.symm
      · exact h.no_m h.bP e.symm
      · exact h.ir_m h.iO _ e.symm rfl
      · exact h.ir_m h.iP _ e.symm rfl
    · rcases e with rfl | rfl | e | e
      · exact h.no_row h.bO (by decide) hk1
      · exact h.no_row h.bP (by decide) hk1
      · exact (h.row k hk1).1 e.symm
      · exact (h.row k hk1).2 e.symm
  · rcases ho k e with h1 | h1
    · exact (h.row k hr).1 h1
    · have := (h.mp.row hr).1
      omega
  · rcases hp k e with h1 | h1
    · exact (h.row k hr).2 h1
    · have := (h.mp.row hr).1
      omega
theorem PkS.below (h : PkS w A0 c0 l b bo bp bm m z out plain vo vp es clock W) (hB : Below W.heap.size W W') : PkS w A0 c0 l b bo bp bm m z out plain vo vp es clock W' := by
  have hx : ∀ {x t v}, Boxed W x t v → Boxed W' x t v := fun {x t v} hx => (hB.block x hx.lt).trans hx
  refine ⟨hx h.bB, hx h.bO, hx h.bP, hx h.bM, h.iO.moved fun k hk => hB.block k (h.iO.lt k hk), h.iP.moved fun k hk => hB.block k (h.iP.lt k hk), h.sep, h.mp.keep fun k hk => hB.block k ?_, h.row, h.bel.trans (hB.mono h.bel.size)⟩
  rcases hk with rfl | hk
  · exact h.mlt
  · exact (h.mp.row hk).1
theorem PkS.seen (h : PkS w A0 c0 l b bo bp bm m z out plain vo vp es clock W) (hs : SeeP W w.heap.size m l z es W') : ∃ es' clock', PkS w A0 c0 l b bo bp bm m (z + 1) out plain vo vp es' clock' W' := by
  obtain ⟨es', clock', h1, h2, h3, h4⟩ := hs
  have hx : ∀ {x t v}, Boxed W x t v → t ≠ 3 → Boxed W' x t v := fun {x t v} hx ht => (h4.2 x hx.lt (fun e => by
    rcases e with e | e
    · exact h.no_m hx e
    · exact h.no_row hx ht e)).trans hx
  refine ⟨es', clock', hx h.bB (by decide), hx h.bO (by decide), hx h.bP (by decide), hx h.bM (by decide), h.iO.kept h4 (fun k hk e => ?_), h.iP.kept h4 (fun k hk e => ?_), h.sep, h1, fun k hk => ?_, h.bel.trans h3⟩
  · rcases e with e | e
    · exact h.ir_m h.iO k hk e
    · exact (h.row k e).1 hk
  · rcases e with e | e
    · exact h.ir_m h.iP k hk e
    · exact (h.row k e).2 hk
  · rcases h2 k hk with h5 | h5
    · exact h.row k h5
    · exact ⟨fun e => by have := h.iO.lt k e; omega, fun e => by have := h.iP.lt k e; omega⟩
theorem PkS.boxP (h : PkS w A0 c0 l b bo bp bm m z out plain vo vp es clock W) {w3 : World} (hg : W.grownBy w3 vp.ownBlock) : Boxed w3 bp 26 vp := h.bP.kept hg (h.iP.box (by decide) h.bP)
theorem PkS.boxO (h : PkS w A0 c0 l b bo bp bm m z out plain vo vp es clock W) {w3 : World} (hg : W.grownBy w3 vo.ownBlock) : Boxed w3 bo 26 vo := h.bO.kept hg (h.iO.box (by decide) h.bO)
theorem PkS.put_plain (h : PkS w A0 c0 l b bo bp bm m z out plain vo vp es clock W) (hbo : b ≠ bo) (hbp : b ≠ bp) (hmo : bm ≠ bo) (hmp : bm ≠ bp) (hop : bo ≠ bp) (h0 : w.heap.size ≤ bp) {w3 : World} {v1 : Value} (hg : W.grownBy w3 vp.ownBlock) (hi : IR w3 w.heap.size v1 plain') (hat : v1.ownBlock = vp.ownBlock ∨ ∃ k, v1.ownBlock = some k ∧ W.heap.size ≤ k) :
    PkS w A0 c0 l b bo bp bm m z out plain' vo v1 es clock (w3.setCell ⟨bp, 0, none⟩ v1) := by
  have hb3 := h.boxP hg
  have hv : ∀ k, v1.ownBlock = some k → vp.ownBlock = some k ∨ W.heap.size ≤ k := fun k hk => by
    rcases hat with e | ⟨k', e, e2⟩
    · exact .inl (e.symm.trans hk)
    · rw [e] at hk
      cases hk
      exact .inr e2
  have hbO3 : Boxed w3 bo 26 vo := h.bO.kept hg (h.iP.box (by decide) h.bO)
  have hiO3 : IR w3 w.heap.size vo out := h.iO.grown hg (fun k hk e => h.sep k hk e.symm)
  refine h.upd hbo hbp hmo hmp (((Kept.refl W _).of_grown hg (fun k hk => .inl (.inr (.inr (.inr hk.symm))))).setCell (.inl (.inr (.inl rfl))) _) (((Below.refl _ W).grown hg h.bel.size (Kd.R_base h.iP)).setCell (p := ⟨bp, 0, none⟩) h0 _) (hbO3.other hop _) (Boxed.set _ hb3) (hiO3.setBox (by decide) hb3 _) (hi.setBox (by decide) hb3 _) (fun k hk e => ?_) (fun k hk => .inl hk) hv
  rcases hv k hk with h1 | h1
  · exact h.sep k h1 e
  · have := h.iO.lt k e
    omega
theorem PkS.put_out (h : PkS w A0 c0 l b bo bp bm m z out plain vo vp es clock W) (hbo : b ≠ bo) (hbp : b ≠ bp) (hmo : bm ≠ bo) (hmp : bm ≠ bp) (hop : bo ≠ bp) (h0 : w.heap.size ≤ bo) {w3 : World} {v1 : Value} (hg : W.grownBy w3 vo.ownBlock) (hi : IR w3 w.heap.size v1 out') (hat : v1.ownBlock = vo.ownBlock ∨ ∃ k, v1.ownBlock = some k ∧ W.heap.size ≤ k) :
    PkS w A0 c0 l b bo bp bm m z out' plain v1 vp es clock (w3.setCell ⟨bo, 0, none⟩ v1) := by
  have hb3 := h.boxO hg
  have hv : ∀ k, v1.ownBlock = some k → vo.ownBlock = some k ∨ W.heap.size ≤ k := fun k hk => by
    rcases hat with e | ⟨k', e, e2⟩
    · exact .inl (e.symm.trans hk)
    · rw [e] at hk
      cases hk
      exact .inr e2
  have hbP3 : Boxed w3 bp 26 vp := h.bP.kept hg (h.iO.box (by decide) h.bP)
  have hiP3 : IR w3 w.heap.size vp plain := h.iP.grown hg (fun k hk e => h.sep k e.symm hk)
  refine h.upd hbo hbp hmo hmp (((Kept.refl W _).of_grown hg (fun k hk => .inl (.inr (.inr (.inl hk.symm))))).setCell (.inl (.inl rfl)) _) (((Below.refl _ W).grown hg h.bel.size (Kd.R_base h.iO)).setCell (p := ⟨bo, 0, none⟩) h0 _) (Boxed.set _ hb3) (hbP3.other (fun e => hop e.symm) _) (hi.setBox (by decide) hb3 _) (hiP3.setBox (by decide) hb3 _) (fun k hk e => ?_) hv (fun k hk => .inl hk)
  rcases hv k e with h1 | h1
  · exact h.sep k hk h1
  · have := h.iP.lt k hk
    omega
end
theorem lit2_C (W : World) (x y : Int) : Kd.C (Kd.int .i64) (W.alloc (.cells #[.int .i64 x, .int .i64 y] 3)) (some ⟨W.heap.size, 0, none⟩) 2 [x, y] := ⟨rfl, by omega, fun _ => ⟨_, rfl, fun j p hj => by
  have hlit := World.alloc_heap_new W (.cells #[.int .i64 x, .int .i64 y] 3)
  match j, hj with
  | 0, hj =>
    obtain rfl : x = p := by simpa using hj
    refine ⟨[.int .i64 x], rfl, rfl, fun q u hq => ?_⟩
    match q, hq with
    | 0, hq =>
      rw [Addr.add_lit, cell_of_row _ W.heap.size _ _ _ (0, 0) hlit, ← hq]
      rfl
  | 1, hj =>
    obtain rfl : y = p := by simpa using hj
    refine ⟨[.int .i64 y], rfl, rfl, fun q u hq => ?_⟩
    match q, hq with
    | 0, hq =>
      rw [Addr.add_lit, cell_of_row _ W.heap.size _ _ _ (0, 0) hlit, ← hq]
      rfl⟩⟩
/-- What holds at the head of a round. -/
def PkI (w : World) (A0 : Option Addr) (c0 : Nat) (l : List Int) (b bo bp bm m z : Nat) (W : World) : Prop :=
  ∃ out plain vo vp es clock, PkS w A0 c0 l b bo bp bm m z out plain vo vp es clock W ∧
    (∃ k, l.length + 1 ≤ k + z ∧ Pu.packW (Pu.implM l) l k z out plain = Pu.packW (Pu.implM l) l (l.length + 1) 0 [] []) ∧ out.length + 2 * plain.length ≤ 2 * z ∧ z ≤ l.length
theorem packW_lt (M : Nat → Nat × Nat) (l : List Int) (k z : Nat) (out plain : List Int) (h : z < l.length) (hm : (M z).1 < 3) : Pu.packW M l (k + 1) z out plain = Pu.packW M l k (z + 1) out (plain ++ [l.getD z 0]) := by rw [Pu.packW, if_pos h, if_pos hm]
theorem packW_ge (M : Nat → Nat × Nat) (l : List Int) (k z : Nat) (out plain : List Int) (h : z < l.length) (hm : ¬ (M z).1 < 3) : Pu.packW M l (k + 1) z out plain = Pu.packW M l k (z + (M z).1) (out ++ Pu.plainV plain ++ [((M z).1 : Int) + 61, ((M z).2 : Int)]) [] := by rw [Pu.packW, if_pos h, if_neg hm]
def pk0 (w : World) (A0 : Option Addr) (c0 n : Nat) : World := ((((((w.alloc (.cells #[.slice A0 n c0] 26)).alloc (.cells #[] 3)).alloc (.cells #[] 3)).alloc (.cells #[.slice (some ⟨w.heap.size + 1, 0, none⟩) 0 0] 26)).alloc (.cells #[.slice (some ⟨w.heap.size + 1 + 1, 0, none⟩) 0 0] 26)).alloc (.map #[] 0)).alloc (.cells #[.map (some (w.heap.size + 1 + 1 + 1 + 1 + 1))] 89)
theorem pk_start (w : World) (A0 : Option Addr) (c0 : Nat) (l : List Int) : PkI w A0 c0 l w.heap.size (w.heap.size + 1 + 1 + 1) (w.heap.size + 1 + 1 + 1 + 1) (w.heap.size + 1 + 1 + 1 + 1 + 1 + 1) (w.heap.size + 1 + 1 + 1 + 1 + 1) 0 (pk0 w A0 c0 l.length) := by
  have hB : Below w.heap.size w (pk0 w A0 c0 l.length) := below_alloc (below_alloc (below_alloc (below_alloc (below_alloc (below_alloc (below_alloc (Below.refl _ _) _) _) _) _) _) _) _
  have g : ∀ (W : World) (o : Obj) (k : Nat), k < W.heap.size → (W.alloc o).heap[k]? = W.heap[k]? := fun W o k h => Below.heap_alloc W o k h
  have i1 : IR (pk0 w A0 c0 l.length) w.heap.size (.slice (some ⟨w.heap.size + 1, 0, none⟩) 0 0) [] := by
    have h0 : IR ((w.alloc (.cells #[.slice A0 l.length c0] 26)).alloc (.cells #[] 3)) w.heap.size (.slice (some ⟨w.heap.size + 1, 0, none⟩) 0 0) [] := by
      have := World.ownsRow_made (base := w.heap.size) (e := 3) (size := 1) (w.alloc (.cells #[.slice A0 l.length c0] 26)) #[] 0 (by simp) (by simp [maxLen]) (by simp)
      rw [World.size_alloc] at this
      exact Kd.R_of_own (xs := []) this (fun _ _ => trivial)
    refine h0.moved fun k hk => ?_
    obtain rfl : w.heap.size + 1 = k := by simpa [Value.ownBlock] using hk
    unfold pk0
    repeat rw [g _ _ _ (by simp only [World.size_alloc]; omega)]
  have i2 : IR (pk0 w A0 c0 l.length) w.heap.size (.slice (some ⟨w.heap.size + 1 + 1, 0, none⟩) 0 0) [] := by
    have h0 : IR (((w.alloc (.cells #[.slice A0 l.length c0] 26)).alloc (.cells #[] 3)).alloc (.cells #[] 3)) w.heap.size (.slice (some ⟨w.heap.size + 1 + 1, 0, none⟩) 0 0) [] := by
      have := World.ownsRow_made (base := w.heap.size) (e := 3) (size := 1) ((w.alloc (.cells #[.slice A0 l.length c0] 26)).alloc (.cells #[] 3)) #[] 0 (by simp only [World.size_alloc]; omega) (by simp [maxLen]) (by simp)
      rw [World.size_alloc, World.size_alloc] at this
      exact Kd.R_of_own (xs := []) this (fun _ _ => trivial)
    refine h0.moved fun k hk => ?_
    obtain rfl : w.heap.size + 1 + 1 = k := by simpa [Value.ownBlock] using hk
    unfold pk0
    repeat rw [g _ _ _ (by simp only [World.size_alloc]; omega)]
  refine ⟨[], [], _, _, #[], 0, ⟨?_, ?_, ?_, ?_, i1, i2, ?_, ⟨?_, stamped_empty 0, fun e he => by simp at he, fun p hp => by omega, by simp, by simp⟩, fun k ⟨e, he, _⟩ => by simp at he, hB⟩, ⟨l.length + 1, by omega, rfl⟩, by simp, Nat.zero_le _⟩
  · exact ((((((Boxed.new w _ _).alloc _).alloc _).alloc _).alloc _).alloc _).alloc _
  · have := Boxed.new (((w.alloc (.cells #[.slice A0 l.length c0] 26)).alloc (.cells #[] 3)).alloc (.cells #[] 3)) 26 (.slice (some ⟨w.heap.size + 1, 0, none⟩) 0 0)
    simp only [World.size_alloc] at this
    exact ((this.alloc _).alloc _).alloc _
  · have := Boxed.new ((((w.alloc (.cells #[.slice A0 l.length c0] 26)).alloc (.cells #[] 3)).alloc (.cells #[] 3)).alloc (.cells #[.slice (some ⟨w.heap.size + 1, 0, none⟩) 0 0] 26)) 26 (.slice (some ⟨w.heap.size + 1 + 1, 0, none⟩) 0 0)
    simp only [World.size_alloc] at this
    exact (this.alloc _).alloc _
  · have := Boxed.new ((((((w.alloc (.cells #[.slice A0 l.length c0] 26)).alloc (.cells #[] 3)).alloc (.cells #[] 3)).alloc (.cells #[.slice (some ⟨w.heap.size + 1, 0, none⟩) 0 0] 26)).alloc (.cells #[.slice (some ⟨w.heap.size + 1 + 1, 0, none⟩) 0 0] 26)).alloc (.map #[] 0)) 89 (.map (some (w.heap.size + 1 + 1 + 1 + 1 + 1)))
    simp only [World.size_alloc] at this
    exact this
  · intro k hk hk2
    have e1 : w.heap.size + 1 + 1 = k := by simpa [Value.ownBlock] using hk
    have e2 : w.heap.size + 1 = k := by simpa [Value.ownBlock] using hk2
    omega
  · have := World.alloc_heap_new (((((w.alloc (.cells #[.slice A0 l.length c0] 26)).alloc (.cells #[] 3)).alloc (.cells #[] 3)).alloc (.cells #[.slice (some ⟨w.heap.size + 1, 0, none⟩) 0 0] 26)).alloc (.cells #[.slice (some ⟨w.heap.size + 1 + 1, 0, none⟩) 0 0] 26)) (.map #[] 0)
    simp only [World.size_alloc] at this
    unfold pk0
    rw [g _ _ _ (by simp only [World.size_alloc]; omega)]
    exact this
set_option maxRecDepth 100000 in
set_option maxHeartbeats 8000000 in
theorem impl_pack.calls (k : Nat) (A0 : Option Addr) (c0 : Nat) (l0 r : List Int) (w : World) (hr0 : Kd.C (Kd.int .i64) w A0 l0.length l0) (hc0 : l0.length ≤ c0) (h : impl_pack.f k l0 = some r) :
    Calls Try.prog 43 #[.slice A0 l0.length c0] w fun e w' => ∃ v0_ : Value, e = .returned v0_ ∧ Kd.R (Kd.int .i64) 3 w' w.heap.size (fun _ => True) v0_ r ∧ Below w.heap.size w w' := by
  unfold impl_pack.f at h
  split at h
  case isFalse => cases h
  rename_i hg
  obtain ⟨hl, hin⟩ := hg
  have HR := Aside0.mk (Option.some.inj h)
  clear h
  have HC := Aside0.mk (And.intro hr0 (And.intro hc0 (And.intro hl hin)))
  clear hr0 hc0 hl hin
  have mixed : Try.prog.follows .mixedOrders = true := by kernel_rfl
  go_enter Try.func43, Try.ntmps43
  have hmk : ∀ W : World, (Instr.makeMap 89 none).run Try.prog W = .ok (.map (some W.heap.size)) (W.alloc (.map #[] 0)) := fun _ => rfl
  go_wp2
  have HP0 := Aside0.mk (pk_start w A0 c0 l0)
  have hW0 : pk0 w A0 c0 l0.length = ((((((w.alloc (.cells #[.slice A0 l0.length c0] 26)).alloc (.cells #[] 3)).alloc (.cells #[] 3)).alloc (.cells #[.slice (some ⟨w.heap.size + 1, 0, none⟩) 0 0] 26)).alloc (.cells #[.slice (some ⟨w.heap.size + 1 + 1, 0, none⟩) 0 0] 26)).alloc (.map #[] 0)).alloc (.cells #[.map (some (w.heap.size + 1 + 1 + 1 + 1 + 1))] 89) := rfl
  rw [← hW0]
  clear hW0
  generalize pk0 w A0 c0 l0.length = W0 at HP0 ⊢
  obtain ⟨bm, hbm⟩ : ∃ x, w.heap.size + 1 + 1 + 1 + 1 + 1 + 1 = x := ⟨_, rfl⟩
  obtain ⟨m, hm⟩ : ∃ x, w.heap.size + 1 + 1 + 1 + 1 + 1 = x := ⟨_, rfl⟩
  obtain ⟨bp, hbp⟩ : ∃ x, w.heap.size + 1 + 1 + 1 + 1 = x := ⟨_, rfl⟩
  obtain ⟨bo, hbo⟩ : ∃ x, w.heap.size + 1 + 1 + 1 = x := ⟨_, rfl⟩
  obtain ⟨b, hb⟩ : ∃ x, w.heap.size = x := ⟨_, rfl⟩
  have HN := Aside0.mk (show b = w.heap.size ∧ bo = w.heap.size + 3 ∧ bp = w.heap.size + 4 ∧ m = w.heap.size + 5 ∧ bm = w.heap.size + 6 by omega)
  have HP : Aside0 (PkI w A0 c0 l0 b bo bp bm m 0 W0) := by
    have := HP0.out
    rw [hbm, hm, hbp, hbo] at this
    exact ⟨by rw [← hb]; exact this⟩
  clear HP0
  rw [hbm, hm, hbp, hbo, hb]
  clear hbm hm hbp hbo hb hmk
  go_loopw [8] (fun v8 wr => ∃ z : Nat, v8 = .int .i64 z ∧ Aside0 (PkI w A0 c0 l0 b bo bp bm m z wr)) (fun v8 _ => l0.length - (intOf v8).toNat)
  case atStart => exact ⟨0, rfl, HP⟩
  case round =>
    obtain ⟨z, rfl, HI⟩ := hrel
    clear HP
    obtain ⟨out, plain, vo, vp, es, clock, hS, ⟨kf, hkf, hpk⟩, hln, hzl⟩ := HI.out
    have cB := hS.bB.cell
    have hwB := hS.bel.size
    by_cases hlt : z < l0.length
    · have hw1 : IntKind.i64.wrap ((z : Int) + 3) = ((z + 3 : Nat) : Int) := wr_add z 3 (by have := HC.out.2.2.1; omega)
      obtain ⟨z3, hz3⟩ : ∃ z3, z3 = z + 3 := ⟨_, rfl⟩
      rw [← hz3] at hw1
      have hlti : (z : Int) < (l0.length : Int) := by omega
      have hM9 : (Pu.implM l0 z).1 ≤ l0.length - z ∧ (Pu.implM l0 z).1 ≤ 66 := implM_le l0 z hzl
      by_cases h3 : z3 ≤ l0.length
      · have h3i : (z3 : Int) ≤ (l0.length : Int) := by omega
        have hr1 := Kd.C_below HC.out.1 hS.bel
        obtain ⟨ad, rfl, hx0⟩ := cell_int hr1 z (by omega)
        obtain ⟨ad', e1, hx1⟩ := cell_int hr1 (z + 1) (by omega)
        cases e1
        obtain ⟨ad', e2, hx2⟩ := cell_int hr1 (z + 2) (by omega)
        cases e2
        have hl1 := HC.out.2.2.1
        have hcc := HC.out.2.1
        have hq3 : z + 3 ≤ l0.length := by omega
        have hfacts : ∀ w', Below wr.heap.size wr w' → w'.cell? ⟨b, 0, none⟩ = some (.slice (some ad) l0.length c0) ∧ w'.cell? ⟨bm, 0, none⟩ = some (.map (some m)) ∧ w'.cell? (ad.add z) = some (.int .i64 (l0.getD z 0)) ∧ w'.cell? ⟨(ad.add z).block, (ad.add z).off + 1, none⟩ = some (.int .i64 (l0.getD (z + 1) 0)) ∧ w'.cell? ⟨(ad.add z).block, (ad.add z).off + 2, none⟩ = some (.int .i64 (l0.getD (z + 2) 0)) := fun w' hw' => by
          have h := hS.below hw'
          have hq : ∀ {a : Addr} {v}, wr.cell? a = some v → w'.cell? a = some v := fun {a v} hv => (hw'.cell (World.block_lt_of_cell? wr a hv)).trans hv
          refine ⟨h.bB.cell, h.bM.cell, hq hx0, ?_, ?_⟩
          · rw [← add_field _ _ 1 (by omega)]; exact hq hx1
          · rw [← add_field _ _ 2 (by omega)]; exact hq hx2
        obtain ⟨x0, hx0e⟩ : ∃ x, x = l0.getD z 0 := ⟨_, rfl⟩
        obtain ⟨x1, hx1e⟩ : ∃ x, x = l0.getD (z + 1) 0 := ⟨_, rfl⟩
        obtain ⟨x2, hx2e⟩ : ∃ x, x = l0.getD (z + 2) 0 := ⟨_, rfl⟩
        rw [← hx0e, ← hx1e, ← hx2e] at hfacts
        have hkv : keyV l0 z = .agg #[.int .i64 x0, .int .i64 x1, .int .i64 x2] := by unfold keyV; rw [hx0e, hx1e, hx2e]
        obtain ⟨vl, hlk, il, hvl⟩ := hS.mp.look HC.out.2.2.2 z hq3
        rw [hkv] at hlk
        obtain ⟨A7, c7, e7⟩ := Kd.R_slice il
        obtain ⟨n7, hn7⟩ : ∃ n, n = (pI (posS l0 z z)).length := ⟨_, rfl⟩
        rw [← hn7] at e7
        subst e7
        have HF := Aside0.mk (And.intro hfacts (fun w' (hw' : Below wr.heap.size wr w') => hlk w' (hS.below hw').mp.at_))
        have hmt : ∀ w', Below wr.heap.size wr w' → Calls Try.prog 63 #[.slice (some ad) l0.length c0, .int .i64 z, .slice A7 n7 c7] w' fun e w'' => e = .returned (.tuple #[.int .i64 ((Pu.implM l0 z).1 : Nat), .int .i64 ((Pu.implM l0 z).2 : Nat)]) ∧ Below w'.heap.size w' w'' := fun w' hw' => by
          have h1 : IR w' w.heap.size (.slice A7 n7 c7) (pI (posS l0 z z)) := il.moved fun k hk => hw'.block k (il.lt k hk)
          have h2 := (Kd.R_reads' h1).2.2
          have := match_calls (some ad) c0 l0 z A7 c7 (posS l0 z z) w' (Kd.C_below HC.out.1 (hS.below hw').bel) (by omega) (by omega) h2 (fun p hp => posS_lt hp) (by have := posS_len l0 z z; omega)
          rw [← hn7] at this
          have hm : Pu.implM l0 z = Pu.near (Pu.nAt l0 z) z (posS l0 z z).reverse (0, 0) := by unfold Pu.implM posS; rw [if_pos hq3]
          rw [hm]
          exact this
        obtain ⟨M1, hM1⟩ : ∃ x, x = (Pu.implM l0 z).1 := ⟨_, rfl⟩
        obtain ⟨M2, hM2⟩ : ∃ x, x = (Pu.implM l0 z).2 := ⟨_, rfl⟩
        rw [← hM1] at hM9
        rw [← hM1, ← hM2] at hmt
        have HMt := Aside0.mk hmt
        have HM := Aside0.mk (And.intro hM1 hM2)
        have HS := Aside0.mk hS
        have HX := Aside0.mk (And.intro (show ∃ k, l0.length + 1 ≤ k + z ∧ Pu.packW (Pu.implM l0) l0 k z out plain = Pu.packW (Pu.implM l0) l0 (l0.length + 1) 0 [] [] from ⟨kf, hkf, hpk⟩) (And.intro hln (And.intro hzl (And.intro hz3 (And.intro hlt (And.intro h3 hM9))))))
        have a1 : (z : Int) ≤ (z3 : Int) := by omega
        have a2 : (z3 : Int) ≤ (c0 : Int) := by omega
        have a3 : z3 - z = 3 := by omega
        have a4 : ¬ c0 = z := by omega
        have a5 := arr_at (some (ad.add z)) (c0 - z)
        clear hr1 hx0 hx1 hx2 hl1 hcc hq3 hfacts hx0e hx1e hx2e hkv hlk il hvl hn7 hmt hM1 hM2 hS hpk hkf hln hzl hz3 hlt h3 hwB hM9
        go_wp2
        refine r_begin (fun w' => Below wr.heap.size wr w') 17 (by kernel_rfl) rfl (below_drew (Below.refl _ _)) (fun hH => ?_)
        repeat (first | (refine r_go (v := ?_) (by kernel_rfl) (by rfl) (fun _ _ _ h => h) hH ?_ ?_; rotate_left; (focus (intro w hS; obtain ⟨⟨e0, e1, e2, e3, e4⟩, e5⟩ := And.intro (HF.out.1 w hS) (HF.out.2 w hS); go_simp; first | done | with_reducible rfl)); simp only [Act.put, List.setIfInBounds_toArray, List.set_cons_zero, List.set_cons_succ, Nat.reduceAdd]))
        refine r_one (by kernel_rfl) (by rfl) (fun K hK => ?_)
        go_simp
        go_at_call 63
        refine (HMt.out _ (below_drew (Below.refl _ wr))).mono ?_
        rintro e w2 ⟨rfl, hb⟩
        go_wp2_with fail
        have hB2 : Below wr.heap.size wr w2 := (below_drew (Below.refl _ wr)).trans hb
        refine hK.out _ _ hB2 (fun hH => ?_)
        clear hK K hb
        simp only [Act.put, List.setIfInBounds_toArray, List.set_cons_zero, List.set_cons_succ, Nat.reduceAdd]
        repeat (first | (refine r_go (v := ?_) (by kernel_rfl) (by rfl) (fun _ _ _ h => h) hH ?_ ?_; rotate_left; (focus (intro w hS; go_simp; first | done | with_reducible rfl)); simp only [Act.put, List.setIfInBounds_toArray, List.set_cons_zero, List.set_cons_succ, Nat.reduceAdd]))
        refine r_done (by kernel_rfl) ?_
        have HS2 := Aside0.mk (HS.out.below hB2)
        have c2 := HS2.out.bB.cell
        clear hH hB2 HS HMt HF a1 a2 a3 a4 a5
        by_cases hM3 : M1 < 3
        · have hM3i : (M1 : Int) < 3 := by omega
          have HM3 := Aside0.mk (show (Pu.implM l0 z).1 < 3 by rw [← HM.out.1]; exact hM3)
          have hnn := HN.out
          have hcx := HC.out
          have hxx := HX.out
          obtain ⟨Ap, cp, ep⟩ := Kd.R_slice HS2.out.iP
          obtain ⟨np, hnp⟩ : ∃ n, n = plain.length := ⟨_, rfl⟩
          rw [← hnp] at ep
          subst ep
          have cP := HS2.out.bP.cell
          obtain ⟨ad9, e9, cX⟩ := cell_int (Kd.C_below hcx.1 HS2.out.bel) z hxx.2.2.2.2.1
          obtain ⟨xz, hxz⟩ : ∃ x, x = l0.getD z 0 := ⟨_, rfl⟩
          rw [← hxz] at cX
          first | (injection e9 with e9; subst e9) | subst e9
          have hpu : ∃ k, l0.length + 1 ≤ k + (z + 1) ∧ Pu.packW (Pu.implM l0) l0 k (z + 1) out (plain ++ [xz]) = Pu.packW (Pu.implM l0) l0 (l0.length + 1) 0 [] [] := by
            obtain ⟨kf, hkf, hpk⟩ := hxx.1
            cases kf with
            | zero => omega
            | succ k =>
              refine ⟨k, by omega, ?_⟩
              rw [← hpk, packW_lt _ _ _ _ _ _ hxx.2.2.2.2.1 HM3.out, ← hxz]
          have IP := Aside0.mk (show IR w2.drew w.heap.size (.slice Ap np cp) plain from HS2.out.iP)
          have hsz : w.heap.size ≤ w2.heap.size := HS2.out.bel.size
          have hzi : (z : Int) < (l0.length : Int) := by have := hxx.2.2.2.2.1; omega
          have hz1 : IntKind.i64.wrap ((z : Int) + 1) = (z : Int) + 1 := by have := wr_add z 1 (by omega); exact this
          have HZ := Aside0.mk (And.intro hsz (show plain.length ≤ 2000 by omega))
          have HP := Aside0.mk (And.intro hpu (show out.length + 2 * (plain ++ [xz]).length ≤ 2 * (z + 1) ∧ z + 1 ≤ l0.length by rw [List.length_append, List.length_singleton]; omega))
          have hput := fun (w3 : World) (v1 : Value) (hg : w2.drew.grownBy w3 (Value.slice Ap np cp).ownBlock) (hi : IR w3 w.heap.size v1 (plain ++ [xz])) hat => PkS.put_plain (w3 := w3) (v1 := v1) (plain' := plain ++ [xz]) (HS2.out.below (W' := w2.drew) (below_drew (Below.refl _ _))) (by omega) (by omega) (by omega) (by omega) (by omega) (by omega) hg hi hat
          have HPut := Aside0.mk hput
          have HSee := Aside0.mk (fun (w4 : World) (v1 : Value) (h4 : PkS w _ c0 l0 b bo bp bm m z out (plain ++ [xz]) vo v1 es clock w4) => see_calls l0 _ c0 b bm m z w.heap.size w4 es clock h4.bB (Kd.C_below hcx.1 h4.bel) hcx.2.1 h4.bM h4.mp hcx.2.2.2 hcx.2.2.1 hxx.2.2.2.2.1 h4.bel.size (by omega))
          have hB2 : Boxed w2.drew bp 26 (.slice Ap np cp) := HS2.out.bP
          have cP2 := (HS2.out.bP.alloc (.cells #[.int .i64 xz] 3)).cell
          have HB2 := Aside0.mk hB2
          clear hnn hcx hxx hnp hpu hsz hput hB2 hxz
          go_wp2
          go_region_law_o (refine Kd.R_append_step (Kd.int .i64) (w0 := w2.drew) w.heap.size ?hw (.tmp 42) (.tmp 47) 26 3 (.int .i64 0) 8 ?ho Try.underlying26 info3 rfl (by decide) (by omega) (.slice Ap np cp) plain xz [.int .i64 xz] (fun _ => True) (fun _ => False) ?hs ?hx ?hp (fun _ h => h.elim) (fun _ _ => trivial) IP.out (Below.refl _ _) HZ.out.1 (by have := HZ.out.2; omega) ?_; (case hw => rfl); (case ho => rfl); (case hs => simp [Act.eval, Act.put]); (case hx => simp [Act.eval, Act.put]); (case hp => rfl); intro v1 w3 ho hb hg hat; have hB3 := HB2.out.kept hg (IP.out.box (by decide) HB2.out); have cB3 := hB3.cell; have fB3 := hB3.frozen; obtain ⟨A1, c1, e1⟩ := Kd.R_slice ho; obtain ⟨n1, hn1⟩ : ∃ n, n = (plain ++ [xz]).length := ⟨_, rfl⟩; rw [← hn1] at e1; subst e1; have HS4 := Aside0.mk (HPut.out w3 (.slice A1 n1 c1) hg ho hat); clear hB3 ho hb hg hat hn1)
          all_goals go_wp2_with (go_at_call 62; refine (HSee.out _ _ HS4.out).mono ?_; rintro e W5 ⟨⟨ve, rfl⟩, hs5⟩; have HS5 := Aside0.mk hs5; clear hs5)
          all_goals
            obtain ⟨es', clock', hs6⟩ := HS4.out.seen HS5.out
            have hpp := HP.out
            refine ⟨⟨z + 1, by simp, ⟨out, plain ++ [xz], vo, _, es', clock', hs6, hpp.1, hpp.2.1, hpp.2.2⟩⟩, ?_⟩
            simp [intOf]
            omega
        · have hM3i : ¬ ((M1 : Int) < 3) := by omega
          have hnn := HN.out
          have hcx := HC.out
          have hxx := HX.out
          have hfl := flush_calls plain out w.heap.size bp bo vo vp w2 HS2.out.bP HS2.out.bO HS2.out.iP HS2.out.iO (by omega) HS2.out.sep (by omega) (by omega) (by omega) (by omega)
          have HFl := Aside0.mk hfl
          clear hfl
          have hM61 : IntKind.i64.wrap ((M1 : Int) + 61) = (M1 : Int) + 61 := by have := wr_add M1 61 (by omega); exact this
          have hupd := fun (W3 : World) (v1 v2 : Value) h1 h2 (h3 : v1.ownBlock = vo.ownBlock ∨ ∃ k, v1.ownBlock = some k ∧ w2.heap.size ≤ k) h4 h5 (h6 : ∀ k, v2.ownBlock = some k → vp.ownBlock = some k) h7 (h8 : Kept w2 W3 (fun k => k = bp ∨ k = bo ∨ some k = vo.ownBlock)) => HS2.out.upd (W' := W3) (vo' := v1) (vp' := v2) (out' := out ++ Pu.plainV plain) (plain' := []) (by omega) (by omega) (by omega) (by omega) (h8.mono fun k e => by
            rcases e with e | e | e
            · exact .inr (.inl e)
            · exact .inl e
            · exact .inr (.inr (.inl e))) h7 h1 h4 h2 h5 (fun k hk e => by
            have h9 := h6 k hk
            rcases h3 with h3 | ⟨k', h3, h10⟩
            · rw [h3] at e
              exact HS2.out.sep k h9 e
            · rw [h3] at e
              cases e
              have := HS2.out.iP.lt k h9
              omega) (fun k hk => by
            rcases h3 with h3 | ⟨k', h3, h10⟩
            · exact .inl (h3.symm.trans hk)
            · rw [h3] at hk
              cases hk
              exact .inr h10) (fun k hk => .inl (h6 k hk))
          have HU := Aside0.mk hupd
          clear hupd
          have hpl := plainV_len plain
          have hol : (out ++ Pu.plainV plain).length ≤ 4000 := by rw [List.length_append]; omega
          have hHN := Aside0.mk (And.intro hol hpl)
          have hput := fun (Wx : World) (va vb : Value) (hs : PkS w (some ad) c0 l0 b bo bp bm m z (out ++ Pu.plainV plain) [] va vb es clock Wx) (w3 : World) (v1 : Value) (hg : Wx.grownBy w3 va.ownBlock) (hi : IR w3 w.heap.size v1 ((out ++ Pu.plainV plain) ++ [(M1 : Int) + 61, (M2 : Int)])) hat => PkS.put_out (w3 := w3) (v1 := v1) (out' := (out ++ Pu.plainV plain) ++ [(M1 : Int) + 61, (M2 : Int)]) hs (by omega) (by omega) (by omega) (by omega) (by omega) (by omega) hg hi hat
          have HPut := Aside0.mk hput
          have hSee := fun (j : Nat) (hj : z + j < l0.length) (outx : List Int) (w4 : World) (va vb : Value) (es4 : Array MapEntry) (clock4 : Nat) (h4 : PkS w (some ad) c0 l0 b bo bp bm m (z + j) outx [] va vb es4 clock4 w4) => see_calls l0 (some ad) c0 b bm m (z + j) w.heap.size w4 es4 clock4 h4.bB (Kd.C_below hcx.1 h4.bel) hcx.2.1 h4.bM h4.mp hcx.2.2.2 hcx.2.2.1 hj h4.bel.size (by omega)
          have HSee := Aside0.mk hSee
          have hpu : ∃ k, l0.length + 1 ≤ k + (z + M1) ∧ Pu.packW (Pu.implM l0) l0 k (z + M1) ((out ++ Pu.plainV plain) ++ [(M1 : Int) + 61, (M2 : Int)]) [] = Pu.packW (Pu.implM l0) l0 (l0.length + 1) 0 [] [] := by
            obtain ⟨kf, hkf, hpk⟩ := hxx.1
            cases kf with
            | zero => omega
            | succ k =>
              refine ⟨k, by omega, ?_⟩
              rw [← hpk, packW_ge _ _ _ _ _ _ hxx.2.2.2.2.1 (by rw [← HM.out.1]; exact hM3), ← HM.out.1, ← HM.out.2]
          have HP := Aside0.mk (And.intro hpu (And.intro (show ((out ++ Pu.plainV plain) ++ [(M1 : Int) + 61, (M2 : Int)]).length + 2 * ([] : List Int).length ≤ 2 * (z + M1) by rw [List.length_append, List.length_append]; simp; omega) (And.intro (show z + M1 ≤ l0.length by omega) (show 3 ≤ M1 by omega))))
          have hsz := Aside0.mk HS2.out.bel.size
          have hZB := Aside0.mk (show z ≤ 1000 ∧ M1 ≤ 66 by omega)
          clear hnn hcx hxx hput hSee hpl hol hpu hM3
          go_wp2_with (first
            | (go_at_call 60; refine HFl.out.mono ?_; rintro e W3 ⟨⟨ve, rfl⟩, v1, v2, bO3, iO3, h3, bP3, iP3, h4, hB3, hk3⟩; have HS3 := Aside0.mk (HU.out W3 v1 v2 bO3 iO3 h3 bP3 iP3 h4 hB3 hk3); clear bO3 iO3 h3 bP3 iP3 h4 hB3 hk3; obtain ⟨A3, c3, e3⟩ := Kd.R_slice HS3.out.iO; obtain ⟨n3, hn3⟩ : ∃ n, n = (out ++ Pu.plainV plain).length := ⟨_, rfl⟩; rw [← hn3] at e3; subst e3; clear hn3; have cO3 := HS3.out.bO.cell)
            | ((with_reducible refine gate_builtin (b := .append) (xs := #[.tmp 56, .tmp 60]) rfl ?_); at_builtin; refine Kd.R_append_rows (Kd.int .i64) (w0 := W3.alloc (.cells #[.int .i64 ((M1 : Int) + 61), .int .i64 (M2 : Int)] 3)) w.heap.size rfl (.tmp 56) (.tmp 60) 26 3 (.int .i64 0) 8 rfl Try.underlying26 info3 rfl (by decide) (by omega) (.slice A3 n3 c3) (out ++ Pu.plainV plain) [(M1 : Int) + 61, (M2 : Int)] (some ⟨W3.heap.size, 0, none⟩) 2 2 (fun _ => True) (fun _ => False) rfl rfl (HS3.out.below (below_alloc (Below.refl _ _) _)).iO (lit2_C W3 _ _) (fun _ _ h => h) (fun _ h => h.elim) (fun _ _ => trivial) (Below.refl _ _) (HS3.out.below (below_alloc (Below.refl _ _) _)).bel.size (by have := hHN.out.1; omega) ?_; intro v4 w4 ho hb hg hat; have hS4 := HPut.out _ _ _ (HS3.out.below (below_alloc (Below.refl _ _) _)) w4 v4 hg ho hat; have hbx := (HS3.out.below (below_alloc (Below.refl _ _) (.cells #[.int .i64 ((M1 : Int) + 61), .int .i64 (M2 : Int)] 3))).boxO hg; have c4 := hbx.cell; have f4 := hbx.frozen; obtain ⟨A4, c4', e4⟩ := Kd.R_slice ho; obtain ⟨n4, hn4⟩ : ∃ n, n = ((out ++ Pu.plainV plain) ++ [(M1 : Int) + 61, (M2 : Int)]).length := ⟨_, rfl⟩; rw [← hn4] at e4; subst e4; have HS4 := Aside0.mk hS4; clear hS4 hbx ho hb hg hat hn4))
          generalize hwx : w4.setCell ⟨bo, 0, none⟩ (.slice A4 n4 c4') = w5 at HS4 ⊢
          clear hwx c4 f4
          go_loopw [8, 63] (fun v8 v63 wr => ∃ j : Nat, v63 = .int .i64 j ∧ v8 = .int .i64 ((z + j : Nat) : Int) ∧ j ≤ M1 ∧ Aside0 (∃ es4 clock4, PkS w (some ad) c0 l0 b bo bp bm m (z + j) ((out ++ Pu.plainV plain) ++ [(M1 : Int) + 61, (M2 : Int)]) [] (.slice A4 n4 c4') v2 es4 clock4 wr)) (fun _ v63 _ => M1 - (intOf v63).toNat)
          case atStart => exact ⟨0, rfl, rfl, Nat.zero_le _, ⟨es, clock, HS4.out⟩⟩
          case round =>
            obtain ⟨j, rfl, rfl, hj, HS5⟩ := hrel
            obtain ⟨es4, clock4, hs5⟩ := HS5.out
            by_cases hjl : j < M1
            · have hji : (j : Int) < (M1 : Int) := by omega
              have hzb := hZB.out
              have hzj : z + j < l0.length := by have := HP.out.2.2.1; omega
              have hw2 : IntKind.i64.wrap (((z + j : Nat) : Int) + 1) = ((z + j : Nat) : Int) + 1 := by have := wr_add (z + j) 1 (by omega); exact this
              have hw3 : IntKind.i64.wrap ((j : Int) + 1) = (j : Int) + 1 := by have := wr_add j 1 (by omega); exact this
              have hse := HSee.out j hzj _ _ _ _ es4 clock4 hs5
              obtain ⟨zj, hzje⟩ : ∃ x, x = z + j := ⟨_, rfl⟩
              rw [← hzje] at hse hw2 ⊢
              have HSE := Aside0.mk hse
              have HJ := Aside0.mk (And.intro hzje (And.intro hjl hzj))
              clear hse hzje hzj hzb
              go_wp2_with (go_at_call 62; refine HSE.out.mono ?_; rintro e W6 ⟨⟨ve, rfl⟩, hs6⟩; have HS6 := Aside0.mk hs6; clear hs6)
              obtain ⟨h1, h2, h3⟩ := HJ.out
              subst h1
              obtain ⟨es', clock', hs7⟩ := hs5.seen HS6.out
              refine ⟨⟨j + 1, by simp, by simp; omega, by omega, ⟨es', clock', hs7⟩⟩, ?_⟩
              simp [intOf]
              omega
            · obtain rfl : j = M1 := by omega
              have hpp := HP.out
              have HS7 := Aside0.mk hs5
              clear hs5 hjl
              go_wp2
              refine ⟨⟨z + j, by simp, ⟨_, [], _, _, es4, clock4, HS7.out, hpp.1, hpp.2.1, hpp.2.2.1⟩⟩, ?_⟩
              simp [intOf]
              omega
      · have hm0 : Pu.implM l0 z = (0, 0) := by unfold Pu.implM; rw [if_neg (by omega)]
        have h3i : decide ((z3 : Int) ≤ (l0.length : Int)) = false := decide_eq_false (by omega)
        have h3n : decide (z3 ≤ l0.length) = false := decide_eq_false h3
        have HM3 := Aside0.mk (show (Pu.implM l0 z).1 < 3 by rw [hm0]; exact (by omega : (0 : Nat) < 3))
        have HX := Aside0.mk (And.intro (show ∃ k, l0.length + 1 ≤ k + z ∧ Pu.packW (Pu.implM l0) l0 k z out plain = Pu.packW (Pu.implM l0) l0 (l0.length + 1) 0 [] [] from ⟨kf, hkf, hpk⟩) (And.intro hln (And.intro hzl (And.intro hz3 (And.intro hlt h3)))))
        obtain ⟨w2, hw2⟩ : ∃ w2, w2 = wr := ⟨_, rfl⟩
        have HS2 := Aside0.mk (show PkS w A0 c0 l0 b bo bp bm m z out plain vo vp es clock w2 by rw [hw2]; exact hS)
        subst hw2
        clear hpk hkf hln hzl hz3 hlt h3 hwB hM9 hm0 hS HI
        have hnn := HN.out
        have hcx := HC.out
        have hxx := HX.out
        obtain ⟨Ap, cp, ep⟩ := Kd.R_slice HS2.out.iP
        obtain ⟨np, hnp⟩ : ∃ n, n = plain.length := ⟨_, rfl⟩
        rw [← hnp] at ep
        subst ep
        have cP := HS2.out.bP.cell
        obtain ⟨ad9, e9, cX⟩ := cell_int (Kd.C_below hcx.1 HS2.out.bel) z hxx.2.2.2.2.1
        obtain ⟨xz, hxz⟩ : ∃ x, x = l0.getD z 0 := ⟨_, rfl⟩
        rw [← hxz] at cX
        first | (injection e9 with e9; subst e9) | subst e9
        have hpu : ∃ k, l0.length + 1 ≤ k + (z + 1) ∧ Pu.packW (Pu.implM l0) l0 k (z + 1) out (plain ++ [xz]) = Pu.packW (Pu.implM l0) l0 (l0.length + 1) 0 [] [] := by
          obtain ⟨kf, hkf, hpk⟩ := hxx.1
          cases kf with
          | zero => omega
          | succ k =>
            refine ⟨k, by omega, ?_⟩
            rw [← hpk, packW_lt _ _ _ _ _ _ hxx.2.2.2.2.1 HM3.out, ← hxz]
        have IP := Aside0.mk (show IR w2.drew w.heap.size (.slice Ap np cp) plain from HS2.out.iP)
        have hsz : w.heap.size ≤ w2.heap.size := HS2.out.bel.size
        have hzi : (z : Int) < (l0.length : Int) := by have := hxx.2.2.2.2.1; omega
        have hz1 : IntKind.i64.wrap ((z : Int) + 1) = (z : Int) + 1 := by have := wr_add z 1 (by omega); exact this
        have HZ := Aside0.mk (And.intro hsz (show plain.length ≤ 2000 by omega))
        have HP := Aside0.mk (And.intro hpu (show out.length + 2 * (plain ++ [xz]).length ≤ 2 * (z + 1) ∧ z + 1 ≤ l0.length by rw [List.length_append, List.length_singleton]; omega))
        have hput := fun (w3 : World) (v1 : Value) (hg : w2.drew.grownBy w3 (Value.slice Ap np cp).ownBlock) (hi : IR w3 w.heap.size v1 (plain ++ [xz])) hat => PkS.put_plain (w3 := w3) (v1 := v1) (plain' := plain ++ [xz]) (HS2.out.below (W' := w2.drew) (below_drew (Below.refl _ _))) (by omega) (by omega) (by omega) (by omega) (by omega) (by omega) hg hi hat
        have HPut := Aside0.mk hput
        have HSee := Aside0.mk (fun (w4 : World) (v1 : Value) (h4 : PkS w _ c0 l0 b bo bp bm m z out (plain ++ [xz]) vo v1 es clock w4) => see_calls l0 _ c0 b bm m z w.heap.size w4 es clock h4.bB (Kd.C_below hcx.1 h4.bel) hcx.2.1 h4.bM h4.mp hcx.2.2.2 hcx.2.2.1 hxx.2.2.2.2.1 h4.bel.size (by omega))
        have hB2 : Boxed w2.drew bp 26 (.slice Ap np cp) := HS2.out.bP
        have cP2 := (HS2.out.bP.alloc (.cells #[.int .i64 xz] 3)).cell
        have HB2 := Aside0.mk hB2
        clear hnn hcx hxx hnp hpu hsz hput hB2 hxz
        go_wp2
        go_region_law_o (refine Kd.R_append_step (Kd.int .i64) (w0 := w2.drew) w.heap.size ?hw (.tmp 42) (.tmp 47) 26 3 (.int .i64 0) 8 ?ho Try.underlying26 info3 rfl (by decide) (by omega) (.slice Ap np cp) plain xz [.int .i64 xz] (fun _ => True) (fun _ => False) ?hs ?hx ?hp (fun _ h => h.elim) (fun _ _ => trivial) IP.out (Below.refl _ _) HZ.out.1 (by have := HZ.out.2; omega) ?_; (case hw => rfl); (case ho => rfl); (case hs => simp [Act.eval, Act.put]); (case hx => simp [Act.eval, Act.put]); (case hp => rfl); intro v1 w3 ho hb hg hat; have hB3 := HB2.out.kept hg (IP.out.box (by decide) HB2.out); have cB3 := hB3.cell; have fB3 := hB3.frozen; obtain ⟨A1, c1, e1⟩ := Kd.R_slice ho; obtain ⟨n1, hn1⟩ : ∃ n, n = (plain ++ [xz]).length := ⟨_, rfl⟩; rw [← hn1] at e1; subst e1; have HS4 := Aside0.mk (HPut.out w3 (.slice A1 n1 c1) hg ho hat); clear hB3 ho hb hg hat hn1)
        all_goals go_wp2_with (go_at_call 62; refine (HSee.out _ _ HS4.out).mono ?_; rintro e W5 ⟨⟨ve, rfl⟩, hs5⟩; have HS5 := Aside0.mk hs5; clear hs5)
        all_goals
          obtain ⟨es', clock', hs6⟩ := HS4.out.seen HS5.out
          have hpp := HP.out
          refine ⟨⟨z + 1, by simp, ⟨out, plain ++ [xz], vo, _, es', clock', hs6, hpp.1, hpp.2.1, hpp.2.2⟩⟩, ?_⟩
          simp [intOf]
          omega
    · obtain rfl : z = l0.length := by omega
      have hpe : out ++ Pu.plainV plain = r := by
        rw [← HR.out, ← hpk]
        cases kf with
        | zero => rfl
        | succ k => unfold Pu.packW; rw [if_neg (Nat.lt_irrefl _)]
      have hnn := HN.out
      have hfl := fun W' (hW : W' = wr) => flush_calls plain out w.heap.size bp bo vo vp W' (hW ▸ hS.bP) (hW ▸ hS.bO) (hW ▸ hS.iP) (hW ▸ hS.iO) (by omega) hS.sep (by have := HC.out.2.2.1; omega) (by have := HC.out.2.2.1; omega) (by omega) (by omega)
      have HF := Aside0.mk hfl
      have HS := Aside0.mk hS
      have HX := Aside0.mk hpe
      clear hfl hS hpe hpk hkf hln hzl hnn hwB hlt
      go_wp2_with (go_at_call 60; refine (HF.out _ rfl).mono ?_; rintro e W3 ⟨⟨ve, rfl⟩, v1, v2, bO3, iO3, h3, bP3, iP3, h4, hB3, hk3⟩; have cO3 := bO3.cell; obtain ⟨A3, c3, e3⟩ := Kd.R_slice iO3; rw [HX.out] at e3; subst e3; have HI3 := Aside0.mk (And.intro iO3 (And.intro hB3 hk3)); clear bO3 iO3 h3 bP3 iP3 h4 hB3 hk3)
      go_ret
      refine ⟨_, rfl, ?_, HS.out.bel.trans HI3.out.2.1⟩
      have := HI3.out.1
      rw [HX.out] at this
      exact this
end Go.Proofs.Ythoioccmnphfgaa.G

namespace Go.Proofs.Ythoioccmnphfgaa.G
open Go.RowKit Go.Lib Go.Proofs.YthoioccmnphfgaaW.PrintWords Go.Proofs.YthoioccmnphfgaaW.PrintLast Go.Proofs.YthoioccmnphfgaaW.PrintMore
set_option linter.unusedVariables false
set_option linter.unusedSimpArgs false
def slices_Concat_int_int.f (l : List (List Int)) : Option (List Int) := if l.length < 1000000 ∧ l.flatten.length < 17592186044416 then some l.flatten else none
set_option maxRecDepth 100000 in
set_option maxHeartbeats 4000000 in
/-- slices.Grow of the nil row. -/
theorem grow0_calls (n : Nat) (hn : n < 17592186044416) (w : World) :
    Calls Try.prog 64 #[.slice none 0 0, .int .i64 n] w fun e w' => ∃ v, e = .returned v ∧ Kd.R (Kd.int .i64) 3 w' w.heap.size (fun _ => True) v [] ∧ Below w.heap.size w w' := by
  have h1 : ¬ ((n : Int) < 0) := by omega
  have h3 : wrap64 ((n : Int) - 0) = (n : Int) := by unfold wrap64; omega
  rcases Nat.eq_zero_or_pos n with rfl | hp
  · go_enter Try.func64, Try.ntmps64
    go_wp2
    go_ret
    exact ⟨_, rfl, Kd.R_nil _ _ _ _ _, Below.refl _ _⟩
  · obtain ⟨i0, hi0, hz0, hzs, hzb⟩ := info_parts info3
    have h4 : (n : Int) > 0 := by omega
    have h4' : 0 < n := hp
    have hold : (Builtin.firstCells i0.size 0 (.slice none 0 0)).run Try.prog w.drew = .ok ([] : List Value).toArray w.drew := run_firstCells_none w.drew i0.size 0 0 0
    obtain ⟨Z, hZ⟩ : ∃ Z : Value, Z = .int .i64 0 := ⟨_, rfl⟩
    have hrz : ∀ ty, (Builtin.append_ #[26, 3] ty #[.slice none 0 0, .int .i64 (n : Int)]).run Try.prog w =
        .ok (.slice (some ⟨w.heap.size, 0, none⟩) n (grownCap w n 0 3)) (w.drew.alloc (.cells (([] : List Value).toArray ++ Builtin.zeroCells Z.cells n ++ Builtin.zeroCells Z.cells (grownCap w n 0 3 - n)) 3)) := fun ty => by
      have h := Lib.run_append_grow_zeros w 26 3 ty 3 i0 Z .i64 .i64 Try.underlying26 Try.underlying3 hi0 (hz0.trans (by rw [hZ])) none 0 0 [] hold n (by omega) (by omega) (by omega) (by omega) (by rw [hzb]; omega) (by rw [hzb, Nat.zero_add]; exact growslice_fits hp (by omega))
      rw [Nat.zero_add] at h
      exact h
    obtain ⟨G, hG⟩ : ∃ G, G = grownCap w n 0 3 := ⟨_, rfl⟩
    have hGn : n ≤ G := by rw [hG]; exact grownCap_ge w _ _ _
    have hGm : G ≤ maxLen := by rw [hG]; exact grownCap_le_maxLen w n 0 3 (by unfold maxLen; omega)
    have hG63 : G ≤ 9223372036854775807 := by unfold maxLen at hGm; omega
    obtain ⟨ROW, hROW⟩ : ∃ ROW : Array Value, ROW = ([] : List Value).toArray ++ Builtin.zeroCells Z.cells n ++ Builtin.zeroCells Z.cells (G - n) := ⟨_, rfl⟩
    rw [← hG] at hrz
    rw [← hROW] at hrz
    have hZc : Z.cells.size = 1 := by rw [hZ]; rfl
    have hRs : ROW.size = G * 1 := by
      rw [hROW, Array.size_append, Array.size_append, size_zeroCells, size_zeroCells, hZc, List.size_toArray]
      simp
      omega
    clear hold hROW hG
    go_enter Try.func64, Try.ntmps64
    go_wp2_with (at_builtin; refine Lib.wpList_append_run _ rfl _ _ _ _ rfl _ _ rfl rfl _ _ (hrz _) ?_)
    go_ret
    refine ⟨_, rfl, Kd.R_of_own (xs := []) (World.ownsRow_made w.drew ROW G (by exact Nat.le_refl _) hGm hRs) (fun _ _ => trivial), ?_⟩
    exact below_alloc (below_drew (Below.refl _ _)) _
theorem flat_le (l : List (List Int)) (i : Nat) : (l.take i).flatten.length ≤ l.flatten.length := by
  conv => rhs; rw [← List.take_append_drop i l, List.flatten_append, List.length_append]
  exact Nat.le_add_right _ _
theorem flat_succ (l : List (List Int)) (i : Nat) (h : i < l.length) : (l.take (i + 1)).flatten = (l.take i).flatten ++ rd_L3 l (i : Int) := by
  rw [List.take_succ_eq_append_getElem h, List.flatten_append]
  simp [rd_L3, h]
set_option maxRecDepth 100000 in
set_option maxHeartbeats 4000000 in
theorem slices_Concat_int_int.calls (A0 : Option Addr) (c0 : Nat) (l0 : List (List Int)) (r : List Int) (w : World) (hr0 : Kd.C (Kd.slice 3 (Kd.int .i64)) w A0 l0.length l0) (hc0 : l0.length ≤ c0) (h : slices_Concat_int_int.f l0 = some r) :
    Calls Try.prog 45 #[.slice A0 l0.length c0] w fun e w' => ∃ v0_ : Value, e = .returned v0_ ∧ Kd.R (Kd.int .i64) 3 w' w.heap.size (fun _ => True) v0_ r ∧ Below w.heap.size w w' := by
  unfold slices_Concat_int_int.f at h
  split at h
  case isFalse => simp at h
  rename_i hb
  obtain ⟨hb1, hb2⟩ := hb
  obtain rfl := Option.some.inj h
  have HR := Aside0.mk hr0
  have hfl := flat_le l0
  have hsu := flat_succ l0
  clear h hr0 hc0
  obtain ⟨N, hN⟩ : ∃ N, N = l0.flatten.length := ⟨_, rfl⟩
  rw [← hN] at hb2 hfl
  go_enter Try.func45, Try.ntmps45
  go_wp2
  go_loopw [3, 11] (fun v3 v11 wr => ∃ (i : Nat), v11 = .int .i64 i ∧ i ≤ l0.length ∧ v3 = .int .i64 ((l0.take i).flatten.length : Nat) ∧ w = wr) (fun _ v11 _ => l0.length - (intOf v11).toNat)
  case atStart => exact ⟨0, rfl, Nat.zero_le _, rfl, rfl⟩
  case round =>
    obtain ⟨i, rfl, hi, rfl, rfl⟩ := hrel
    by_cases hlt : i < l0.length
    · obtain ⟨ad, A1, c1, rfl, hx, hl1, hi1⟩ := at_L3 HR.out (i : Int) (by omega) (by omega)
      rw [show ((i : Int)).toNat = i from rfl] at hx
      have hs1 := hsu i hlt
      have hf1 := hfl (i + 1)
      rw [hs1, List.length_append] at hf1
      have hlen : (l0.take (i + 1)).flatten.length = (l0.take i).flatten.length + (rd_L3 l0 (i : Int)).length := by rw [hs1, List.length_append]
      obtain ⟨n1, hn1⟩ : ∃ n1, n1 = (l0.take i).flatten.length := ⟨_, rfl⟩
      obtain ⟨n2, hn2⟩ : ∃ n2, n2 = (rd_L3 l0 (i : Int)).length := ⟨_, rfl⟩
      rw [← hn1] at hf1 hlen ⊢
      rw [← hn2] at hf1 hlen hl1 hi1 hx
      have h0 : ¬ ((n1 : Int) + (n2 : Int) < 0) := by omega
      clear hn1 hn2 hs1
      go_wp2
      go_roundw
      case rel => exact ⟨i + 1, by simp, by omega, by rw [hlen]; simp, trivial⟩
      case measure => simp [intOf]; omega
    · obtain rfl : i = l0.length := by omega
      rw [List.take_length, ← hN]
      have HR := HR
      have HN := Aside0.mk hN
      have HF := Aside0.mk (And.intro hfl hsu)
      clear hN hfl hsu
      go_wp2_with ((with_reducible refine gate_callee (f := 64) rfl ?_); refine goesL_ (some 24) rfl rfl Try.func64 (by kernel_rfl) rfl #[.slice none 0 0, .int .i64 N] rfl tq ?_; (with_reducible refine (grow0_calls N hb2 _).mono ?_); rintro e w1 ⟨v1, rfl, ho1, hbw1⟩; have u_v1 := tsv Try.prog v1 ho1; refine ⟨_, rfl, ?_⟩; have HO := Aside0.mk ho1; have HB := Aside0.mk hbw1; clear ho1 hbw1)
      go_loopw [6, 27] (fun v6 v27 wr => ∃ (i : Nat), v27 = .int .i64 i ∧ i ≤ l0.length ∧ Aside0 (Kd.R (Kd.int .i64) 3 wr w.heap.size (fun _ => True) v6 (l0.take i).flatten) ∧ Aside0 (Below w.heap.size w wr)) (fun _ v27 _ => l0.length - (intOf v27).toNat)
      case atStart => exact ⟨0, rfl, Nat.zero_le _, HO, HB⟩
      case round =>
        obtain ⟨i, rfl, hi, HO, HB⟩ := hrel
        obtain ⟨A6, c6, rfl⟩ := Kd.R_slice HO.out
        by_cases hlt : i < l0.length
        · obtain ⟨ad, A1, c1, rfl, hx, hl1, hi1⟩ := at_L3 (Kd.C_below HR.out HB.out) (i : Int) (by omega) (by omega)
          rw [show ((i : Int)).toNat = i from rfl] at hx
          have hs1 := HF.out.2 i hlt
          have hf1 := HF.out.1 (i + 1)
          rw [hs1, List.length_append] at hf1
          have HC := Aside0.mk hi1
          have HS := Aside0.mk hs1
          obtain ⟨n1, hn1⟩ : ∃ n1, n1 = (l0.take i).flatten.length := ⟨_, rfl⟩
          obtain ⟨n2, hn2⟩ : ∃ n2, n2 = (rd_L3 l0 (i : Int)).length := ⟨_, rfl⟩
          rw [← hn1] at hf1
          rw [← hn2] at hf1 hl1 hx
          have HN1 := Aside0.mk (And.intro hn1 hn2)
          clear hi1 hs1 hn1 hn2
          go_wp2_with ((with_reducible refine gate_builtin (b := .append) (xs := #[.tmp 31, .tmp 32]) rfl ?_); at_builtin; refine Kd.R_append_rows (Kd.int .i64) (w0 := w) w.heap.size rfl (.tmp 31) (.tmp 32) 26 3 (.int .i64 0) 8 rfl Try.underlying26 info3 rfl (by decide) (by omega) _ (l0.take i).flatten (rd_L3 l0 (i : Int)) A1 n2 c1 (fun _ => True) (fun _ => False) rfl rfl HO.out (by rw [HN1.out.2]; exact HC.out) (fun _ _ h => h) (fun _ h => h.elim) (fun _ _ => trivial) HB.out (below_size HB.out) (by rw [← HN1.out.1]; omega) ?_; intro v2 w2 ho2 hb2 hg2 hat2; rw [← HS.out] at ho2; have HO2 := Aside0.mk ho2; have HB2 := Aside0.mk hb2; clear ho2 hb2 hg2 hat2)
          go_roundw
          case rel => exact ⟨i + 1, by simp, by omega, HO2, HB2⟩
          case measure => simp [intOf]; omega
        · obtain rfl : i = l0.length := by omega
          go_wp2
          go_ret
          refine ⟨_, rfl, ?_, HB.out⟩
          have HO := HO.out
          rw [List.take_length] at HO
          simpa using HO
end Go.Proofs.Ythoioccmnphfgaa.G

namespace Go.Proofs.Ythoioccmnphfgaa.G
open Go.RowKit Go.Proofs.YthoioccmnphfgaaW.PrintWords Go.Proofs.YthoioccmnphfgaaW.PrintLast Go.Proofs.YthoioccmnphfgaaW.PrintMore
attribute [local go_sem] max2_int min2_int max_two min_two max_three min_three max_four min_four   -- for this text's walks alone
set_option linter.unusedVariables false
set_option linter.unusedSimpArgs false

def impl_FoldNumber.j0 : Nat → Int → Bool → Option (Int)
 | 0, _, _ => none
 | k + 1, x0, x3 => if x3 = true then (some (-1)) else (if x0 < 0 then (some (wrap64 ((wrap64 ((-2) * x0)) - 1))) else (some (wrap64 (2 * x0))))
def impl_FoldNumber.f (k : Nat) (a0 : Int) : Option (Int) := if a0 < (-1000000) then (impl_FoldNumber.j0 k a0 true) else (impl_FoldNumber.j0 k a0 (decide (a0 > 1000000)))
set_option maxHeartbeats 8000000 in
set_option maxRecDepth 100000 in
theorem impl_FoldNumber.calls (k : Nat) (a0 : Int) (r : Int) (w : World) (h : impl_FoldNumber.f k a0 = some r) :
  Calls Try.prog 75 #[.int .i64 a0] w fun e w' => e = .returned (.int .i64 r) ∧ Drawn0 w w' := by
 have H : (if a0 < (-1000000) then (impl_FoldNumber.j0 k a0 true) else (impl_FoldNumber.j0 k a0 (decide (a0 > 1000000)))) = some r := h
 clear h
 have HC2 := Aside0.mk H
 clear H
 go_enter Try.func75, Try.ntmps75
 go_upto_region 1 with (fail)
 go_cut [3] (fun v3 wc => ∃ (kq : Nat) (x3_1 : Bool), v3 = .bool x3_1 ∧ Aside0 (impl_FoldNumber.j0 kq a0 x3_1 = some r) ∧ Aside0 (kq ≤ k) ∧ Drawn0 w wc)
 case first =>
  have H := HC2.out
  clear HC2
  by_cases c3 : a0 < (-1000000)
  ·rw [if_pos c3] at H
   have c3b0 : decide (a0 < (-1000000)) = true := decide_eq_true c3
   clear c3
   (first | rw [c3b0] | (simp only [i64_w, i32_w]; rw [c3b0]) | skip)
   have H' := Aside0.mk H
   clear H
   go_wp2
   go_meet
   case rel => exact ⟨_, (true), tr, H', ⟨by first | omega | exact Nat.le_refl _⟩, by repeat (first | exact Drawn0.refl _ | apply Drawn0.step)⟩
  ·rw [if_neg c3] at H
   have c3b0 : decide (a0 < (-1000000)) = false := decide_eq_false c3
   clear c3
   (first | rw [c3b0] | (simp only [i64_w, i32_w]; rw [c3b0]) | skip)
   have H' := Aside0.mk H
   clear H
   go_wp2
   go_meet
   case rel => exact ⟨_, (decide (a0 > 1000000)), tr, H', ⟨by first | omega | exact Nat.le_refl _⟩, by repeat (first | exact Drawn0.refl _ | apply Drawn0.step)⟩
 case rest =>
  clear HC2
  obtain ⟨kq, x3_1, rfl, HA, HJ1, ⟨mc1, rfl⟩⟩ := hcut
  cases kq with
  | zero => exact absurd HA.out (by simp [impl_FoldNumber.j0])
  | succ kj1 =>
   have H := HA.out
   clear HA
   simp only [impl_FoldNumber.j0] at H
   by_cases c4 : x3_1 = true
   ·subst c4
    rw [if_pos rfl] at H
    obtain rfl := Option.some.inj H
    go_wp2
    go_ret
    exact ⟨by first | rfl | (simp; done) | (simp [*]; done), by repeat (first | exact Drawn0.refl _ | apply Drawn0.step)⟩
   ·replace c4 := Bool.eq_false_iff.mpr c4
    subst c4
    rw [if_neg (show ¬ (false = true) by decide)] at H
    by_cases c5 : a0 < 0
    ·rw [if_pos c5] at H
     have c5b0 : decide (a0 < 0) = true := decide_eq_true c5
     clear c5
     obtain rfl := Option.some.inj H
     go_wp2
     go_ret
     exact ⟨by first | rfl | (simp; done) | (simp [*]; done), by repeat (first | exact Drawn0.refl _ | apply Drawn0.step)⟩
    ·rw [if_neg c5] at H
     have c5b0 : decide (a0 < 0) = false := decide_eq_false c5
     clear c5
     obtain rfl := Option.some.inj H
     go_wp2
     go_ret
     exact ⟨by first | rfl | (simp; done) | (simp [*]; done), by repeat (first | exact Drawn0.refl _ | apply Drawn0.step)⟩

def impl_varOf.l0 : Nat → List Int → Int → Option (List Int)
 | 0, _, _ => none
 | k + 1, x3, x4 => if x4 < 128 then (if x3.length < 17592186044416 then (some (x3 ++ [x4])) else (none)) else (if x3.length < 17592186044416 then (impl_varOf.l0 k (x3 ++ [Go.bits .or .i64 (Go.bits .and .i64 x4 127) 128]) (x4 / 128)) else (none))
def impl_varOf.f (k : Nat) (a0 : Int) : Option (List Int) := (impl_FoldNumber.f k a0).bind fun t293 => (impl_varOf.l0 k (([] : List Int)) t293)
set_option maxHeartbeats 8000000 in
set_option maxRecDepth 100000 in
theorem impl_varOf.calls (k : Nat) (a0 : Int) (r : List Int) (w : World) (h : impl_varOf.f k a0 = some r) :
  Calls Try.prog 58 #[.int .i64 a0] w fun e w' => ∃ v0_ : Value, e = .returned (v0_) ∧ Kd.R (Kd.int .i64) 3 w' w.heap.size (fun _ => True) v0_ r ∧ Below w.heap.size w w' := by
 have HB := Aside0.mk (Below.refl w.heap.size w)
 have H : ((impl_FoldNumber.f k a0).bind fun t293 => (impl_varOf.l0 k (([] : List Int)) t293)) = some r := h
 clear h
 obtain ⟨y290, hy290⟩ : ∃ y_ : List Int, y_ = (([] : List Int)) := ⟨_, rfl⟩
 replace H : ((impl_FoldNumber.f k a0).bind fun t293 => (impl_varOf.l0 k y290 t293)) = some r := by first | (rw [hy290]; with_reducible exact H) | (have H2_ := (Option.bind_some _ _).symm.trans H; rw [hy290]; with_reducible exact H2_) | (have H2_ := (Option.bind_some _ _).symm.trans H; with_reducible exact H2_) | with_reducible exact H | (rw [hy290]; exact H) | exact H
 have Ny290 := Aside0.mk hy290
 clear hy290
 replace H := tbe H
 obtain ⟨t293, A2, H⟩ := H
 have H' := Aside0.mk H
 clear H
 go_enter Try.func58, Try.ntmps58
 go_wp2_with (first | ((with_reducible refine gate_dst (N := 5) rfl ?_); refine Kd.R_lit (Kd.int .i64) _ 3 ?hg (N := 5) ?hd (xs := ([] : List Int)) (inner := []) (ok := fun _ => True) (okp := fun _ => True) ?hr ?hp (fun _ hk => hk) trivial (Below.refl _ _) (Nat.le_refl _) (by simp) ?_; (case hd => rfl); (case hg => rfl); (case hr => first | (go_simp; done) | (go_simp; rfl)); (case hp => exact (Reps.none _ _)); intro v291 w3 ho4 hb hg_ hnew_; clear hg_ hnew_; (first | rw [← Ny290.out] at ho4 | (simp only [Int.reduceToNat] at ho4; rw [← Ny290.out] at ho4)); have HO292 := tRl ho4 HB; replace HB := tBs HB hb; clear hb ho4) | ((with_reducible refine gate_callee (f := 75) rfl ?_); refine goesL_ (some 7) rfl rfl Try.func75 (by kernel_rfl) rfl #[.int .i64 a0] rfl tq ?_; (with_reducible refine (impl_FoldNumber.calls k a0 t293 _ A2.out).mono ?_); rintro e w' ⟨rfl, ⟨nd, rfl⟩⟩; refine ⟨_, rfl, ?_⟩))
 go_loopg [3, 4] k (fun kq v3 v4 w' => ∃ (x3_1 : List Int) (x4_1 : Int), v4 = .int .i64 x4_1 ∧ Aside0 (impl_varOf.l0 kq x3_1 x4_1 = some r) ∧ Aside0 (kq ≤ k) ∧ Aside0 (Kd.R (Kd.int .i64) 3 w' w.heap.size (fun _ => True) v3 x3_1) ∧ Aside0 (Below w.heap.size w w'))
 case atStart => exact ⟨(y290), (t293), tr, H', ⟨Nat.le_refl _⟩, ⟨tR HO292.out⟩, ⟨zb⟩⟩
 case round =>
  clear H'
  obtain ⟨x3_1, x4_1, rfl, HA, HK1, HO_3, HB⟩ := hrel
  cases gk with
  | zero => exact absurd HA.out (by simp [impl_varOf.l0])
  | succ k1 =>
   have H := HA.out
   clear HA
   simp only [impl_varOf.l0] at H
   by_cases c5 : x4_1 < 128
   ·rw [if_pos c5] at H
    have c5b0 : decide (x4_1 < 128) = true := decide_eq_true c5
    clear c5
    by_cases c6 : x3_1.length < 17592186044416
    ·rw [if_pos c6] at H
     have LMc6 := Aside0.mk c6
     clear c6
     obtain ⟨y294, hy294⟩ : ∃ y_ : List Int, y_ = (x3_1 ++ [x4_1]) := ⟨_, rfl⟩
     replace H : (some y294) = some r := by first | (rw [hy294]; with_reducible exact H) | (have H2_ := (Option.bind_some _ _).symm.trans H; rw [hy294]; with_reducible exact H2_) | (have H2_ := (Option.bind_some _ _).symm.trans H; with_reducible exact H2_) | with_reducible exact H | (rw [hy294]; exact H) | exact H
     have Ny294 := Aside0.mk hy294
     clear hy294
     obtain rfl := Option.some.inj H
     go_wp2_with (first | ((with_reducible refine gate_builtin (b := .append) (xs := #[.tmp 12, .tmp 14]) rfl ?_); at_builtin; refine Kd.R_append (Kd.int .i64) (w0 := w) w.heap.size rfl (.tmp 12) (.tmp 14) 26 3 (.int .i64 0) 8 rfl Try.underlying26 info3 rfl (by decide) (by omega) u3 x3_1 x4_1 [.int .i64 x4_1] (fun _ => True) (fun _ => False) rfl rfl ?aP (fun _ hk => hk.elim) ?aF ?aO ?aB ?aS ?aL ?_; (case aP => exact rfl); (case aB => exact zb); (case aF => exact (fun _ _ => trivial)); (case aO => exact (tR HO_3.out)); (case aS => exact (below_size zb)); (case aL => have := LMc6.out; omega); intro v295 w7 ho hb hg hat; rw [← Ny294.out] at ho; replace HB := Aside0.mk (hb); have HO296 := Aside0.mk (ho); clear HO_3; clear ho hb hg hat))
     go_ret
     exact ⟨_, by first | rfl | (simp [errW_none, errW_some] <;> rfl) | (simp [*, errW_none, errW_some] <;> rfl), tR HO296.out, zb⟩
    ·rw [if_neg c6] at H
     exact absurd H (by simp)
   ·rw [if_neg c5] at H
    have c5b0 : decide (x4_1 < 128) = false := decide_eq_false c5
    clear c5
    by_cases c8 : x3_1.length < 17592186044416
    ·rw [if_pos c8] at H
     have LMc8 := Aside0.mk c8
     clear c8
     obtain ⟨y297, hy297⟩ : ∃ y_ : List Int, y_ = (x3_1 ++ [Go.bits .or .i64 (Go.bits .and .i64 x4_1 127) 128]) := ⟨_, rfl⟩
     replace H : (impl_varOf.l0 k1 y297 (x4_1 / 128)) = some r := by first | (rw [hy297]; with_reducible exact H) | (have H2_ := (Option.bind_some _ _).symm.trans H; rw [hy297]; with_reducible exact H2_) | (have H2_ := (Option.bind_some _ _).symm.trans H; with_reducible exact H2_) | with_reducible exact H | (rw [hy297]; exact H) | exact H
     have Ny297 := Aside0.mk hy297
     clear hy297
     have H' := Aside0.mk H
     clear H
     go_wp2_with (first | ((with_reducible refine gate_builtin (b := .append) (xs := #[.tmp 16, .tmp 20]) rfl ?_); at_builtin; refine Kd.R_append (Kd.int .i64) (w0 := w) w.heap.size rfl (.tmp 16) (.tmp 20) 26 3 (.int .i64 0) 8 rfl Try.underlying26 info3 rfl (by decide) (by omega) u3 x3_1 (Go.bits .or .i64 (Go.bits .and .i64 x4_1 127) 128) [.int .i64 (Go.bits .or .i64 (Go.bits .and .i64 x4_1 127) 128)] (fun _ => True) (fun _ => False) rfl rfl ?aP (fun _ hk => hk.elim) ?aF ?aO ?aB ?aS ?aL ?_; (case aP => exact rfl); (case aB => exact zb); (case aF => exact (fun _ _ => trivial)); (case aO => exact (tR HO_3.out)); (case aS => exact (below_size zb)); (case aL => have := LMc8.out; omega); intro v298 w9 ho hb hg hat; rw [← Ny297.out] at ho; replace HB := Aside0.mk (hb); have HO299 := Aside0.mk (ho); clear HO_3; clear ho hb hg hat))
     go_roundg k1
     case measure => have := HK1.out; omega
     case rel => exact ⟨(y297), (x4_1 / 128), tr, H', ⟨by have := HK1.out; omega⟩, ⟨tR HO299.out⟩, ⟨zb⟩⟩
    ·rw [if_neg c8] at H
     exact absurd H (by simp)

def impl_partBytes.f (k : Nat) (a0 : Bool) (l1 : List Int) : Option (List Int) := if a0 = true then ((impl_varOf.f k (l1.length : Int)).bind fun t300 => (if t300.length + l1.length < 17592186044416 then (some (t300 ++ l1)) else (none))) else ((impl_varOf.f k (-1)).bind fun t306 => (some t306))
set_option maxHeartbeats 8000000 in
set_option maxRecDepth 100000 in
theorem impl_partBytes.calls (k : Nat) (a0 : Bool) (A1 : Option Addr) (c1 : Nat) (l1 : List Int) (r : List Int) (w : World) (hr1 : Kd.C (Kd.int .i64) w A1 l1.length l1) (hc1 : l1.length ≤ c1) (h : impl_partBytes.f k a0 l1 = some r) :
  Calls Try.prog 59 #[.bool a0, .slice A1 l1.length c1] w fun e w' => ∃ v0_ : Value, e = .returned (v0_) ∧ Kd.R (Kd.int .i64) 3 w' w.heap.size (fun _ => True) v0_ r ∧ Below w.heap.size w w' := by
 have HR1 := Aside0.mk hr1
 have HC1 := Aside0.mk hc1
 clear hr1 hc1
 have HB := Aside0.mk (Below.refl w.heap.size w)
 have H : (if a0 = true then ((impl_varOf.f k (l1.length : Int)).bind fun t300 => (if t300.length + l1.length < 17592186044416 then (some (t300 ++ l1)) else (none))) else ((impl_varOf.f k (-1)).bind fun t306 => (some t306))) = some r := h
 clear h
 by_cases c3 : a0 = true
 ·subst c3
  rw [if_pos rfl] at H
  replace H := tbe H
  obtain ⟨t300, A4, H⟩ := H
  by_cases c5 : t300.length + l1.length < 17592186044416
  ·rw [if_pos c5] at H
   have LMc5 := Aside0.mk c5
   clear c5
   obtain ⟨y303, hy303⟩ : ∃ y_ : List Int, y_ = (t300 ++ l1) := ⟨_, rfl⟩
   replace H : (some y303) = some r := by first | (rw [hy303]; with_reducible exact H) | (have H2_ := (Option.bind_some _ _).symm.trans H; rw [hy303]; with_reducible exact H2_) | (have H2_ := (Option.bind_some _ _).symm.trans H; with_reducible exact H2_) | with_reducible exact H | (rw [hy303]; exact H) | exact H
   have Ny303 := Aside0.mk hy303
   clear hy303
   obtain rfl := Option.some.inj H
   go_enter Try.func59, Try.ntmps59
   go_wp2_with (first | ((with_reducible refine gate_callee (f := 58) rfl ?_); refine goesL_ (some 10) rfl rfl Try.func58 (by kernel_rfl) rfl #[.int .i64 (l1.length : Int)] rfl tq ?_; (with_reducible refine (impl_varOf.calls k (l1.length : Int) t300 _ A4.out).mono ?_); rintro e w6 ⟨v301, rfl, ho0, hb⟩; have u_v301 := tsv Try.prog v301 ho0; refine ⟨_, rfl, ?_⟩; have HO302 := tRl ho0 HB; replace HB := tBs HB hb; (try clear hb); (try clear hb2); (try clear hk); (try clear hi); (try clear ho0)) | ((with_reducible refine gate_builtin (b := .append) (xs := #[.tmp 10, .tmp 11]) rfl ?_); at_builtin; refine Kd.R_append_rows (Kd.int .i64) (w0 := w) w.heap.size rfl (.tmp 10) (.tmp 11) 26 3 (.int .i64 0) 8 rfl Try.underlying26 info3 rfl (by decide) (by omega) v301 t300 l1 _ _ _ (fun _ => True) (fun _ => False) rfl rfl ?aO ?aR (fun _ _ h => h) (fun _ h => h.elim) ?aF ?aB ?aS ?aL ?_; (case aR => exact tC (Kd.C_below HR1.out HB.out)); (case aB => exact zb); (case aF => exact (fun _ _ => trivial)); (case aO => exact (tR HO302.out)); (case aS => exact (below_size zb)); (case aL => have := LMc5.out; omega); intro v304 w7 ho hb hg hat; rw [← Ny303.out] at ho; replace HB := Aside0.mk (hb); have HO305 := Aside0.mk (ho); clear HO302; clear ho hb hg hat))
   go_ret
   exact ⟨_, by first | rfl | (simp [errW_none, errW_some] <;> rfl) | (simp [*, errW_none, errW_some] <;> rfl), tR HO305.out, zb⟩
  ·rw [if_neg c5] at H
   exact absurd H (by simp)
 ·replace c3 := Bool.eq_false_iff.mpr c3
  subst c3
  rw [if_neg (show ¬ (false = true) by decide)] at H
  replace H := tbe H
  obtain ⟨t306, A8, H⟩ := H
  obtain rfl := Option.some.inj H
  go_enter Try.func59, Try.ntmps59
  go_wp2_with (first | ((with_reducible refine gate_callee (f := 58) rfl ?_); refine goesL_ (some 7) rfl rfl Try.func58 (by kernel_rfl) rfl #[.int .i64 (-1)] rfl tq ?_; (with_reducible refine (impl_varOf.calls k (-1) t306 _ A8.out).mono ?_); rintro e w9 ⟨v307, rfl, ho0, hb⟩; have u_v307 := tsv Try.prog v307 ho0; refine ⟨_, rfl, ?_⟩; have HO308 := tRl ho0 HB; replace HB := tBs HB hb; (try clear hb); (try clear hb2); (try clear hk); (try clear hi); (try clear ho0)))
  go_ret
  exact ⟨_, by first | rfl | (simp [errW_none, errW_some] <;> rfl) | (simp [*, errW_none, errW_some] <;> rfl), tR HO308.out, zb⟩

def impl_Record_bytesFor.f (k : Nat) (a0_0 : Int) (a0_1 : Int) (a0_2 : Bool) (l0_3 : List Int) (a0_4 : Bool) (l0_5 : List Int) (a1 : Int) (a2 : Int) : Option (List Int) := (impl_varOf.f k (wrap64 (a0_1 - a2))).bind fun t310 => ((impl_varOf.f k (wrap64 (a0_0 - a1))).bind fun t313 => (if t310.length + t313.length < 17592186044416 then ((some (t310 ++ t313 : List Int)).bind fun y316 => ((impl_partBytes.f k a0_2 l0_3).bind fun t319 => (if y316.length + t319.length < 17592186044416 then ((some (y316 ++ t319 : List Int)).bind fun y322 => ((impl_partBytes.f k a0_4 l0_5).bind fun t325 => (if y322.length + t325.length < 17592186044416 then ((some (y322 ++ t325 : List Int)).bind fun y328 => ((impl_varOf.f k (y328.length : Int)).bind fun t331 => (if t331.length + y328.length < 17592186044416 then (some (t331 ++ y328)) else (none)))) else (none)))) else (none)))) else (none)))
def impl_Record_bytesFor.T1 : Bool × List (List Nat × List Nat) := (true, [([], []), ([0], [0]), ([], []), ([1, 2], [1, 2]), ([3], [3]), ([], []), ([5], [5]), ([], []), ([6, 7], [6, 7]), ([8, 4], [8]), ([4, 9, 9], [4, 9]), ([10, 10, 0, 1, 2, 3, 4, 5, 6, 7, 8, 9, 10], [10])])
def impl_Record_bytesFor.B1 : List Nat := [0, 1, 0, 7, 15, 0, 32, 0, 224, 511, 1023, 2047]
theorem impl_Record_bytesFor.tab1 : rtab .any (opsOf Try.f42 1) = impl_Record_bytesFor.T1 := by kernel_rfl
theorem impl_Record_bytesFor.bits1 : waitsOk impl_Record_bytesFor.T1.2 impl_Record_bytesFor.B1 = true := by kernel_rfl
set_option maxHeartbeats 8000000 in
set_option maxRecDepth 100000 in
theorem impl_Record_bytesFor.calls (k : Nat) (a0_0 : Int) (a0_1 : Int) (a0_2 : Bool) (A0_3 : Option Addr) (c0_3 : Nat) (l0_3 : List Int) (a0_4 : Bool) (A0_5 : Option Addr) (c0_5 : Nat) (l0_5 : List Int) (a1 : Int) (a2 : Int) (r : List Int) (w : World) (hr0_3 : Kd.C (Kd.int .i64) w A0_3 l0_3.length l0_3) (hc0_3 : l0_3.length ≤ c0_3) (hr0_5 : Kd.C (Kd.int .i64) w A0_5 l0_5.length l0_5) (hc0_5 : l0_5.length ≤ c0_5) (h : impl_Record_bytesFor.f k a0_0 a0_1 a0_2 l0_3 a0_4 l0_5 a1 a2 = some r) :
  Calls Try.prog 42 #[.agg #[.int .i64 a0_0, .int .i64 a0_1, .bool a0_2, .slice A0_3 l0_3.length c0_3, .bool a0_4, .slice A0_5 l0_5.length c0_5], .int .i64 a1, .int .i64 a2] w fun e w' => ∃ v0_ : Value, e = .returned (v0_) ∧ Kd.R (Kd.int .i64) 3 w' w.heap.size (fun _ => True) v0_ r ∧ Below w.heap.size w w' := by
 have hu63 := Try.underlying63
 have HR0_3 := Aside0.mk hr0_3
 have HC0_3 := Aside0.mk hc0_3
 clear hr0_3 hc0_3
 have HR0_5 := Aside0.mk hr0_5
 have HC0_5 := Aside0.mk hc0_5
 clear hr0_5 hc0_5
 have HB := Aside0.mk (Below.refl w.heap.size w)
 have H : ((impl_varOf.f k (wrap64 (a0_1 - a2))).bind fun t310 => ((impl_varOf.f k (wrap64 (a0_0 - a1))).bind fun t313 => (if t310.length + t313.length < 17592186044416 then ((some (t310 ++ t313 : List Int)).bind fun y316 => ((impl_partBytes.f k a0_2 l0_3).bind fun t319 => (if y316.length + t319.length < 17592186044416 then ((some (y316 ++ t319 : List Int)).bind fun y322 => ((impl_partBytes.f k a0_4 l0_5).bind fun t325 => (if y322.length + t325.length < 17592186044416 then ((some (y322 ++ t325 : List Int)).bind fun y328 => ((impl_varOf.f k (y328.length : Int)).bind fun t331 => (if t331.length + y328.length < 17592186044416 then (some (t331 ++ y328)) else (none)))) else (none)))) else (none)))) else (none)))) = some r := h
 clear h
 replace H := tbe H
 obtain ⟨t310, A4, H⟩ := H
 replace H := tbe H
 obtain ⟨t313, A5, H⟩ := H
 by_cases c6 : t310.length + t313.length < 17592186044416
 ·rw [if_pos c6] at H
  have LMc6 := Aside0.mk c6
  clear c6
  obtain ⟨y316, hy316⟩ : ∃ y_ : List Int, y_ = (t310 ++ t313) := ⟨_, rfl⟩
  replace H : ((impl_partBytes.f k a0_2 l0_3).bind fun t319 => (if y316.length + t319.length < 17592186044416 then ((some (y316 ++ t319 : List Int)).bind fun y322 => ((impl_partBytes.f k a0_4 l0_5).bind fun t325 => (if y322.length + t325.length < 17592186044416 then ((some (y322 ++ t325 : List Int)).bind fun y328 => ((impl_varOf.f k (y328.length : Int)).bind fun t331 => (if t331.length + y328.length < 17592186044416 then (some (t331 ++ y328)) else (none)))) else (none)))) else (none))) = some r := by first | (rw [hy316]; with_reducible exact H) | (have H2_ := (Option.bind_some _ _).symm.trans H; rw [hy316]; with_reducible exact H2_) | (have H2_ := (Option.bind_some _ _).symm.trans H; with_reducible exact H2_) | with_reducible exact H | (rw [hy316]; exact H) | exact H
  have Ny316 := Aside0.mk hy316
  clear hy316
  replace H := tbe H
  obtain ⟨t319, A7, H⟩ := H
  by_cases c8 : y316.length + t319.length < 17592186044416
  ·rw [if_pos c8] at H
   have LMc8 := Aside0.mk c8
   clear c8
   obtain ⟨y322, hy322⟩ : ∃ y_ : List Int, y_ = (y316 ++ t319) := ⟨_, rfl⟩
   replace H : ((impl_partBytes.f k a0_4 l0_5).bind fun t325 => (if y322.length + t325.length < 17592186044416 then ((some (y322 ++ t325 : List Int)).bind fun y328 => ((impl_varOf.f k (y328.length : Int)).bind fun t331 => (if t331.length + y328.length < 17592186044416 then (some (t331 ++ y328)) else (none)))) else (none))) = some r := by first | (rw [hy322]; with_reducible exact H) | (have H2_ := (Option.bind_some _ _).symm.trans H; rw [hy322]; with_reducible exact H2_) | (have H2_ := (Option.bind_some _ _).symm.trans H; with_reducible exact H2_) | with_reducible exact H | (rw [hy322]; exact H) | exact H
   have Ny322 := Aside0.mk hy322
   clear hy322
   replace H := tbe H
   obtain ⟨t325, A9, H⟩ := H
   by_cases c10 : y322.length + t325.length < 17592186044416
   ·rw [if_pos c10] at H
    have LMc10 := Aside0.mk c10
    clear c10
    obtain ⟨y328, hy328⟩ : ∃ y_ : List Int, y_ = (y322 ++ t325) := ⟨_, rfl⟩
    replace H : ((impl_varOf.f k (y328.length : Int)).bind fun t331 => (if t331.length + y328.length < 17592186044416 then (some (t331 ++ y328)) else (none))) = some r := by first | (rw [hy328]; with_reducible exact H) | (have H2_ := (Option.bind_some _ _).symm.trans H; rw [hy328]; with_reducible exact H2_) | (have H2_ := (Option.bind_some _ _).symm.trans H; with_reducible exact H2_) | with_reducible exact H | (rw [hy328]; exact H) | exact H
    have Ny328 := Aside0.mk hy328
    clear hy328
    replace H := tbe H
    obtain ⟨t331, A11, H⟩ := H
    by_cases c12 : t331.length + y328.length < 17592186044416
    ·rw [if_pos c12] at H
     have LMc12 := Aside0.mk c12
     clear c12
     obtain ⟨y334, hy334⟩ : ∃ y_ : List Int, y_ = (t331 ++ y328) := ⟨_, rfl⟩
     replace H : (some y334) = some r := by first | (rw [hy334]; with_reducible exact H) | (have H2_ := (Option.bind_some _ _).symm.trans H; rw [hy334]; with_reducible exact H2_) | (have H2_ := (Option.bind_some _ _).symm.trans H; with_reducible exact H2_) | with_reducible exact H | (rw [hy334]; exact H) | exact H
     have Ny334 := Aside0.mk hy334
     clear hy334
     obtain rfl := Option.some.inj H
     go_enter Try.func42, Try.ntmps42
     try go_wp2_with (first | ((with_reducible refine gate_dst (N := 3) rfl ?_); refine box_event ?hg (N := 3) ?hd (cs := #[.int .i64 a0_0, .int .i64 a0_1, .bool a0_2, .slice A0_3 l0_3.length c0_3, .bool a0_4, .slice A0_5 l0_5.length c0_5]) (t := 63) ?hr ?_; (case hd => rfl); (case hg => rfl); (case hr => first | (go_simp; done) | (go_simp; rfl)); intro gb309 hg w13 hbox hb; have BK309 := Aside0.mk (hbox); have GW309 := tge HB hg; have GE309 := tge HB hg; replace HB := tBs HB hb; clear hb hbox hg))
     replace BK309 := Aside0.mk (blk_drew BK309.out)
     replace HB := Aside0.mk (below_drew1 HB.out)
     refine start_ (n := 12) (S := fun w' => w'.cell? ⟨gb309, 0, none⟩ = some (.int .i64 a0_0) ∧ w'.cell? ⟨gb309, 1, none⟩ = some (.int .i64 a0_1) ∧ w'.cell? ⟨gb309, 2, none⟩ = some (.bool a0_2) ∧ w'.cell? ⟨gb309, 3, none⟩ = some (.slice A0_3 l0_3.length c0_3) ∧ w'.cell? ⟨gb309, 4, none⟩ = some (.bool a0_4) ∧ w'.cell? ⟨gb309, 5, none⟩ = some (.slice A0_5 l0_5.length c0_5)) (ds := []) #[false, false, false, false, false, false, false, false, false, false, false, false] (by kernel_rfl) rfl rfl ⟨(blk_cell BK309.out 0).trans rfl, (blk_cell BK309.out 1).trans rfl, (blk_cell BK309.out 2).trans rfl, (blk_cell BK309.out 3).trans rfl, (blk_cell BK309.out 4).trans rfl, (blk_cell BK309.out 5).trans rfl⟩ (fun hHeld => ?_); refine with_tabW impl_Record_bytesFor.tab1 impl_Record_bytesFor.bits1 (fun HT_ HW_ => ?_)
     generalize w13.drew = w14 at BK309 HB hHeld ⊢
     refine tpu 0 (some 8) #[true, false, false, false, false, false, false, false, false, false, false, false] ?_
     refine tpu 2 (some 10) #[true, false, true, false, false, false, false, false, false, false, false, false] ?_
     refine tpu 5 (some 13) #[true, false, true, false, false, true, false, false, false, false, false, false] ?_
     refine tpu 7 (some 15) #[true, false, true, false, false, true, false, true, false, false, false, false] ?_
     refine tta 1 (some 9) #[true, true, true, false, false, true, false, true, false, false, false, false] hHeld ?_ (hy := by rintro w' ⟨s0, s1, s2, s3, s4, s5⟩; go_simp; with_reducible rfl)
     refine tpu 3 (some 11) #[true, true, true, true, false, true, false, true, false, false, false, false] ?_
     refine tta 6 (some 14) #[true, true, true, true, false, true, true, true, false, false, false, false] hHeld ?_ (hy := by rintro w' ⟨s0, s1, s2, s3, s4, s5⟩; go_simp; with_reducible rfl)
     refine tpu 8 (some 16) #[true, true, true, true, false, true, true, true, true, false, false, false] ?_
     refine one_ (i := 4) (N := some 12) #[true, true, true, true, true, true, true, true, true, false, false, false] rfl rfl (one_of HT_.out (by kernel_rfl)) (by decide) (fun K hK => ?_)
     refine goes_ Try.func58 (by kernel_rfl) rfl #[.int .i64 (wrap64 (a0_1 - a2))] (by rfl) rfl rfl tq ?_
     with_reducible refine (impl_varOf.calls k (wrap64 (a0_1 - a2)) t310 _ A4.out).mono ?_
     rintro e w15 ⟨v311, rfl, ho0, hb⟩
     refine ⟨_, rfl, ?_⟩
     have HO312 := tRl ho0 HB
     replace BK309 := tBb BK309 hb
     replace HB := tBs HB hb
     (try clear hb)
     (try clear hb2)
     (try clear hk)
     (try clear hi)
     (try clear ho0)
     refine hK.out _ _ ⟨(blk_cell BK309.out 0).trans rfl, (blk_cell BK309.out 1).trans rfl, (blk_cell BK309.out 2).trans rfl, (blk_cell BK309.out 3).trans rfl, (blk_cell BK309.out 4).trans rfl, (blk_cell BK309.out 5).trans rfl⟩ (fun hHeld => ?_)
     clear hK K
     refine tnm (some 12) ?_
     refine one_ (i := 9) (N := some 17) #[true, true, true, true, true, true, true, true, true, true, false, false] rfl rfl (one_of HT_.out (by kernel_rfl)) (by decide) (fun K hK => ?_)
     refine goes_ Try.func58 (by kernel_rfl) rfl #[.int .i64 (wrap64 (a0_0 - a1))] (by rfl) rfl rfl tq ?_
     with_reducible refine (impl_varOf.calls k (wrap64 (a0_0 - a1)) t313 _ A5.out).mono ?_
     rintro e w16 ⟨v314, rfl, ho0, hb⟩
     refine ⟨_, rfl, ?_⟩
     have HO315 := Aside0.mk (Kd.R_lower (Kd.R_new' ho0 (Kd.R_lt (tR HO312.out))) (below_size zb))
     replace HO312 := Aside0.mk (Kd.R_elder' (tR HO312.out) (Kd.R_base ho0) hb)
     replace BK309 := tBb BK309 hb
     replace HB := tBs HB hb
     (try clear hb)
     (try clear hb2)
     (try clear hk)
     (try clear hi)
     (try clear ho0)
     obtain ⟨Ao18, co18, eo18⟩ := Kd.R_slice HO315.out
     (first | subst eo18 | (injection eo18 with f1_ f2_ f3_; have f4_ := f1_.symm; have f5_ := f3_.symm; clear f1_ f2_ f3_; subst f4_; subst f5_))
     refine hK.out _ _ ⟨(blk_cell BK309.out 0).trans rfl, (blk_cell BK309.out 1).trans rfl, (blk_cell BK309.out 2).trans rfl, (blk_cell BK309.out 3).trans rfl, (blk_cell BK309.out 4).trans rfl, (blk_cell BK309.out 5).trans rfl⟩ (fun hHeld => ?_)
     clear hK K
     refine tnm (some 17) ?_
     refine one_ (i := 10) (N := some 18) #[true, true, true, true, true, true, true, true, true, true, true, false] rfl rfl (one_of HT_.out (by kernel_rfl)) (by decide) (fun K hK => ?_)
     refine Kd.R_append_rows_step (Kd.int .i64) (w0 := w) w.heap.size (by rfl) (.tmp 12) (.tmp 17) 26 3 (.int .i64 0) 8 rfl Try.underlying26 info3 rfl (by decide) (by omega) v311 t310 t313 _ _ _ (fun k_ => some k_ ≠ (.slice Ao18 t313.length co18 : Value).ownBlock) (fun _ => False) rfl rfl ?aO ?aR (fun _ _ h => h) (fun _ h => h.elim) ?aF ?aB ?aS ?aL ?_
     (case aR => repeat (first | exact (Kd.R_reads' HO315.out).2.2 | (with_reducible refine Kd.C_alloc ?_ _) | (with_reducible refine Kd.C_drewN ?_ _) | (with_reducible refine Kd.C_drew ?_)))
     (case aB => exact zb)
     (case aF => exact (fun k_ hk => Kd.fresh' (Kd.R_lt (tR HO315.out)) k_ hk))
     (case aO => exact (tRm HO312.out))
     (case aS => exact (below_size zb))
     (case aL => have := LMc6.out; omega)
     intro v317 w17 ho hb hg hat
     rw [← Ny316.out] at ho
     replace BK309 := Aside0.mk (blk_grown (tH BK309.out) hg (Kd.R_ne HO312.out BK309.out (by decide)))
     replace HO315 := Aside0.mk (Kd.R_after (ok := (fun _ => True)) (tR HO315.out) hg hat)
     replace HB := Aside0.mk (hb)
     have HO318 := Aside0.mk (ho)
     clear HO312
     clear ho hb hg hat
     refine hK.out _ _ ⟨(blk_cell BK309.out 0).trans rfl, (blk_cell BK309.out 1).trans rfl, (blk_cell BK309.out 2).trans rfl, (blk_cell BK309.out 3).trans rfl, (blk_cell BK309.out 4).trans rfl, (blk_cell BK309.out 5).trans rfl⟩ (fun hHeld => ?_)
     clear hK K
     refine tnm (some 18) ?_
     refine tpu 11 (some 7) #[true, true, true, true, true, true, true, true, true, true, true, true] ?_
     refine done_ (done_of HT_.out (by kernel_rfl)) ?_
     obtain ⟨hcz19_0, hcz19_1, hcz19_2, hcz19_3, hcz19_4, hcz19_5, hfz19_0, hfz19_1, hfz19_2, hfz19_3, hfz19_4, hfz19_5⟩ := cells6 BK309.out
     try go_wp2_with (first | ((with_reducible refine gate_callee (f := 59) rfl ?_); refine goesL_ (some 24) rfl rfl Try.func59 (by kernel_rfl) rfl #[.bool a0_2, .slice A0_3 l0_3.length c0_3] rfl tq ?_; (with_reducible refine (impl_partBytes.calls k a0_2 _ _ l0_3 t319 _ ?side1 ?side2 A7.out).mono ?_); (case side1 => exact tC (Kd.C_below HR0_3.out HB.out)); (case side2 => exact HC0_3.out); rintro e w20 ⟨v320, rfl, ho0, hb⟩; have u_v320 := tsv Try.prog v320 ho0; refine ⟨_, rfl, ?_⟩; have HO321 := Aside0.mk (Kd.R_lower (Kd.R_new' (Kd.R_new' ho0 (Kd.R_lt (tR HO315.out))) (Kd.R_lt (tR HO318.out))) (below_size zb)); replace HO315 := Aside0.mk (Kd.R_elder' (tR HO315.out) (Kd.R_base ho0) hb); replace HO318 := Aside0.mk (Kd.R_elder' (tR HO318.out) (Kd.R_base ho0) hb); replace BK309 := tBb BK309 hb; replace HB := tBs HB hb; (try clear hb); (try clear hb2); (try clear hk); (try clear hi); (try clear ho0); obtain ⟨Ao22, co22, eo22⟩ := Kd.R_slice HO321.out; subst eo22) | ((with_reducible refine gate_builtin (b := .append) (xs := #[.tmp 19, .tmp 24]) rfl ?_); at_builtin; refine Kd.R_append_rows (Kd.int .i64) (w0 := w) w.heap.size rfl (.tmp 19) (.tmp 24) 26 3 (.int .i64 0) 8 rfl Try.underlying26 info3 rfl (by decide) (by omega) v317 y316 t319 _ _ _ (fun k_ => some k_ ≠ (.slice Ao18 t313.length co18 : Value).ownBlock ∧ some k_ ≠ (.slice Ao22 t319.length co22 : Value).ownBlock) (fun _ => False) rfl rfl ?aO ?aR (fun _ _ h => h) (fun _ h => h.elim) ?aF ?aB ?aS ?aL ?_; (case aR => repeat (first | exact (Kd.R_reads' HO321.out).2.2 | (with_reducible refine Kd.C_alloc ?_ _) | (with_reducible refine Kd.C_drewN ?_ _) | (with_reducible refine Kd.C_drew ?_))); (case aB => exact zb); (case aF => exact (fun k_ hk => ⟨Kd.fresh' (Kd.R_lt (tR HO315.out)) k_ hk, Kd.fresh' (Kd.R_lt (tR HO321.out)) k_ hk⟩)); (case aO => exact (tR HO318.out)); (case aS => exact (below_size zb)); (case aL => have := LMc8.out; omega); intro v323 w21 ho hb hg hat; rw [← Ny322.out] at ho; replace BK309 := Aside0.mk (blk_grown (tH BK309.out) hg (Kd.R_ne HO318.out BK309.out (by decide))); replace HO315 := Aside0.mk (Kd.R_after (ok := (fun k_ => some k_ ≠ (.slice Ao22 t319.length co22 : Value).ownBlock)) (tRm HO315.out) hg hat); replace HO321 := Aside0.mk (Kd.R_after (ok := (fun k_ => some k_ ≠ (.slice Ao18 t313.length co18 : Value).ownBlock)) (tRm HO321.out) hg hat); replace HB := Aside0.mk (hb); have HO324 := Aside0.mk (ho); clear HO318; clear ho hb hg hat; obtain ⟨hcz23_0, hcz23_1, hcz23_2, hcz23_3, hcz23_4, hcz23_5, hfz23_0, hfz23_1, hfz23_2, hfz23_3, hfz23_4, hfz23_5⟩ := cells6 BK309.out) | ((with_reducible refine gate_callee (f := 59) rfl ?_); refine goesL_ (some 31) rfl rfl Try.func59 (by kernel_rfl) rfl #[.bool a0_4, .slice A0_5 l0_5.length c0_5] rfl tq ?_; (with_reducible refine (impl_partBytes.calls k a0_4 _ _ l0_5 t325 _ ?side1 ?side2 A9.out).mono ?_); (case side1 => exact tC (Kd.C_below HR0_5.out HB.out)); (case side2 => exact HC0_5.out); rintro e w24 ⟨v326, rfl, ho0, hb⟩; have u_v326 := tsv Try.prog v326 ho0; refine ⟨_, rfl, ?_⟩; have HO327 := Aside0.mk (Kd.R_lower (Kd.R_new' (Kd.R_new' (Kd.R_new' ho0 (Kd.R_lt (tR HO315.out))) (Kd.R_lt (tR HO321.out))) (Kd.R_lt (tR HO324.out))) (below_size zb)); replace HO315 := Aside0.mk (Kd.R_elder' (tR HO315.out) (Kd.R_base ho0) hb); replace HO321 := Aside0.mk (Kd.R_elder' (tR HO321.out) (Kd.R_base ho0) hb); replace HO324 := Aside0.mk (Kd.R_elder' (tR HO324.out) (Kd.R_base ho0) hb); replace BK309 := tBb BK309 hb; replace HB := tBs HB hb; (try clear hb); (try clear hb2); (try clear hk); (try clear hi); (try clear ho0); obtain ⟨Ao26, co26, eo26⟩ := Kd.R_slice HO327.out; subst eo26) | ((with_reducible refine gate_builtin (b := .append) (xs := #[.tmp 26, .tmp 31]) rfl ?_); at_builtin; refine Kd.R_append_rows (Kd.int .i64) (w0 := w) w.heap.size rfl (.tmp 26) (.tmp 31) 26 3 (.int .i64 0) 8 rfl Try.underlying26 info3 rfl (by decide) (by omega) v323 y322 t325 _ _ _ (fun k_ => some k_ ≠ (.slice Ao18 t313.length co18 : Value).ownBlock ∧ some k_ ≠ (.slice Ao22 t319.length co22 : Value).ownBlock ∧ some k_ ≠ (.slice Ao26 t325.length co26 : Value).ownBlock) (fun _ => False) rfl rfl ?aO ?aR (fun _ _ h => h) (fun _ h => h.elim) ?aF ?aB ?aS ?aL ?_; (case aR => repeat (first | exact (Kd.R_reads' HO327.out).2.2 | (with_reducible refine Kd.C_alloc ?_ _) | (with_reducible refine Kd.C_drewN ?_ _) | (with_reducible refine Kd.C_drew ?_))); (case aB => exact zb); (case aF => exact (fun k_ hk => ⟨Kd.fresh' (Kd.R_lt (tR HO315.out)) k_ hk, Kd.fresh' (Kd.R_lt (tR HO321.out)) k_ hk, Kd.fresh' (Kd.R_lt (tR HO327.out)) k_ hk⟩)); (case aO => exact (tRm HO324.out)); (case aS => exact (below_size zb)); (case aL => have := LMc10.out; omega); intro v329 w25 ho hb hg hat; rw [← Ny328.out] at ho; replace BK309 := Aside0.mk (blk_grown (tH BK309.out) hg (Kd.R_ne HO324.out BK309.out (by decide))); replace HO315 := Aside0.mk (Kd.R_after (ok := (fun k_ => some k_ ≠ (.slice Ao22 t319.length co22 : Value).ownBlock ∧ some k_ ≠ (.slice Ao26 t325.length co26 : Value).ownBlock)) (tRm HO315.out) hg hat); replace HO321 := Aside0.mk (Kd.R_after (ok := (fun k_ => some k_ ≠ (.slice Ao18 t313.length co18 : Value).ownBlock ∧ some k_ ≠ (.slice Ao26 t325.length co26 : Value).ownBlock)) (tRm HO321.out) hg hat); replace HO327 := Aside0.mk (Kd.R_after (ok := (fun k_ => some k_ ≠ (.slice Ao18 t313.length co18 : Value).ownBlock ∧ some k_ ≠ (.slice Ao22 t319.length co22 : Value).ownBlock)) (tRm HO327.out) hg hat); replace HB := Aside0.mk (hb); have HO330 := Aside0.mk (ho); clear HO324; clear ho hb hg hat; obtain ⟨Ao27, co27, eo27⟩ := Kd.R_slice HO330.out; subst eo27) | ((with_reducible refine gate_callee (f := 58) rfl ?_); refine goesL_ (some 35) rfl rfl Try.func58 (by kernel_rfl) rfl #[.int .i64 (y328.length : Int)] rfl tq ?_; (with_reducible refine (impl_varOf.calls k (y328.length : Int) t331 _ A11.out).mono ?_); rintro e w28 ⟨v332, rfl, ho0, hb⟩; have u_v332 := tsv Try.prog v332 ho0; refine ⟨_, rfl, ?_⟩; have HO333 := Aside0.mk (Kd.R_lower (Kd.R_new' (Kd.R_new' (Kd.R_new' (Kd.R_new' ho0 (Kd.R_lt (tR HO315.out))) (Kd.R_lt (tR HO321.out))) (Kd.R_lt (tR HO327.out))) (Kd.R_lt (tR HO330.out))) (below_size zb)); replace HO315 := Aside0.mk (Kd.R_elder' (tR HO315.out) (Kd.R_base ho0) hb); replace HO321 := Aside0.mk (Kd.R_elder' (tR HO321.out) (Kd.R_base ho0) hb); replace HO327 := Aside0.mk (Kd.R_elder' (tR HO327.out) (Kd.R_base ho0) hb); replace HO330 := Aside0.mk (Kd.R_elder' (tR HO330.out) (Kd.R_base ho0) hb); replace BK309 := tBb BK309 hb; replace HB := tBs HB hb; (try clear hb); (try clear hb2); (try clear hk); (try clear hi); (try clear ho0)) | ((with_reducible refine gate_builtin (b := .append) (xs := #[.tmp 35, .tmp 36]) rfl ?_); at_builtin; refine Kd.R_append_rows (Kd.int .i64) (w0 := w) w.heap.size rfl (.tmp 35) (.tmp 36) 26 3 (.int .i64 0) 8 rfl Try.underlying26 info3 rfl (by decide) (by omega) v332 t331 y328 _ _ _ (fun k_ => some k_ ≠ (.slice Ao18 t313.length co18 : Value).ownBlock ∧ some k_ ≠ (.slice Ao22 t319.length co22 : Value).ownBlock ∧ some k_ ≠ (.slice Ao26 t325.length co26 : Value).ownBlock ∧ some k_ ≠ (.slice Ao27 y328.length co27 : Value).ownBlock) (fun _ => False) rfl rfl ?aO ?aR (fun _ _ h => h) (fun _ h => h.elim) ?aF ?aB ?aS ?aL ?_; (case aR => repeat (first | exact (Kd.R_reads' HO330.out).2.2 | (with_reducible refine Kd.C_alloc ?_ _) | (with_reducible refine Kd.C_drewN ?_ _) | (with_reducible refine Kd.C_drew ?_))); (case aB => exact zb); (case aF => exact (fun k_ hk => ⟨Kd.fresh' (Kd.R_lt (tR HO315.out)) k_ hk, Kd.fresh' (Kd.R_lt (tR HO321.out)) k_ hk, Kd.fresh' (Kd.R_lt (tR HO327.out)) k_ hk, Kd.fresh' (Kd.R_lt (tR HO330.out)) k_ hk⟩)); (case aO => exact (tRm HO333.out)); (case aS => exact (below_size zb)); (case aL => have := LMc12.out; omega); intro v335 w29 ho hb hg hat; rw [← Ny334.out] at ho; replace BK309 := Aside0.mk (blk_grown (tH BK309.out) hg (Kd.R_ne HO333.out BK309.out (by decide))); replace HO315 := Aside0.mk (Kd.R_after (ok := (fun k_ => some k_ ≠ (.slice Ao22 t319.length co22 : Value).ownBlock ∧ some k_ ≠ (.slice Ao26 t325.length co26 : Value).ownBlock ∧ some k_ ≠ (.slice Ao27 y328.length co27 : Value).ownBlock)) (tRm HO315.out) hg hat); replace HO321 := Aside0.mk (Kd.R_after (ok := (fun k_ => some k_ ≠ (.slice Ao18 t313.length co18 : Value).ownBlock ∧ some k_ ≠ (.slice Ao26 t325.length co26 : Value).ownBlock ∧ some k_ ≠ (.slice Ao27 y328.length co27 : Value).ownBlock)) (tRm HO321.out) hg hat); replace HO327 := Aside0.mk (Kd.R_after (ok := (fun k_ => some k_ ≠ (.slice Ao18 t313.length co18 : Value).ownBlock ∧ some k_ ≠ (.slice Ao22 t319.length co22 : Value).ownBlock ∧ some k_ ≠ (.slice Ao27 y328.length co27 : Value).ownBlock)) (tRm HO327.out) hg hat); replace HO330 := Aside0.mk (Kd.R_after (ok := (fun k_ => some k_ ≠ (.slice Ao18 t313.length co18 : Value).ownBlock ∧ some k_ ≠ (.slice Ao22 t319.length co22 : Value).ownBlock ∧ some k_ ≠ (.slice Ao26 t325.length co26 : Value).ownBlock)) (tR HO330.out) hg hat); replace HB := Aside0.mk (hb); have HO336 := Aside0.mk (ho); clear HO333; clear ho hb hg hat))
     go_ret
     exact ⟨_, by first | rfl | (simp [errW_none, errW_some] <;> rfl) | (simp [*, errW_none, errW_some] <;> rfl), tRm HO336.out, zb⟩
    ·rw [if_neg c12] at H
     exact absurd H (by simp)
   ·rw [if_neg c10] at H
    exact absurd H (by simp)
  ·rw [if_neg c8] at H
   exact absurd H (by simp)
 ·rw [if_neg c6] at H
  exact absurd H (by simp)

end Go.Proofs.Ythoioccmnphfgaa.G

