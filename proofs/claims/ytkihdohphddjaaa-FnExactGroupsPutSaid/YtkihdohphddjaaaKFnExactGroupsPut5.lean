/- A text of seat Ytkihdohphddjaaa: what the law FnExactGroupsPut needs of this repo's texts (by pack.py). Not trusted: Lean checks it. -/
import Derived.Test.YtkihdohphddjaaaKFnExactGroupsPut4
import Derived.Test.YtkihdohphddjaaaProg
import Derived.Below
import Derived.Deep.Draws
import Derived.Deep.AppendLies
import Derived.Maps.AppendAt
import Derived.OwnWalk
import Derived.Laws.BytesArg
import Derived.Laws.MakeOwn
import Derived.Laws.OwnMore
import Derived.Deep.OwnRows
import Derived.Tactics
import Derived.Lib.ConvBytes
import Derived.Laws.Slices
import Derived.WalkKit
import Derived.KernelRfl
import Derived.RowKit3
import Derived.Deep.LoopGhost
import Derived.Deep.QuietTactic
import Derived.BigQuiet
import Derived.WideLaws
import Derived.Deep.DeepCutAuto
import Derived.Deep.CutBlock
import Derived.Deep.RegionHeld3
import Derived.Laws.Rows
import Derived.Lib.AppendStr
import Derived.ArgAppend
import Derived.Laws.IdiomCopy
import Derived.OrdersHeld
import Derived.Laws.BitsLemmas
import Derived.RowKit
import Derived.WalkLawsBesides
import Derived.Shelf.Spec.SlicesInsert
import Derived.Shelf.Spec.SlicesInsertGrow
import Derived.Conc.MuLone
import Derived.Shelf.Small.Strs
import Derived.Deep.RegionWith
namespace Go.Proofs.Ytkihdohphddjaaa.G
open Go.RowKit Go.Proofs.YtkihdohphddjaaaW.PrintWords Go.Proofs.YtkihdohphddjaaaW.PrintLast Go.Proofs.YtkihdohphddjaaaW.PrintMore
attribute [local go_sem] max2_int min2_int max_two min_two max_three min_three max_four min_four   -- for this text's walks alone
set_option linter.unusedVariables false
set_option linter.unusedSimpArgs false



def errW : Option Int → Value
 | none => .nilIface
 | some c => .iface 0 (.int .i64 c)
theorem errW_none : errW none = .nilIface := rfl
theorem errW_some (c : Int) : errW (some c) = .iface 0 (.int .i64 c) := rfl

theorem info25 : (Try.prog.info? 25).map (fun i => (i.zero, i.size, i.bytes)) = some (some (.agg #[(.string ⟨#[]⟩), (.int .i64 0)]), 2, 24) := by kernel_rfl
-- the values' own types
structure S25 where
 f0 : ByteArray
 f1 : Int
def z25 : S25 := ⟨(⟨#[]⟩ : ByteArray), (0 : Int)⟩
def k25 : Kd S25 := Kd.iso (Kd.pair Kd.string (Kd.int .i64)) (fun x : S25 => (x.f0, x.f1))
theorem k25_open {w : World} {x : S25} {cs : List Value} (h : k25.K w x cs) : cs = [.string x.f0, .int .i64 x.f1] := by
 obtain ⟨_, _, rfl, rfl, rfl⟩ := h
 exact rfl
theorem k25_openM {w : World} {base : Nat} {ok : Nat → Prop} {x : S25} {cs : List Value} (h : k25.M w base ok x cs) : cs = [.string x.f0, .int .i64 x.f1] := by
 obtain ⟨_, _, rfl, rfl, rfl⟩ := h
 exact rfl
theorem k25_mk (w : World) (x : S25)  : k25.K w x [.string x.f0, .int .i64 x.f1] := ⟨[.string x.f0], [.int .i64 x.f1], rfl, rfl, rfl⟩
theorem k25_mkM (w : World) (base : Nat) (ok : Nat → Prop) (x : S25)  : k25.M w base ok x [.string x.f0, .int .i64 x.f1] := ⟨[.string x.f0], [.int .i64 x.f1], rfl, rfl, rfl⟩
def rd_T25 (xs : List S25) (i : Int) : S25 := xs.getD i.toNat z25
theorem at_T25 {w : World} {A : Option Addr} {n : Nat} {xs : List S25} (h : Kd.C k25 w A n xs) (i : Int) (h0 : 0 ≤ i) (h1 : i < n) : ∃ ad , A = some ad ∧ w.cell? (ad.add (i.toNat * 2)) = some (.string (rd_T25 xs i).f0) ∧ w.cell? ⟨(ad.add (i.toNat * 2)).block, (ad.add (i.toNat * 2)).off + 1, none⟩ = some (.int .i64 (rd_T25 xs i).f1) := by
 obtain ⟨ad, c, e, _, hK, hc0⟩ := Kd.C_get h z25 i h0 h1
 have hc : ∀ j u, c[j]? = some u → w.cell? (ad.add (i.toNat * 2 + j)) = some u := hc0
 obtain rfl := k25_open hK
 exact ⟨ad, e, hc 0 _ rfl, by rw [← add_field _ _ 1 (by omega)]; exact hc 1 _ rfl⟩

structure S34 where
 f0 : ByteArray
 f1 : Int
def z34 : S34 := ⟨(⟨#[]⟩ : ByteArray), (0 : Int)⟩
def k34 : Kd S34 := Kd.iso (Kd.pair Kd.string (Kd.int .i64)) (fun x : S34 => (x.f0, x.f1))
theorem k34_open {w : World} {x : S34} {cs : List Value} (h : k34.K w x cs) : cs = [.string x.f0, .int .i64 x.f1] := by
 obtain ⟨_, _, rfl, rfl, rfl⟩ := h
 exact rfl
def rd_T34 (xs : List S34) (i : Int) : S34 := xs.getD i.toNat z34
theorem at_T34 {w : World} {A : Option Addr} {n : Nat} {xs : List S34} (h : Kd.C k34 w A n xs) (i : Int) (h0 : 0 ≤ i) (h1 : i < n) : ∃ ad , A = some ad ∧ w.cell? (ad.add (i.toNat * 2)) = some (.string (rd_T34 xs i).f0) ∧ w.cell? ⟨(ad.add (i.toNat * 2)).block, (ad.add (i.toNat * 2)).off + 1, none⟩ = some (.int .i64 (rd_T34 xs i).f1) := by
 obtain ⟨ad, c, e, _, hK, hc0⟩ := Kd.C_get h z34 i h0 h1
 have hc : ∀ j u, c[j]? = some u → w.cell? (ad.add (i.toNat * 2 + j)) = some u := hc0
 obtain rfl := k34_open hK
 exact ⟨ad, e, hc 0 _ rfl, by rw [← add_field _ _ 1 (by omega)]; exact hc 1 _ rfl⟩

end Go.Proofs.Ytkihdohphddjaaa.G

namespace Go.Proofs.Ytkihdohphddjaaa.G
open Go.RowKit Go.Proofs.YtkihdohphddjaaaW.PrintWords Go.Proofs.YtkihdohphddjaaaW.PrintLast Go.Proofs.YtkihdohphddjaaaW.PrintMore
attribute [local go_sem] max2_int min2_int max_two min_two max_three min_three max_four min_four   -- for this text's walks alone
set_option linter.unusedVariables false
set_option linter.unusedSimpArgs false

mutual
def impl_letters.j0 : Nat → ByteArray → Bool → Option (Bool)
 | 0, _, _ => none
 | k + 1, x0, x14 => if x14 = true then (some false) else (impl_letters.l0 k x0 (x0.size : Int) 0)
def impl_letters.l0 : Nat → ByteArray → Int → Int → Option (Bool)
 | 0, _, _, _ => none
 | k + 1, x0, x16, x17 => if x17 < x16 then (if 0 ≤ x17 then (if x17 < (x0.size : Int) then (if (bt x0 x17) < 97 then (some false) else (if (bt x0 x17) > 122 then (some false) else (impl_letters.l0 k x0 x16 (wrap64 (x17 + 1))))) else (none)) else (none)) else (some true)
end
def impl_letters.f (k : Nat) (a0 : ByteArray) (a1 : Int) : Option (Bool) := if (a0.size : Int) < 1 then (impl_letters.j0 k a0 true) else (impl_letters.j0 k a0 (decide ((a0.size : Int) > a1)))
set_option maxHeartbeats 8000000 in
set_option maxRecDepth 100000 in
theorem impl_letters.calls (k : Nat) (a0 : ByteArray) (a1 : Int) (r : Bool) (w : World) (h : impl_letters.f k a0 a1 = some r) :
  Calls Try.prog 42 #[.string a0, .int .i64 a1] w fun e w' => e = .returned (.bool r) ∧ Drawn0 w w' := by
 have H : (if (a0.size : Int) < 1 then (impl_letters.j0 k a0 true) else (impl_letters.j0 k a0 (decide ((a0.size : Int) > a1)))) = some r := h
 clear h
 have HC3 := Aside0.mk H
 clear H
 go_enter Try.func42, Try.ntmps42
 go_upto_region 1 with (fail)
 go_cut [14] (fun v14 wc => ∃ (kq : Nat) (x14_2 : Bool), v14 = .bool x14_2 ∧ Aside0 (impl_letters.j0 kq a0 x14_2 = some r) ∧ Aside0 (kq ≤ k) ∧ Drawn0 w wc)
 case first =>
  have H := HC3.out
  clear HC3
  by_cases c4 : (a0.size : Int) < 1
  ·rw [if_pos c4] at H
   have c4b0 : decide ((a0.size : Int) < 1) = true := decide_eq_true c4
   have c4b1 : decide (a0.size < 1) = true := decide_eq_true (by omega)
   clear c4
   (first | rw [c4b0] | (simp only [i64_w, i32_w]; rw [c4b0]) | skip)
   have H' := Aside0.mk H
   clear H
   go_wp2
   go_meet
   case rel => exact ⟨_, (true), tr, H', ⟨by first | omega | exact Nat.le_refl _⟩, by repeat (first | exact Drawn0.refl _ | apply Drawn0.step)⟩
  ·rw [if_neg c4] at H
   have c4b0 : decide ((a0.size : Int) < 1) = false := decide_eq_false c4
   have c4b1 : decide (a0.size < 1) = false := decide_eq_false (by omega)
   clear c4
   (first | rw [c4b0] | (simp only [i64_w, i32_w]; rw [c4b0]) | skip)
   have H' := Aside0.mk H
   clear H
   go_wp2
   go_meet
   case rel => exact ⟨_, (decide ((a0.size : Int) > a1)), tr, H', ⟨by first | omega | exact Nat.le_refl _⟩, by repeat (first | exact Drawn0.refl _ | apply Drawn0.step)⟩
 case rest =>
  clear HC3
  obtain ⟨kq, x14_2, rfl, HA, HJ2, ⟨mc2, rfl⟩⟩ := hcut
  cases kq with
  | zero => exact absurd HA.out (by simp [impl_letters.j0])
  | succ kj2 =>
   have H := HA.out
   clear HA
   simp only [impl_letters.j0] at H
   by_cases c5 : x14_2 = true
   ·subst c5
    rw [if_pos rfl] at H
    obtain rfl := Option.some.inj H
    go_wp2
    go_ret
    exact ⟨by first | rfl | (simp; done) | (simp [*]; done), by repeat (first | exact Drawn0.refl _ | apply Drawn0.step)⟩
   ·replace c5 := Bool.eq_false_iff.mpr c5
    subst c5
    rw [if_neg (show ¬ (false = true) by decide)] at H
    have H' := Aside0.mk H
    clear H
    go_wp2
    go_loopg [17] kj2 (fun kq v17 w' => ∃ (x17_2 : Int), v17 = .int .i64 x17_2 ∧ Aside0 (impl_letters.l0 kq a0 (a0.size : Int) x17_2 = some r) ∧ Aside0 (kq ≤ kj2) ∧ Drawn0 w w')
    case atStart => exact ⟨(0), tr, H', ⟨Nat.le_refl _⟩, by repeat (first | exact Drawn0.refl _ | apply Drawn0.step)⟩
    case round =>
     clear H'
     try clear c5
     obtain ⟨x17_2, rfl, HA, HK2, ⟨m2, rfl⟩⟩ := hrel
     cases gk with
     | zero => exact absurd HA.out (by simp [impl_letters.l0])
     | succ k2 =>
      have H := HA.out
      clear HA
      simp only [impl_letters.l0] at H
      by_cases c6 : x17_2 < (a0.size : Int)
      ·rw [if_pos c6] at H
       have c6b0 : decide (x17_2 < (a0.size : Int)) = true := decide_eq_true c6
       clear c6
       by_cases c7 : 0 ≤ x17_2
       ·rw [if_pos c7] at H
        have c7b0 : decide (0 ≤ x17_2) = true := decide_eq_true c7
        clear c7
        by_cases c8 : x17_2 < (a0.size : Int)
        ·rw [if_pos c8] at H
         have c8b0 : decide (x17_2 < (a0.size : Int)) = true := decide_eq_true c8
         clear c8
         by_cases c10 : (bt a0 x17_2) < 97
         ·rw [if_pos c10] at H
          have c10b0 : decide ((bt a0 x17_2) < 97) = true := decide_eq_true c10
          clear c10
          obtain rfl := Option.some.inj H
          have p9 : 0 ≤ (x17_2 : Int) := td
          have q9 : x17_2 < (a0.size : Int) := td
          have hx9 := bt_at a0 x17_2
          replace p9 := eq_true p9
          replace q9 := eq_true q9
          go_wp2
          go_ret
          exact ⟨by first | rfl | (simp; done) | (simp [*]; done), by repeat (first | exact Drawn0.refl _ | apply Drawn0.step)⟩
         ·rw [if_neg c10] at H
          have c10b0 : decide ((bt a0 x17_2) < 97) = false := decide_eq_false c10
          clear c10
          by_cases c12 : (bt a0 x17_2) > 122
          ·rw [if_pos c12] at H
           have c12b0 : decide (122 < (bt a0 x17_2)) = true := decide_eq_true c12
           clear c12
           obtain rfl := Option.some.inj H
           have p9 : 0 ≤ (x17_2 : Int) := td
           have q9 : x17_2 < (a0.size : Int) := td
           have hx9 := bt_at a0 x17_2
           replace p9 := eq_true p9
           replace q9 := eq_true q9
           have p11 : 0 ≤ (x17_2 : Int) := td
           have q11 : x17_2 < (a0.size : Int) := td
           have hx11 := bt_at a0 x17_2
           replace p11 := eq_true p11
           replace q11 := eq_true q11
           go_wp2
           go_ret
           exact ⟨by first | rfl | (simp; done) | (simp [*]; done), by repeat (first | exact Drawn0.refl _ | apply Drawn0.step)⟩
          ·rw [if_neg c12] at H
           have c12b0 : decide (122 < (bt a0 x17_2)) = false := decide_eq_false c12
           clear c12
           have H' := Aside0.mk H
           clear H
           have p9 : 0 ≤ (x17_2 : Int) := td
           have q9 : x17_2 < (a0.size : Int) := td
           have hx9 := bt_at a0 x17_2
           replace p9 := eq_true p9
           replace q9 := eq_true q9
           have p11 : 0 ≤ (x17_2 : Int) := td
           have q11 : x17_2 < (a0.size : Int) := td
           have hx11 := bt_at a0 x17_2
           replace p11 := eq_true p11
           replace q11 := eq_true q11
           go_wp2
           go_roundg k2
           case measure => have := HJ2.out; have := HK2.out; omega
           case rel => exact ⟨(wrap64 (x17_2 + 1)), tr, H', ⟨by have := HJ2.out; have := HK2.out; omega⟩, by repeat (first | exact Drawn0.refl _ | apply Drawn0.step)⟩
        ·rw [if_neg c8] at H
         exact absurd H (by simp)
       ·rw [if_neg c7] at H
        exact absurd H (by simp)
      ·rw [if_neg c6] at H
       have c6b0 : decide (x17_2 < (a0.size : Int)) = false := decide_eq_false c6
       clear c6
       obtain rfl := Option.some.inj H
       go_wp2
       go_ret
       exact ⟨by first | rfl | (simp; done) | (simp [*]; done), by repeat (first | exact Drawn0.refl _ | apply Drawn0.step)⟩

end Go.Proofs.Ytkihdohphddjaaa.G

namespace Go.Proofs.Ytkihdohphddjaaa.G
open Go.RowKit Go.Proofs.YtkihdohphddjaaaW.PrintWords Go.Proofs.YtkihdohphddjaaaW.PrintLast Go.Proofs.YtkihdohphddjaaaW.PrintMore
attribute [local go_sem] max2_int min2_int max_two min_two max_three min_three max_four min_four   -- for this text's walks alone
set_option linter.unusedVariables false
set_option linter.unusedSimpArgs false

def impl_within.f (a0 : Int) (a1 : Int) (a2 : Int) : Option (Bool) := if a0 ≥ a1 then (some (decide (a0 ≤ a2))) else (some false)
set_option maxHeartbeats 8000000 in
set_option maxRecDepth 100000 in
theorem impl_within.calls (a0 : Int) (a1 : Int) (a2 : Int) (r : Bool) (w : World) (h : impl_within.f a0 a1 a2 = some r) :
  Calls Try.prog 43 #[.int .i64 a0, .int .i64 a1, .int .i64 a2] w fun e w' => e = .returned (.bool r) ∧ Drawn0 w w' := by
 have H : (if a0 ≥ a1 then (some (decide (a0 ≤ a2))) else (some false)) = some r := h
 clear h
 by_cases c4 : a0 ≥ a1
 ·rw [if_pos c4] at H
  have c4b0 : decide (a1 ≤ a0) = true := decide_eq_true c4
  clear c4
  obtain rfl := Option.some.inj H
  go_enter Try.func43, Try.ntmps43
  go_wp2
  go_ret
  exact ⟨by first | rfl | (simp; done) | (simp [*]; done), by repeat (first | exact Drawn0.refl _ | apply Drawn0.step)⟩
 ·rw [if_neg c4] at H
  have c4b0 : decide (a1 ≤ a0) = false := decide_eq_false c4
  clear c4
  obtain rfl := Option.some.inj H
  go_enter Try.func43, Try.ntmps43
  go_wp2
  go_ret
  exact ⟨by first | rfl | (simp; done) | (simp [*]; done), by repeat (first | exact Drawn0.refl _ | apply Drawn0.step)⟩

end Go.Proofs.Ytkihdohphddjaaa.G

namespace Go.Proofs.Ytkihdohphddjaaa.G
open Go.RowKit Go.Proofs.YtkihdohphddjaaaW.PrintWords Go.Proofs.YtkihdohphddjaaaW.PrintLast Go.Proofs.YtkihdohphddjaaaW.PrintMore
attribute [local go_sem] max2_int min2_int max_two min_two max_three min_three max_four min_four   -- for this text's walks alone
set_option linter.unusedVariables false
set_option linter.unusedSimpArgs false

def impl_groupValid.f (k : Nat) (a0_0 : ByteArray) (a0_1 : Int) : Option (Bool) := (impl_letters.f k a0_0 6).bind fun t193 => (if t193 = true then ((impl_within.f a0_1 0 100000).bind fun t194 => (some t194)) else (some false))
set_option maxHeartbeats 8000000 in
set_option maxRecDepth 100000 in
theorem impl_groupValid.calls (k : Nat) (a0_0 : ByteArray) (a0_1 : Int) (r : Bool) (w : World) (h : impl_groupValid.f k a0_0 a0_1 = some r) :
  Calls Try.prog 28 #[.agg #[.string a0_0, .int .i64 a0_1]] w fun e w' => e = .returned (.bool r) ∧ Below w.heap.size w w' := by
 have hu25 := Try.underlying25
 have HB := Aside0.mk (Below.refl w.heap.size w)
 have H : ((impl_letters.f k a0_0 6).bind fun t193 => (if t193 = true then ((impl_within.f a0_1 0 100000).bind fun t194 => (some t194)) else (some false))) = some r := h
 clear h
 replace H := tbe H
 obtain ⟨t193, A2, H⟩ := H
 by_cases c3 : t193 = true
 ·subst c3
  rw [if_pos rfl] at H
  replace H := tbe H
  obtain ⟨t194, A4, H⟩ := H
  obtain rfl := Option.some.inj H
  go_enter Try.func28, Try.ntmps28
  go_wp2_with (first | ((with_reducible refine gate_dst (N := 1) rfl ?_); refine box_event ?hg (N := 1) ?hd (cs := #[.string a0_0, .int .i64 a0_1]) (t := 25) ?hr ?_; (case hd => rfl); (case hg => rfl); (case hr => first | (go_simp; done) | (go_simp; rfl)); intro gb192 hg w5 hbox hb; have BK192 := Aside0.mk (hbox); have GW192 := tge HB hg; have GE192 := tge HB hg; replace HB := tBs HB hb; clear hb hbox hg; obtain ⟨hcz6_0, hcz6_1, hfz6_0, hfz6_1⟩ := cells2 BK192.out) | ((with_reducible refine gate_callee (f := 42) rfl ?_); refine goesL_ (some 5) rfl rfl Try.func42 (by kernel_rfl) rfl #[.string a0_0, .int .i64 6] rfl tq ?_; (with_reducible refine (impl_letters.calls k a0_0 6 true _ A2.out).mono ?_); rintro e w' ⟨rfl, ⟨nd, rfl⟩⟩; refine ⟨_, rfl, ?_⟩) | (go_at_call 43; (with_reducible refine (impl_within.calls a0_1 0 100000 t194 _ A4.out).mono ?_); rintro e w' ⟨rfl, ⟨nd, rfl⟩⟩))
  go_ret
  exact ⟨by first | rfl | (simp [errW_none, errW_some] <;> rfl) | (simp [*, errW_none, errW_some] <;> rfl), zb⟩
 ·replace c3 := Bool.eq_false_iff.mpr c3
  subst c3
  rw [if_neg (show ¬ (false = true) by decide)] at H
  obtain rfl := Option.some.inj H
  go_enter Try.func28, Try.ntmps28
  go_wp2_with (first | ((with_reducible refine gate_dst (N := 1) rfl ?_); refine box_event ?hg (N := 1) ?hd (cs := #[.string a0_0, .int .i64 a0_1]) (t := 25) ?hr ?_; (case hd => rfl); (case hg => rfl); (case hr => first | (go_simp; done) | (go_simp; rfl)); intro gb192 hg w7 hbox hb; have BK192 := Aside0.mk (hbox); have GW192 := tge HB hg; have GE192 := tge HB hg; replace HB := tBs HB hb; clear hb hbox hg; obtain ⟨hcz8_0, hcz8_1, hfz8_0, hfz8_1⟩ := cells2 BK192.out) | ((with_reducible refine gate_callee (f := 42) rfl ?_); refine goesL_ (some 5) rfl rfl Try.func42 (by kernel_rfl) rfl #[.string a0_0, .int .i64 6] rfl tq ?_; (with_reducible refine (impl_letters.calls k a0_0 6 false _ A2.out).mono ?_); rintro e w' ⟨rfl, ⟨nd, rfl⟩⟩; refine ⟨_, rfl, ?_⟩))
  go_ret
  exact ⟨by first | rfl | (simp [errW_none, errW_some] <;> rfl) | (simp [*, errW_none, errW_some] <;> rfl), zb⟩

end Go.Proofs.Ytkihdohphddjaaa.G

namespace Go.Proofs.Ytkihdohphddjaaa.G
open Go.RowKit Go.Proofs.YtkihdohphddjaaaW.PrintWords Go.Proofs.YtkihdohphddjaaaW.PrintLast Go.Proofs.YtkihdohphddjaaaW.PrintMore
attribute [local go_sem] max2_int min2_int max_two min_two max_three min_three max_four min_four   -- for this text's walks alone
set_option linter.unusedVariables false
set_option linter.unusedSimpArgs false

def impl_GroupsValid.l0 : Nat → List (S25) → List (S25) → Int → Int → Option (Bool)
 | 0, _, _, _, _ => none
 | k + 1, x0, x8, x9, x10 => if x10 < x9 then (if 0 ≤ x10 then (if x10 < (x8.length : Int) then ((impl_groupValid.f k ((rd_T25 x8 x10).f0) ((rd_T25 x8 x10).f1)).bind fun t197 => (if t197 = true then (if x10 > 0 then (if 0 ≤ (wrap64 (x10 - 1)) then (if (wrap64 (x10 - 1)) < (x0.length : Int) then (if ((Op.bytesLess (((rd_T25 x0 (wrap64 (x10 - 1))).f0).toList) (((rd_T25 x8 x10).f0).toList)) = true) then (impl_GroupsValid.l0 k x0 x8 x9 (wrap64 (x10 + 1))) else (some false)) else (none)) else (none)) else (impl_GroupsValid.l0 k x0 x8 x9 (wrap64 (x10 + 1)))) else (some false))) else (none)) else (none)) else (some true)
def impl_GroupsValid.f (k : Nat) (l0 : List (S25)) : Option (Bool) := if (l0.length : Int) > 8 then (some false) else (impl_GroupsValid.l0 k l0 l0 (l0.length : Int) 0)
def impl_GroupsValid.T6 : Bool × List (List Nat × List Nat) := (true, [([], []), ([0], [0]), ([1], [1]), ([2, 1], [2]), ([3], [3]), ([4, 3], [3, 4]), ([5, 3, 3], [3, 5]), ([6], [6]), ([6], [6]), ([8, 6], [6, 8]), ([7, 9, 6], [6, 7, 9]), ([10, 6], [6, 10]), ([11, 6], [6, 11]), ([6], [6]), ([13, 6], [6, 13]), ([12, 14, 6], [6, 12, 14]), ([6, 15, 3], [3, 6, 15]), ([3, 16], [3, 16])])
def impl_GroupsValid.B6 : List Nat := [0, 1, 3, 7, 15, 31, 63, 127, 127, 383, 1023, 2047, 4095, 127, 8319, 32767, 65535, 131071]
theorem impl_GroupsValid.tab6 : rtab .any (opsOf Try.f11 6) = impl_GroupsValid.T6 := by kernel_rfl
theorem impl_GroupsValid.bits6 : waitsOk impl_GroupsValid.T6.2 impl_GroupsValid.B6 = true := by kernel_rfl
set_option maxHeartbeats 8000000 in
set_option maxRecDepth 100000 in
theorem impl_GroupsValid.calls (k : Nat) (A0 : Option Addr) (c0 : Nat) (l0 : List (S25)) (r : Bool) (w : World) (hr0 : Kd.C k25 w A0 l0.length l0) (hc0 : l0.length ≤ c0) (h : impl_GroupsValid.f k l0 = some r) :
  Calls Try.prog 11 #[.slice A0 l0.length c0] w fun e w' => e = .returned (.bool r) ∧ Below w.heap.size w w' := by
 have hu25 := Try.underlying25
 have HR0 := Aside0.mk hr0
 have HC0 := Aside0.mk hc0
 clear hr0 hc0
 have HB := Aside0.mk (Below.refl w.heap.size w)
 have H : (if (l0.length : Int) > 8 then (some false) else (impl_GroupsValid.l0 k l0 l0 (l0.length : Int) 0)) = some r := h
 clear h
 by_cases c2 : (l0.length : Int) > 8
 ·rw [if_pos c2] at H
  have c2b0 : decide (8 < (l0.length : Int)) = true := decide_eq_true c2
  have c2b1 : decide (8 < l0.length) = true := decide_eq_true (by omega)
  clear c2
  obtain rfl := Option.some.inj H
  go_enter Try.func11, Try.ntmps11
  go_wp2
  go_ret
  exact ⟨by first | rfl | (simp [errW_none, errW_some] <;> rfl) | (simp [*, errW_none, errW_some] <;> rfl), zb⟩
 ·rw [if_neg c2] at H
  have c2b0 : decide (8 < (l0.length : Int)) = false := decide_eq_false c2
  have c2b1 : decide (8 < l0.length) = false := decide_eq_false (by omega)
  clear c2
  have H' := Aside0.mk H
  clear H
  go_enter Try.func11, Try.ntmps11
  go_wp2
  go_loopg [10] k (fun kq v10 w' => ∃ (x10_1 : Int), v10 = .int .i64 x10_1 ∧ Aside0 (impl_GroupsValid.l0 kq l0 l0 (l0.length : Int) x10_1 = some r) ∧ Aside0 (kq ≤ k) ∧ Aside0 (Below w.heap.size w w'))
  case atStart => exact ⟨(0), tr, H', ⟨Nat.le_refl _⟩, ⟨zb⟩⟩
  case round =>
   clear H'
   try clear c2; try clear c2b0; try clear c2b1
   obtain ⟨x10_1, rfl, HA, HK1, HB⟩ := hrel
   cases gk with
   | zero => exact absurd HA.out (by simp [impl_GroupsValid.l0])
   | succ k1 =>
    have H := HA.out
    clear HA
    simp only [impl_GroupsValid.l0] at H
    by_cases c3 : x10_1 < (l0.length : Int)
    ·rw [if_pos c3] at H
     have c3b0 : decide (x10_1 < (l0.length : Int)) = true := decide_eq_true c3
     clear c3
     by_cases c4 : 0 ≤ x10_1
     ·rw [if_pos c4] at H
      have c4b0 : decide (0 ≤ x10_1) = true := decide_eq_true c4
      clear c4
      by_cases c5 : x10_1 < (l0.length : Int)
      ·rw [if_pos c5] at H
       have c5b0 : decide (x10_1 < (l0.length : Int)) = true := decide_eq_true c5
       clear c5
       replace H := tbe H
       obtain ⟨t197, A6, H⟩ := H
       by_cases c7 : t197 = true
       ·subst c7
        rw [if_pos rfl] at H
        by_cases c8 : x10_1 > 0
        ·rw [if_pos c8] at H
         have c8b0 : decide (0 < x10_1) = true := decide_eq_true c8
         clear c8
         obtain ⟨ji9, hji9⟩ : ∃ j_ : Int, (wrap64 (x10_1 - 1)) = j_ := ⟨_, rfl⟩
         replace H : (if 0 ≤ (ji9) then (if (ji9) < (l0.length : Int) then (if ((Op.bytesLess (((rd_T25 l0 (ji9)).f0).toList) (((rd_T25 l0 x10_1).f0).toList)) = true) then (impl_GroupsValid.l0 k1 l0 l0 (l0.length : Int) (wrap64 (x10_1 + 1))) else (some false)) else (none)) else (none)) = some r := by first | (rw [hji9] at H; exact H) | (simp only [hji9] at H ⊢; exact H)
         (try rw [hji9] at A6)
         have hji9w : (IntKind.i64.wrap (x10_1 - 1)) = ji9 := (i64_w _).trans hji9
         by_cases c10 : 0 ≤ (ji9)
         ·rw [if_pos c10] at H
          have c10b0 : decide (0 ≤ (ji9)) = true := decide_eq_true c10
          clear c10
          by_cases c11 : (ji9) < (l0.length : Int)
          ·rw [if_pos c11] at H
           have c11b0 : decide ((ji9) < (l0.length : Int)) = true := decide_eq_true c11
           clear c11
           by_cases c12 : ((Op.bytesLess (((rd_T25 l0 (ji9)).f0).toList) (((rd_T25 l0 x10_1).f0).toList)) = true)
           ·rw [if_pos c12] at H
            have c12b0 : (Op.bytesLess (((rd_T25 l0 (ji9)).f0).toList) (((rd_T25 l0 x10_1).f0).toList)) = true := c12
            clear c12
            have H' := Aside0.mk H
            clear H
            have p195 : 0 ≤ (x10_1 : Int) := td
            have q195 : x10_1 < (l0.length : Int) := td
            obtain ⟨ad195, e195, hx195_0, hx195_1⟩ := at_T25 HR0.out x10_1 p195 q195
            cases e195
            replace hx195_0 := tcl HB hx195_0
            replace hx195_1 := tcl HB hx195_1
            replace p195 := eq_true p195
            replace q195 := eq_true q195
            try go_wp2_with (first | ((with_reducible refine gate_dst (N := 4) rfl ?_); refine box_event ?hg (N := 4) ?hd (cs := #[.string (⟨#[]⟩ : ByteArray), .int .i64 0]) (t := 25) ?hr ?_; (case hd => rfl); (case hg => rfl); (case hr => first | (go_simp; done) | (go_simp; rfl)); intro gb196 hg w13 hbox hb; have BK196 := Aside0.mk (hbox); have GW196 := tge HB hg; have GE196 := tge HB hg; replace HB := tBs HB hb; clear hb hbox hg; obtain ⟨hcz14_0, hcz14_1, hfz14_0, hfz14_1⟩ := cells2 BK196.out))
            have n0_ : Aside0 (((w13.setCell ⟨gb196, 0, none⟩ (.string ((rd_T25 l0 x10_1).f0))).setCell ⟨gb196, 1, none⟩ (.int .i64 ((rd_T25 l0 x10_1).f1))).heap[gb196]? = some (.cells #[.string ((rd_T25 l0 x10_1).f0), .int .i64 ((rd_T25 l0 x10_1).f1)] 25 (0, 0))) := ⟨by (with_reducible repeat (first | refine blk_drewN ?_ _ | refine blk_drew ?_ | refine blk_alloc ?_ _)); refine blk_put (cs := #[.string ((rd_T25 l0 x10_1).f0), .int .i64 0]) ?_ 1 _ rfl; (with_reducible repeat (first | refine blk_drewN ?_ _ | refine blk_drew ?_ | refine blk_alloc ?_ _)); refine blk_put (cs := #[.string (⟨#[]⟩ : ByteArray), .int .i64 0]) ?_ 0 _ rfl; exact tP BK196.out⟩
            have n1_ : Aside0 (Below w.heap.size w ((w13.setCell ⟨gb196, 0, none⟩ (.string ((rd_T25 l0 x10_1).f0))).setCell ⟨gb196, 1, none⟩ (.int .i64 ((rd_T25 l0 x10_1).f1)))) := ⟨zb⟩
            (try clear BK196)
            (try clear HB)
            generalize ((w13.setCell ⟨gb196, 0, none⟩ (.string ((rd_T25 l0 x10_1).f0))).setCell ⟨gb196, 1, none⟩ (.int .i64 ((rd_T25 l0 x10_1).f1))) = w15 at n0_ n1_ ⊢
            have BK196 := n0_
            have HB := n1_
            clear n0_ n1_
            replace BK196 := Aside0.mk (blk_drew BK196.out)
            replace HB := Aside0.mk (below_drew1 HB.out)
            have p198 : 0 ≤ ((ji9) : Int) := td
            have q198 : (ji9) < (l0.length : Int) := td
            obtain ⟨ad198, e198, hx198_0, hx198_1⟩ := at_T25 HR0.out (ji9) p198 q198
            have hw198_1 := hx198_1
            have hw198_0 := hx198_0
            obtain rfl : ad195 = ad198 := (by injection e198)
            replace hx198_0 := tcl HB hx198_0
            replace hx198_1 := tcl HB hx198_1
            replace p198 := eq_true p198
            replace q198 := eq_true q198
            refine start_ (n := 18) (S := fun w' => w'.cell? ⟨gb196, 0, none⟩ = some (.string ((rd_T25 l0 x10_1).f0)) ∧ w'.cell? ⟨gb196, 1, none⟩ = some (.int .i64 ((rd_T25 l0 x10_1).f1)) ∧ w'.cell? (ad195.add (((ji9)).toNat * 2)) = some (.string ((rd_T25 l0 (ji9)).f0)) ∧ w'.cell? ⟨(ad195.add (((ji9)).toNat * 2)).block, (ad195.add (((ji9)).toNat * 2)).off + 1, none⟩ = some (.int .i64 ((rd_T25 l0 (ji9)).f1))) (ds := []) #[false, false, false, false, false, false, false, false, false, false, false, false, false, false, false, false, false, false] (by kernel_rfl) rfl rfl ⟨(blk_cell BK196.out 0).trans rfl, (blk_cell BK196.out 1).trans rfl, (tcl HB hw198_0), (tcl HB hw198_1)⟩ (fun hHeld => ?_); refine with_tabW impl_GroupsValid.tab6 impl_GroupsValid.bits6 (fun HT_ HW_ => ?_)
            generalize w15.drew = w16 at BK196 HB hx198_0 hx198_1 hHeld ⊢
            refine tta 0 (some 15) #[true, false, false, false, false, false, false, false, false, false, false, false, false, false, false, false, false, false] hHeld ?_ (hy := by rintro w' ⟨s0, s1, s2, s3⟩; go_simp; with_reducible rfl)
            refine one_ (i := 1) (N := some 16) #[true, true, false, false, false, false, false, false, false, false, false, false, false, false, false, false, false, false] rfl rfl (one_of HT_.out (by kernel_rfl)) (by decide) (fun K hK => ?_)
            refine goes_ Try.func28 (by kernel_rfl) rfl #[.agg #[.string ((rd_T25 l0 x10_1).f0), .int .i64 ((rd_T25 l0 x10_1).f1)]] (by rfl) rfl rfl tq ?_
            with_reducible refine (impl_groupValid.calls k1 ((rd_T25 l0 x10_1).f0) ((rd_T25 l0 x10_1).f1) true _ A6.out).mono ?_
            rintro e w17 ⟨rfl, hb⟩
            refine ⟨_, rfl, ?_⟩
            replace BK196 := tBb BK196 hb
            replace HB := tBs HB hb
            (try clear hb)
            (try clear hb2)
            (try clear hk)
            (try clear hi)
            refine hK.out _ _ ⟨(blk_cell BK196.out 0).trans rfl, (blk_cell BK196.out 1).trans rfl, (tcl HB hw198_0), (tcl HB hw198_1)⟩ (fun hHeld => ?_)
            clear hK K
            refine tnm (some 16) ?_
            refine tpu 2 (some 17) #[true, true, true, false, false, false, false, false, false, false, false, false, false, false, false, false, false, false] ?_
            refine tpu 3 (some 18) #[true, true, true, true, false, false, false, false, false, false, false, false, false, false, false, false, false, false] ?_
            refine tpu 4 (some 19) #[true, true, true, true, true, false, false, false, false, false, false, false, false, false, false, false, false, false] ?_
            refine tpu 5 (some 20) #[true, true, true, true, true, true, false, false, false, false, false, false, false, false, false, false, false, false] ?_
            refine tpu 6 (some 21) #[true, true, true, true, true, true, true, false, false, false, false, false, false, false, false, false, false, false] ?_
            refine tpu 7 (some 22) #[true, true, true, true, true, true, true, true, false, false, false, false, false, false, false, false, false, false] ?_
            refine tpu 8 (some 23) #[true, true, true, true, true, true, true, true, true, false, false, false, false, false, false, false, false, false] ?_
            refine tpu 9 (some 24) #[true, true, true, true, true, true, true, true, true, true, false, false, false, false, false, false, false, false] ?_
            refine tpu 10 (some 25) #[true, true, true, true, true, true, true, true, true, true, true, false, false, false, false, false, false, false] ?_
            refine tpu 11 (some 26) #[true, true, true, true, true, true, true, true, true, true, true, true, false, false, false, false, false, false] ?_
            refine tpu 13 (some 28) #[true, true, true, true, true, true, true, true, true, true, true, true, false, true, false, false, false, false] ?_
            refine tta 12 (some 27) #[true, true, true, true, true, true, true, true, true, true, true, true, true, true, false, false, false, false] hHeld ?_ (hy := by rintro w' ⟨s0, s1, s2, s3⟩; go_simp; with_reducible rfl)
            refine tta 14 (some 29) #[true, true, true, true, true, true, true, true, true, true, true, true, true, true, true, false, false, false] hHeld ?_ (hy := by rintro w' ⟨s0, s1, s2, s3⟩; go_simp; with_reducible rfl)
            refine tpu 15 (some 30) #[true, true, true, true, true, true, true, true, true, true, true, true, true, true, true, true, false, false] ?_
            refine tpu 16 (some 31) #[true, true, true, true, true, true, true, true, true, true, true, true, true, true, true, true, true, false] ?_
            refine tpu 17 (some 32) #[true, true, true, true, true, true, true, true, true, true, true, true, true, true, true, true, true, true] ?_
            refine done_ (done_of HT_.out (by kernel_rfl)) ?_
            try go_wp2
            go_roundg k1
            case measure => have := HK1.out; omega
            case rel => exact ⟨(wrap64 (x10_1 + 1)), tr, H', ⟨by have := HK1.out; omega⟩, ⟨zb⟩⟩
           ·rw [if_neg c12] at H
            have c12b0 : (Op.bytesLess (((rd_T25 l0 (ji9)).f0).toList) (((rd_T25 l0 x10_1).f0).toList)) = false := by simpa using c12
            clear c12
            obtain rfl := Option.some.inj H
            have p195 : 0 ≤ (x10_1 : Int) := td
            have q195 : x10_1 < (l0.length : Int) := td
            obtain ⟨ad195, e195, hx195_0, hx195_1⟩ := at_T25 HR0.out x10_1 p195 q195
            cases e195
            replace hx195_0 := tcl HB hx195_0
            replace hx195_1 := tcl HB hx195_1
            replace p195 := eq_true p195
            replace q195 := eq_true q195
            try go_wp2_with (first | ((with_reducible refine gate_dst (N := 4) rfl ?_); refine box_event ?hg (N := 4) ?hd (cs := #[.string (⟨#[]⟩ : ByteArray), .int .i64 0]) (t := 25) ?hr ?_; (case hd => rfl); (case hg => rfl); (case hr => first | (go_simp; done) | (go_simp; rfl)); intro gb196 hg w18 hbox hb; have BK196 := Aside0.mk (hbox); have GW196 := tge HB hg; have GE196 := tge HB hg; replace HB := tBs HB hb; clear hb hbox hg; obtain ⟨hcz19_0, hcz19_1, hfz19_0, hfz19_1⟩ := cells2 BK196.out))
            have n0_ : Aside0 (((w18.setCell ⟨gb196, 0, none⟩ (.string ((rd_T25 l0 x10_1).f0))).setCell ⟨gb196, 1, none⟩ (.int .i64 ((rd_T25 l0 x10_1).f1))).heap[gb196]? = some (.cells #[.string ((rd_T25 l0 x10_1).f0), .int .i64 ((rd_T25 l0 x10_1).f1)] 25 (0, 0))) := ⟨by (with_reducible repeat (first | refine blk_drewN ?_ _ | refine blk_drew ?_ | refine blk_alloc ?_ _)); refine blk_put (cs := #[.string ((rd_T25 l0 x10_1).f0), .int .i64 0]) ?_ 1 _ rfl; (with_reducible repeat (first | refine blk_drewN ?_ _ | refine blk_drew ?_ | refine blk_alloc ?_ _)); refine blk_put (cs := #[.string (⟨#[]⟩ : ByteArray), .int .i64 0]) ?_ 0 _ rfl; exact tP BK196.out⟩
            have n1_ : Aside0 (Below w.heap.size w ((w18.setCell ⟨gb196, 0, none⟩ (.string ((rd_T25 l0 x10_1).f0))).setCell ⟨gb196, 1, none⟩ (.int .i64 ((rd_T25 l0 x10_1).f1)))) := ⟨zb⟩
            (try clear BK196)
            (try clear HB)
            generalize ((w18.setCell ⟨gb196, 0, none⟩ (.string ((rd_T25 l0 x10_1).f0))).setCell ⟨gb196, 1, none⟩ (.int .i64 ((rd_T25 l0 x10_1).f1))) = w20 at n0_ n1_ ⊢
            have BK196 := n0_
            have HB := n1_
            clear n0_ n1_
            replace BK196 := Aside0.mk (blk_drew BK196.out)
            replace HB := Aside0.mk (below_drew1 HB.out)
            have p198 : 0 ≤ ((ji9) : Int) := td
            have q198 : (ji9) < (l0.length : Int) := td
            obtain ⟨ad198, e198, hx198_0, hx198_1⟩ := at_T25 HR0.out (ji9) p198 q198
            have hw198_1 := hx198_1
            have hw198_0 := hx198_0
            obtain rfl : ad195 = ad198 := (by injection e198)
            replace hx198_0 := tcl HB hx198_0
            replace hx198_1 := tcl HB hx198_1
            replace p198 := eq_true p198
            replace q198 := eq_true q198
            refine start_ (n := 18) (S := fun w' => w'.cell? ⟨gb196, 0, none⟩ = some (.string ((rd_T25 l0 x10_1).f0)) ∧ w'.cell? ⟨gb196, 1, none⟩ = some (.int .i64 ((rd_T25 l0 x10_1).f1)) ∧ w'.cell? (ad195.add (((ji9)).toNat * 2)) = some (.string ((rd_T25 l0 (ji9)).f0)) ∧ w'.cell? ⟨(ad195.add (((ji9)).toNat * 2)).block, (ad195.add (((ji9)).toNat * 2)).off + 1, none⟩ = some (.int .i64 ((rd_T25 l0 (ji9)).f1))) (ds := []) #[false, false, false, false, false, false, false, false, false, false, false, false, false, false, false, false, false, false] (by kernel_rfl) rfl rfl ⟨(blk_cell BK196.out 0).trans rfl, (blk_cell BK196.out 1).trans rfl, (tcl HB hw198_0), (tcl HB hw198_1)⟩ (fun hHeld => ?_); refine with_tabW impl_GroupsValid.tab6 impl_GroupsValid.bits6 (fun HT_ HW_ => ?_)
            generalize w20.drew = w21 at BK196 HB hx198_0 hx198_1 hHeld ⊢
            refine tta 0 (some 15) #[true, false, false, false, false, false, false, false, false, false, false, false, false, false, false, false, false, false] hHeld ?_ (hy := by rintro w' ⟨s0, s1, s2, s3⟩; go_simp; with_reducible rfl)
            refine one_ (i := 1) (N := some 16) #[true, true, false, false, false, false, false, false, false, false, false, false, false, false, false, false, false, false] rfl rfl (one_of HT_.out (by kernel_rfl)) (by decide) (fun K hK => ?_)
            refine goes_ Try.func28 (by kernel_rfl) rfl #[.agg #[.string ((rd_T25 l0 x10_1).f0), .int .i64 ((rd_T25 l0 x10_1).f1)]] (by rfl) rfl rfl tq ?_
            with_reducible refine (impl_groupValid.calls k1 ((rd_T25 l0 x10_1).f0) ((rd_T25 l0 x10_1).f1) true _ A6.out).mono ?_
            rintro e w22 ⟨rfl, hb⟩
            refine ⟨_, rfl, ?_⟩
            replace BK196 := tBb BK196 hb
            replace HB := tBs HB hb
            (try clear hb)
            (try clear hb2)
            (try clear hk)
            (try clear hi)
            refine hK.out _ _ ⟨(blk_cell BK196.out 0).trans rfl, (blk_cell BK196.out 1).trans rfl, (tcl HB hw198_0), (tcl HB hw198_1)⟩ (fun hHeld => ?_)
            clear hK K
            refine tnm (some 16) ?_
            refine tpu 2 (some 17) #[true, true, true, false, false, false, false, false, false, false, false, false, false, false, false, false, false, false] ?_
            refine tpu 3 (some 18) #[true, true, true, true, false, false, false, false, false, false, false, false, false, false, false, false, false, false] ?_
            refine tpu 4 (some 19) #[true, true, true, true, true, false, false, false, false, false, false, false, false, false, false, false, false, false] ?_
            refine tpu 5 (some 20) #[true, true, true, true, true, true, false, false, false, false, false, false, false, false, false, false, false, false] ?_
            refine tpu 6 (some 21) #[true, true, true, true, true, true, true, false, false, false, false, false, false, false, false, false, false, false] ?_
            refine tpu 7 (some 22) #[true, true, true, true, true, true, true, true, false, false, false, false, false, false, false, false, false, false] ?_
            refine tpu 8 (some 23) #[true, true, true, true, true, true, true, true, true, false, false, false, false, false, false, false, false, false] ?_
            refine tpu 9 (some 24) #[true, true, true, true, true, true, true, true, true, true, false, false, false, false, false, false, false, false] ?_
            refine tpu 10 (some 25) #[true, true, true, true, true, true, true, true, true, true, true, false, false, false, false, false, false, false] ?_
            refine tpu 11 (some 26) #[true, true, true, true, true, true, true, true, true, true, true, true, false, false, false, false, false, false] ?_
            refine tpu 13 (some 28) #[true, true, true, true, true, true, true, true, true, true, true, true, false, true, false, false, false, false] ?_
            refine tta 12 (some 27) #[true, true, true, true, true, true, true, true, true, true, true, true, true, true, false, false, false, false] hHeld ?_ (hy := by rintro w' ⟨s0, s1, s2, s3⟩; go_simp; with_reducible rfl)
            refine tta 14 (some 29) #[true, true, true, true, true, true, true, true, true, true, true, true, true, true, true, false, false, false] hHeld ?_ (hy := by rintro w' ⟨s0, s1, s2, s3⟩; go_simp; with_reducible rfl)
            refine tpu 15 (some 30) #[true, true, true, true, true, true, true, true, true, true, true, true, true, true, true, true, false, false] ?_
            refine tpu 16 (some 31) #[true, true, true, true, true, true, true, true, true, true, true, true, true, true, true, true, true, false] ?_
            refine tpu 17 (some 32) #[true, true, true, true, true, true, true, true, true, true, true, true, true, true, true, true, true, true] ?_
            refine done_ (done_of HT_.out (by kernel_rfl)) ?_
            try go_wp2
            go_ret
            exact ⟨by first | rfl | (simp [errW_none, errW_some] <;> rfl) | (simp only [← hji9]; first | rfl | (simp [errW_none, errW_some] <;> rfl)) | (simp [*, errW_none, errW_some] <;> rfl), zb⟩
          ·rw [if_neg c11] at H
           exact absurd H (by simp)
         ·rw [if_neg c10] at H
          exact absurd H (by simp)
        ·rw [if_neg c8] at H
         have c8b0 : decide (0 < x10_1) = false := decide_eq_false c8
         clear c8
         have H' := Aside0.mk H
         clear H
         have p195 : 0 ≤ (x10_1 : Int) := td
         have q195 : x10_1 < (l0.length : Int) := td
         obtain ⟨ad195, e195, hx195_0, hx195_1⟩ := at_T25 HR0.out x10_1 p195 q195
         cases e195
         replace hx195_0 := tcl HB hx195_0
         replace hx195_1 := tcl HB hx195_1
         replace p195 := eq_true p195
         replace q195 := eq_true q195
         try go_wp2_with (first | ((with_reducible refine gate_dst (N := 4) rfl ?_); refine box_event ?hg (N := 4) ?hd (cs := #[.string (⟨#[]⟩ : ByteArray), .int .i64 0]) (t := 25) ?hr ?_; (case hd => rfl); (case hg => rfl); (case hr => first | (go_simp; done) | (go_simp; rfl)); intro gb196 hg w23 hbox hb; have BK196 := Aside0.mk (hbox); have GW196 := tge HB hg; have GE196 := tge HB hg; replace HB := tBs HB hb; clear hb hbox hg; obtain ⟨hcz24_0, hcz24_1, hfz24_0, hfz24_1⟩ := cells2 BK196.out))
         have n0_ : Aside0 (((w23.setCell ⟨gb196, 0, none⟩ (.string ((rd_T25 l0 x10_1).f0))).setCell ⟨gb196, 1, none⟩ (.int .i64 ((rd_T25 l0 x10_1).f1))).heap[gb196]? = some (.cells #[.string ((rd_T25 l0 x10_1).f0), .int .i64 ((rd_T25 l0 x10_1).f1)] 25 (0, 0))) := ⟨by (with_reducible repeat (first | refine blk_drewN ?_ _ | refine blk_drew ?_ | refine blk_alloc ?_ _)); refine blk_put (cs := #[.string ((rd_T25 l0 x10_1).f0), .int .i64 0]) ?_ 1 _ rfl; (with_reducible repeat (first | refine blk_drewN ?_ _ | refine blk_drew ?_ | refine blk_alloc ?_ _)); refine blk_put (cs := #[.string (⟨#[]⟩ : ByteArray), .int .i64 0]) ?_ 0 _ rfl; exact tP BK196.out⟩
         have n1_ : Aside0 (Below w.heap.size w ((w23.setCell ⟨gb196, 0, none⟩ (.string ((rd_T25 l0 x10_1).f0))).setCell ⟨gb196, 1, none⟩ (.int .i64 ((rd_T25 l0 x10_1).f1)))) := ⟨zb⟩
         (try clear BK196)
         (try clear HB)
         generalize ((w23.setCell ⟨gb196, 0, none⟩ (.string ((rd_T25 l0 x10_1).f0))).setCell ⟨gb196, 1, none⟩ (.int .i64 ((rd_T25 l0 x10_1).f1))) = w25 at n0_ n1_ ⊢
         have BK196 := n0_
         have HB := n1_
         clear n0_ n1_
         replace BK196 := Aside0.mk (blk_drew BK196.out)
         replace HB := Aside0.mk (below_drew1 HB.out)
         refine start_ (n := 18) (S := fun w' => w'.cell? ⟨gb196, 0, none⟩ = some (.string ((rd_T25 l0 x10_1).f0)) ∧ w'.cell? ⟨gb196, 1, none⟩ = some (.int .i64 ((rd_T25 l0 x10_1).f1))) (ds := []) #[false, false, false, false, false, false, false, false, false, false, false, false, false, false, false, false, false, false] (by kernel_rfl) rfl rfl ⟨(blk_cell BK196.out 0).trans rfl, (blk_cell BK196.out 1).trans rfl⟩ (fun hHeld => ?_); refine with_tabW impl_GroupsValid.tab6 impl_GroupsValid.bits6 (fun HT_ HW_ => ?_)
         generalize w25.drew = w26 at BK196 HB hHeld ⊢
         refine tta 0 (some 15) #[true, false, false, false, false, false, false, false, false, false, false, false, false, false, false, false, false, false] hHeld ?_ (hy := by rintro w' ⟨s0, s1⟩; go_simp; with_reducible rfl)
         refine one_ (i := 1) (N := some 16) #[true, true, false, false, false, false, false, false, false, false, false, false, false, false, false, false, false, false] rfl rfl (one_of HT_.out (by kernel_rfl)) (by decide) (fun K hK => ?_)
         refine goes_ Try.func28 (by kernel_rfl) rfl #[.agg #[.string ((rd_T25 l0 x10_1).f0), .int .i64 ((rd_T25 l0 x10_1).f1)]] (by rfl) rfl rfl tq ?_
         with_reducible refine (impl_groupValid.calls k1 ((rd_T25 l0 x10_1).f0) ((rd_T25 l0 x10_1).f1) true _ A6.out).mono ?_
         rintro e w27 ⟨rfl, hb⟩
         refine ⟨_, rfl, ?_⟩
         replace BK196 := tBb BK196 hb
         replace HB := tBs HB hb
         (try clear hb)
         (try clear hb2)
         (try clear hk)
         (try clear hi)
         refine hK.out _ _ ⟨(blk_cell BK196.out 0).trans rfl, (blk_cell BK196.out 1).trans rfl⟩ (fun hHeld => ?_)
         clear hK K
         refine tnm (some 16) ?_
         refine tpu 2 (some 17) #[true, true, true, false, false, false, false, false, false, false, false, false, false, false, false, false, false, false] ?_
         refine tpu 3 (some 18) #[true, true, true, true, false, false, false, false, false, false, false, false, false, false, false, false, false, false] ?_
         refine tpu 4 (some 19) #[true, true, true, true, true, false, false, false, false, false, false, false, false, false, false, false, false, false] ?_
         refine tpu 5 (some 20) #[true, true, true, true, true, true, false, false, false, false, false, false, false, false, false, false, false, false] ?_
         refine tpu 6 (some 21) #[true, true, true, true, true, true, true, false, false, false, false, false, false, false, false, false, false, false] ?_
         refine pure_ (i := 7) (N := some 22) (v := undef) (a' := ?_) #[true, true, true, true, true, true, true, true, false, false, false, false, false, false, false, false, false, false] rfl rfl (any_of HT_.out (by kernel_rfl)) (fun _ _ _ h => h) (Or.inr ⟨by rfl, rfl⟩) ?_ ?_
         rotate_left
         ·simp only [Act.put, List.setIfInBounds_toArray, List.set_cons_zero, List.set_cons_succ, i64_w, i32_w]
          rfl
         refine pure_ (i := 8) (N := some 23) (v := undef) (a' := ?_) #[true, true, true, true, true, true, true, true, true, false, false, false, false, false, false, false, false, false] rfl rfl (any_of HT_.out (by kernel_rfl)) (fun _ _ _ h => h) (Or.inr ⟨by rfl, rfl⟩) ?_ ?_
         rotate_left
         ·simp only [Act.put, List.setIfInBounds_toArray, List.set_cons_zero, List.set_cons_succ, i64_w, i32_w]
          rfl
         refine pure_ (i := 9) (N := some 24) (v := undef) (a' := ?_) #[true, true, true, true, true, true, true, true, true, true, false, false, false, false, false, false, false, false] rfl rfl (any_of HT_.out (by kernel_rfl)) (fun _ _ _ h => h) (Or.inr ⟨by rfl, rfl⟩) ?_ ?_
         rotate_left
         ·simp only [Act.put, List.setIfInBounds_toArray, List.set_cons_zero, List.set_cons_succ, i64_w, i32_w]
          rfl
         refine pure_ (i := 10) (N := some 25) (v := undef) (a' := ?_) #[true, true, true, true, true, true, true, true, true, true, true, false, false, false, false, false, false, false] rfl rfl (any_of HT_.out (by kernel_rfl)) (fun _ _ _ h => h) (Or.inr ⟨by rfl, rfl⟩) ?_ ?_
         rotate_left
         ·simp only [Act.put, List.setIfInBounds_toArray, List.set_cons_zero, List.set_cons_succ, i64_w, i32_w]
          rfl
         refine pure_ (i := 11) (N := some 26) (v := undef) (a' := ?_) #[true, true, true, true, true, true, true, true, true, true, true, true, false, false, false, false, false, false] rfl rfl (any_of HT_.out (by kernel_rfl)) (fun _ _ _ h => h) (Or.inr ⟨by rfl, rfl⟩) ?_ ?_
         rotate_left
         ·simp only [Act.put, List.setIfInBounds_toArray, List.set_cons_zero, List.set_cons_succ, i64_w, i32_w]
          rfl
         refine pure_ (i := 12) (N := some 27) (v := undef) (a' := ?_) #[true, true, true, true, true, true, true, true, true, true, true, true, true, false, false, false, false, false] rfl rfl (any_of HT_.out (by kernel_rfl)) (fun _ _ _ h => h) (Or.inr ⟨by rfl, rfl⟩) ?_ ?_
         rotate_left
         ·simp only [Act.put, List.setIfInBounds_toArray, List.set_cons_zero, List.set_cons_succ, i64_w, i32_w]
          rfl
         refine pure_ (i := 13) (N := some 28) (v := undef) (a' := ?_) #[true, true, true, true, true, true, true, true, true, true, true, true, true, true, false, false, false, false] rfl rfl (any_of HT_.out (by kernel_rfl)) (fun _ _ _ h => h) (Or.inr ⟨by rfl, rfl⟩) ?_ ?_
         rotate_left
         ·simp only [Act.put, List.setIfInBounds_toArray, List.set_cons_zero, List.set_cons_succ, i64_w, i32_w]
          rfl
         refine pure_ (i := 14) (N := some 29) (v := undef) (a' := ?_) #[true, true, true, true, true, true, true, true, true, true, true, true, true, true, true, false, false, false] rfl rfl (any_of HT_.out (by kernel_rfl)) (fun _ _ _ h => h) (Or.inr ⟨by rfl, rfl⟩) ?_ ?_
         rotate_left
         ·simp only [Act.put, List.setIfInBounds_toArray, List.set_cons_zero, List.set_cons_succ, i64_w, i32_w]
          rfl
         refine pure_ (i := 15) (N := some 30) (v := undef) (a' := ?_) #[true, true, true, true, true, true, true, true, true, true, true, true, true, true, true, true, false, false] rfl rfl (any_of HT_.out (by kernel_rfl)) (fun _ _ _ h => h) (Or.inr ⟨by rfl, rfl⟩) ?_ ?_
         rotate_left
         ·simp only [Act.put, List.setIfInBounds_toArray, List.set_cons_zero, List.set_cons_succ, i64_w, i32_w]
          rfl
         refine tpu 16 (some 31) #[true, true, true, true, true, true, true, true, true, true, true, true, true, true, true, true, true, false] ?_
         refine tpu 17 (some 32) #[true, true, true, true, true, true, true, true, true, true, true, true, true, true, true, true, true, true] ?_
         refine done_ (done_of HT_.out (by kernel_rfl)) ?_
         try go_wp2
         go_roundg k1
         case measure => have := HK1.out; omega
         case rel => exact ⟨(wrap64 (x10_1 + 1)), tr, H', ⟨by have := HK1.out; omega⟩, ⟨zb⟩⟩
       ·replace c7 := Bool.eq_false_iff.mpr c7
        subst c7
        rw [if_neg (show ¬ (false = true) by decide)] at H
        obtain rfl := Option.some.inj H
        have p195 : 0 ≤ (x10_1 : Int) := td
        have q195 : x10_1 < (l0.length : Int) := td
        obtain ⟨ad195, e195, hx195_0, hx195_1⟩ := at_T25 HR0.out x10_1 p195 q195
        cases e195
        replace hx195_0 := tcl HB hx195_0
        replace hx195_1 := tcl HB hx195_1
        replace p195 := eq_true p195
        replace q195 := eq_true q195
        try go_wp2_with (first | ((with_reducible refine gate_dst (N := 4) rfl ?_); refine box_event ?hg (N := 4) ?hd (cs := #[.string (⟨#[]⟩ : ByteArray), .int .i64 0]) (t := 25) ?hr ?_; (case hd => rfl); (case hg => rfl); (case hr => first | (go_simp; done) | (go_simp; rfl)); intro gb196 hg w28 hbox hb; have BK196 := Aside0.mk (hbox); have GW196 := tge HB hg; have GE196 := tge HB hg; replace HB := tBs HB hb; clear hb hbox hg; obtain ⟨hcz29_0, hcz29_1, hfz29_0, hfz29_1⟩ := cells2 BK196.out))
        have n0_ : Aside0 (((w28.setCell ⟨gb196, 0, none⟩ (.string ((rd_T25 l0 x10_1).f0))).setCell ⟨gb196, 1, none⟩ (.int .i64 ((rd_T25 l0 x10_1).f1))).heap[gb196]? = some (.cells #[.string ((rd_T25 l0 x10_1).f0), .int .i64 ((rd_T25 l0 x10_1).f1)] 25 (0, 0))) := ⟨by (with_reducible repeat (first | refine blk_drewN ?_ _ | refine blk_drew ?_ | refine blk_alloc ?_ _)); refine blk_put (cs := #[.string ((rd_T25 l0 x10_1).f0), .int .i64 0]) ?_ 1 _ rfl; (with_reducible repeat (first | refine blk_drewN ?_ _ | refine blk_drew ?_ | refine blk_alloc ?_ _)); refine blk_put (cs := #[.string (⟨#[]⟩ : ByteArray), .int .i64 0]) ?_ 0 _ rfl; exact tP BK196.out⟩
        have n1_ : Aside0 (Below w.heap.size w ((w28.setCell ⟨gb196, 0, none⟩ (.string ((rd_T25 l0 x10_1).f0))).setCell ⟨gb196, 1, none⟩ (.int .i64 ((rd_T25 l0 x10_1).f1)))) := ⟨zb⟩
        (try clear BK196)
        (try clear HB)
        generalize ((w28.setCell ⟨gb196, 0, none⟩ (.string ((rd_T25 l0 x10_1).f0))).setCell ⟨gb196, 1, none⟩ (.int .i64 ((rd_T25 l0 x10_1).f1))) = w30 at n0_ n1_ ⊢
        have BK196 := n0_
        have HB := n1_
        clear n0_ n1_
        replace BK196 := Aside0.mk (blk_drew BK196.out)
        replace HB := Aside0.mk (below_drew1 HB.out)
        refine start_ (n := 18) (S := fun w' => w'.cell? ⟨gb196, 0, none⟩ = some (.string ((rd_T25 l0 x10_1).f0)) ∧ w'.cell? ⟨gb196, 1, none⟩ = some (.int .i64 ((rd_T25 l0 x10_1).f1))) (ds := []) #[false, false, false, false, false, false, false, false, false, false, false, false, false, false, false, false, false, false] (by kernel_rfl) rfl rfl ⟨(blk_cell BK196.out 0).trans rfl, (blk_cell BK196.out 1).trans rfl⟩ (fun hHeld => ?_); refine with_tabW impl_GroupsValid.tab6 impl_GroupsValid.bits6 (fun HT_ HW_ => ?_)
        generalize w30.drew = w31 at BK196 HB hHeld ⊢
        refine tta 0 (some 15) #[true, false, false, false, false, false, false, false, false, false, false, false, false, false, false, false, false, false] hHeld ?_ (hy := by rintro w' ⟨s0, s1⟩; go_simp; with_reducible rfl)
        refine one_ (i := 1) (N := some 16) #[true, true, false, false, false, false, false, false, false, false, false, false, false, false, false, false, false, false] rfl rfl (one_of HT_.out (by kernel_rfl)) (by decide) (fun K hK => ?_)
        refine goes_ Try.func28 (by kernel_rfl) rfl #[.agg #[.string ((rd_T25 l0 x10_1).f0), .int .i64 ((rd_T25 l0 x10_1).f1)]] (by rfl) rfl rfl tq ?_
        with_reducible refine (impl_groupValid.calls k1 ((rd_T25 l0 x10_1).f0) ((rd_T25 l0 x10_1).f1) false _ A6.out).mono ?_
        rintro e w32 ⟨rfl, hb⟩
        refine ⟨_, rfl, ?_⟩
        replace BK196 := tBb BK196 hb
        replace HB := tBs HB hb
        (try clear hb)
        (try clear hb2)
        (try clear hk)
        (try clear hi)
        refine hK.out _ _ ⟨(blk_cell BK196.out 0).trans rfl, (blk_cell BK196.out 1).trans rfl⟩ (fun hHeld => ?_)
        clear hK K
        refine tnm (some 16) ?_
        refine tpu 2 (some 17) #[true, true, true, false, false, false, false, false, false, false, false, false, false, false, false, false, false, false] ?_
        refine tpu 3 (some 18) #[true, true, true, true, false, false, false, false, false, false, false, false, false, false, false, false, false, false] ?_
        refine pure_ (i := 4) (N := some 19) (v := undef) (a' := ?_) #[true, true, true, true, true, false, false, false, false, false, false, false, false, false, false, false, false, false] rfl rfl (any_of HT_.out (by kernel_rfl)) (fun _ _ _ h => h) (Or.inr ⟨by rfl, rfl⟩) ?_ ?_
        rotate_left
        ·simp only [Act.put, List.setIfInBounds_toArray, List.set_cons_zero, List.set_cons_succ, i64_w, i32_w]
         rfl
        refine pure_ (i := 5) (N := some 20) (v := undef) (a' := ?_) #[true, true, true, true, true, true, false, false, false, false, false, false, false, false, false, false, false, false] rfl rfl (any_of HT_.out (by kernel_rfl)) (fun _ _ _ h => h) (Or.inr ⟨by rfl, rfl⟩) ?_ ?_
        rotate_left
        ·simp only [Act.put, List.setIfInBounds_toArray, List.set_cons_zero, List.set_cons_succ, i64_w, i32_w]
         rfl
        refine pure_ (i := 6) (N := some 21) (v := undef) (a' := ?_) #[true, true, true, true, true, true, true, false, false, false, false, false, false, false, false, false, false, false] rfl rfl (any_of HT_.out (by kernel_rfl)) (fun _ _ _ h => h) (Or.inr ⟨by rfl, rfl⟩) ?_ ?_
        rotate_left
        ·simp only [Act.put, List.setIfInBounds_toArray, List.set_cons_zero, List.set_cons_succ, i64_w, i32_w]
         rfl
        refine pure_ (i := 7) (N := some 22) (v := undef) (a' := ?_) #[true, true, true, true, true, true, true, true, false, false, false, false, false, false, false, false, false, false] rfl rfl (any_of HT_.out (by kernel_rfl)) (fun _ _ _ h => h) (Or.inr ⟨by rfl, rfl⟩) ?_ ?_
        rotate_left
        ·simp only [Act.put, List.setIfInBounds_toArray, List.set_cons_zero, List.set_cons_succ, i64_w, i32_w]
         rfl
        refine pure_ (i := 8) (N := some 23) (v := undef) (a' := ?_) #[true, true, true, true, true, true, true, true, true, false, false, false, false, false, false, false, false, false] rfl rfl (any_of HT_.out (by kernel_rfl)) (fun _ _ _ h => h) (Or.inr ⟨by rfl, rfl⟩) ?_ ?_
        rotate_left
        ·simp only [Act.put, List.setIfInBounds_toArray, List.set_cons_zero, List.set_cons_succ, i64_w, i32_w]
         rfl
        refine pure_ (i := 9) (N := some 24) (v := undef) (a' := ?_) #[true, true, true, true, true, true, true, true, true, true, false, false, false, false, false, false, false, false] rfl rfl (any_of HT_.out (by kernel_rfl)) (fun _ _ _ h => h) (Or.inr ⟨by rfl, rfl⟩) ?_ ?_
        rotate_left
        ·simp only [Act.put, List.setIfInBounds_toArray, List.set_cons_zero, List.set_cons_succ, i64_w, i32_w]
         rfl
        refine pure_ (i := 10) (N := some 25) (v := undef) (a' := ?_) #[true, true, true, true, true, true, true, true, true, true, true, false, false, false, false, false, false, false] rfl rfl (any_of HT_.out (by kernel_rfl)) (fun _ _ _ h => h) (Or.inr ⟨by rfl, rfl⟩) ?_ ?_
        rotate_left
        ·simp only [Act.put, List.setIfInBounds_toArray, List.set_cons_zero, List.set_cons_succ, i64_w, i32_w]
         rfl
        refine pure_ (i := 11) (N := some 26) (v := undef) (a' := ?_) #[true, true, true, true, true, true, true, true, true, true, true, true, false, false, false, false, false, false] rfl rfl (any_of HT_.out (by kernel_rfl)) (fun _ _ _ h => h) (Or.inr ⟨by rfl, rfl⟩) ?_ ?_
        rotate_left
        ·simp only [Act.put, List.setIfInBounds_toArray, List.set_cons_zero, List.set_cons_succ, i64_w, i32_w]
         rfl
        refine pure_ (i := 12) (N := some 27) (v := undef) (a' := ?_) #[true, true, true, true, true, true, true, true, true, true, true, true, true, false, false, false, false, false] rfl rfl (any_of HT_.out (by kernel_rfl)) (fun _ _ _ h => h) (Or.inr ⟨by rfl, rfl⟩) ?_ ?_
        rotate_left
        ·simp only [Act.put, List.setIfInBounds_toArray, List.set_cons_zero, List.set_cons_succ, i64_w, i32_w]
         rfl
        refine pure_ (i := 13) (N := some 28) (v := undef) (a' := ?_) #[true, true, true, true, true, true, true, true, true, true, true, true, true, true, false, false, false, false] rfl rfl (any_of HT_.out (by kernel_rfl)) (fun _ _ _ h => h) (Or.inr ⟨by rfl, rfl⟩) ?_ ?_
        rotate_left
        ·simp only [Act.put, List.setIfInBounds_toArray, List.set_cons_zero, List.set_cons_succ, i64_w, i32_w]
         rfl
        refine pure_ (i := 14) (N := some 29) (v := undef) (a' := ?_) #[true, true, true, true, true, true, true, true, true, true, true, true, true, true, true, false, false, false] rfl rfl (any_of HT_.out (by kernel_rfl)) (fun _ _ _ h => h) (Or.inr ⟨by rfl, rfl⟩) ?_ ?_
        rotate_left
        ·simp only [Act.put, List.setIfInBounds_toArray, List.set_cons_zero, List.set_cons_succ, i64_w, i32_w]
         rfl
        refine pure_ (i := 15) (N := some 30) (v := undef) (a' := ?_) #[true, true, true, true, true, true, true, true, true, true, true, true, true, true, true, true, false, false] rfl rfl (any_of HT_.out (by kernel_rfl)) (fun _ _ _ h => h) (Or.inr ⟨by rfl, rfl⟩) ?_ ?_
        rotate_left
        ·simp only [Act.put, List.setIfInBounds_toArray, List.set_cons_zero, List.set_cons_succ, i64_w, i32_w]
         rfl
        refine pure_ (i := 16) (N := some 31) (v := undef) (a' := ?_) #[true, true, true, true, true, true, true, true, true, true, true, true, true, true, true, true, true, false] rfl rfl (any_of HT_.out (by kernel_rfl)) (fun _ _ _ h => h) (Or.inr ⟨by rfl, rfl⟩) ?_ ?_
        rotate_left
        ·simp only [Act.put, List.setIfInBounds_toArray, List.set_cons_zero, List.set_cons_succ, i64_w, i32_w]
         rfl
        refine tpu 17 (some 32) #[true, true, true, true, true, true, true, true, true, true, true, true, true, true, true, true, true, true] ?_
        refine done_ (done_of HT_.out (by kernel_rfl)) ?_
        try go_wp2
        go_ret
        exact ⟨by first | rfl | (simp [errW_none, errW_some] <;> rfl) | (simp [*, errW_none, errW_some] <;> rfl), zb⟩
      ·rw [if_neg c5] at H
       exact absurd H (by simp)
     ·rw [if_neg c4] at H
      exact absurd H (by simp)
    ·rw [if_neg c3] at H
     have c3b0 : decide (x10_1 < (l0.length : Int)) = false := decide_eq_false c3
     clear c3
     obtain rfl := Option.some.inj H
     go_wp2
     go_ret
     exact ⟨by first | rfl | (simp [errW_none, errW_some] <;> rfl) | (simp [*, errW_none, errW_some] <;> rfl), zb⟩

end Go.Proofs.Ytkihdohphddjaaa.G

namespace Go.Proofs.Ytkihdohphddjaaa.G
open Go.RowKit Go.Proofs.YtkihdohphddjaaaW.PrintWords Go.Proofs.YtkihdohphddjaaaW.PrintLast Go.Proofs.YtkihdohphddjaaaW.PrintMore
set_option linter.unusedVariables false
set_option linter.unusedSimpArgs false
def slices_Clone_impl_Group_impl_Group.f (l0 : List S25) : Option (List S25) := if l0.length < 5864062014805 then some l0 else none
set_option maxRecDepth 100000 in
set_option maxHeartbeats 4000000 in
theorem slices_Clone_impl_Group_impl_Group.calls (A0 : Option Addr) (c0 : Nat) (l0 r : List S25) (w : World) (hr0 : Kd.C k25 w A0 l0.length l0) (hc0 : l0.length ≤ c0) (h : slices_Clone_impl_Group_impl_Group.f l0 = some r) :
    Calls Try.prog 29 #[.slice A0 l0.length c0] w fun e w' => ∃ v0_ : Value, e = .returned v0_ ∧ Kd.R k25 25 w' w.heap.size (fun _ => True) v0_ r ∧ Below w.heap.size w w' := by
  unfold slices_Clone_impl_Group_impl_Group.f at h
  by_cases hl : l0.length < 5864062014805
  case neg => rw [if_neg hl] at h; exact absurd h (by simp)
  rw [if_pos hl] at h
  obtain rfl := Option.some.inj h
  have HR := Aside0.mk hr0
  clear h hr0
  cases A0 with
  | none =>
    have hl0 : l0 = [] := by
      cases l0 with
      | nil => rfl
      | cons x l => exact absurd (HR.out.2.2 (by simp)) (by simp)
    subst hl0
    have he : ∀ w : World, (binOp .eql 23 (.slice none 0 c0) (.slice none 0 0)).run Try.prog w = .ok (.bool true) w := fun _ => rfl
    go_enter Try.func29, Try.ntmps29
    go_wp2
    go_ret
    exact ⟨_, rfl, Kd.R_nil _ _ _ _ _, Below.refl _ _⟩
  | some ad =>
    have he : ∀ w : World, (binOp .eql 23 (.slice (some ad) l0.length c0) (.slice none 0 0)).run Try.prog w = .ok (.bool false) w := fun _ => rfl
    go_enter Try.func29, Try.ntmps29
    go_wp2_with (first | ((with_reducible refine gate_dst (N := 5) rfl ?_); refine Kd.R_lit k25 _ 25 ?hg (N := 5) ?hd (xs := ([] : List S25)) (inner := []) (ok := fun _ => True) (okp := fun _ => True) ?hr ?hp (fun _ hk => hk) trivial (Below.refl _ _) (Nat.le_refl _) (by simp) ?_; (case hd => rfl); (case hg => rfl); (case hr => first | (go_simp; done) | (go_simp; rfl)); (case hp => exact (Reps.none _ _)); intro v1 w1 ho1 hb1 hg1 hnew1; have HO := Aside0.mk ho1; have HB := Aside0.mk hb1; clear ho1 hb1 hg1 hnew1) | ((with_reducible refine gate_builtin (b := .append) (xs := #[.tmp 5, .tmp 6]) rfl ?_); at_builtin; refine Kd.R_append_rows k25 (w0 := w) w.heap.size rfl (.tmp 5) (.tmp 6) 23 25 (.agg #[.string ByteArray.empty, .int .i64 0]) 24 rfl Try.underlying23 (by kernel_rfl) rfl (by decide) (by omega) v1 [] l0 _ _ _ (fun _ => True) (fun _ => False) rfl rfl (Kd.R_lower HO.out (Nat.le_refl _)) (Kd.C_below HR.out HB.out) (fun _ _ h => h) (fun _ h => h.elim) (fun _ _ => trivial) HB.out (below_size HB.out) (by simp; omega) ?_; intro v2 w2 ho2 hb2 hg2 hat2; rw [List.nil_append] at ho2; have HO2 := Aside0.mk ho2; have HB2 := Aside0.mk hb2; clear ho2 hb2 hg2 hat2))
    go_ret
    exact ⟨_, rfl, HO2.out, HB2.out⟩
end Go.Proofs.Ytkihdohphddjaaa.G

namespace Go.Proofs.Ytkihdohphddjaaa.G
open Go.RowKit Go.Shelf Go.Lib Go.Proofs.YtkihdohphddjaaaW.PrintWords Go.Proofs.YtkihdohphddjaaaW.PrintLast Go.Proofs.YtkihdohphddjaaaW.PrintMore
set_option linter.unusedVariables false
set_option linter.unusedSimpArgs false
theorem run_copy_wide {P : Program} (w : World) (dT sT ty elem : TypeId) (sz b o dLen dCap : Nat) (a : Addr) (sLen sCap : Nat) (cs : List Value)
    (hu : P.underlying dT = some (.slice elem)) (hs : (P.info? elem).map (·.size) = some sz) (hn : cs.length = Nat.min sLen dLen * sz)
    (hsrc : ∀ j v, cs[j]? = some v → w.cell? (a.add j) = some v) (hc : ∀ j, j < cs.length → (w.cell? ⟨b, o + j, none⟩).isSome = true) (hf : ∀ j, j < cs.length → w.frozen? ⟨b, o + j, none⟩ = false) (h1 : ∀ v ∈ cs, v.oneCell' = true) :
    (Builtin.copy_ #[dT, sT] ty #[.slice (some ⟨b, o, none⟩) dLen dCap, .slice (some a) sLen sCap]).run P w = .ok (goInt (Nat.min sLen dLen)) (w.setCells b o cs) := by
  have hl := run_loadCells_list (P := P) w a cs hsrc
  have hst := run_storeCells_cells (P := P) b o cs 0 w (by simpa using hc) (by simpa using hf) h1
  cases hq : P.info? elem with
  | none => simp [hq] at hs
  | some i =>
    have hi : i.size = sz := by simpa [hq] using hs
    simp [Builtin.copy_, run_underlying hu, Builtin.lenOf, Builtin.firstCells, sizeOf, typeInfo, hq, hi, ← hn, hl, hst]
set_option maxHeartbeats 4000000 in
set_option maxRecDepth 100000 in
theorem ins_shift (b n c i vb : Nat) (cur : Array Value) (g0 g1 : Value) (w : World) (hi : i < n) (hroom : n + 1 ≤ c) (hc63 : c ≤ 9223372036854775807) (hvb : vb ≠ b)
    (hb : w.heap[b]? = some (.cells cur 25 (0, 0))) (hsz : cur.size = c * 2) (hv : w.heap[vb]? = some (.cells #[g0, g1] 25 (0, 0))) (h1 : ∀ v ∈ cur.toList.take (n * 2), v.oneCell' = true) (h10 : g0.oneCell' = true) (h11 : g1.oneCell' = true) :
    Calls Try.prog 49 #[.slice (some ⟨b, 0, none⟩) n c, .int .i64 i, .slice (some ⟨vb, 0, none⟩) 1 1] w fun e w' =>
      e = .returned (.slice (some ⟨b, 0, none⟩) (n + 1) c) ∧ w' = (w.drew.setCells b ((i + 1) * 2) ((cur.toList.take (n * 2)).drop (i * 2))).setCells b (i * 2) [g0, g1] := by
  have hz2 : ¬ ((i : Int) = (n : Int)) := by omega
  have hs : (Try.prog.info? 25).map (·.size) = some 2 := by kernel_rfl
  have hsb : w.shape? b = some (25, cur.size) := by unfold World.shape?; rw [hb]
  have hsv : w.shape? vb = some (25, 2) := by unfold World.shape?; rw [hv]; rfl
  have hov : ∀ lb cb, (callFunc 61 #[.slice (some ⟨vb, 0, none⟩) 1 1, .slice (some ⟨b, (i + 1) * 2, none⟩) lb cb]).run Try.prog w = .ok (.value (.bool false)) w := fun lb cb => by
    rw [run_callFunc_extern Try.func61 (by kernel_rfl) (by kernel_rfl) (by kernel_rfl) (e := Extern.SlicesOverlaps.overlaps #[23, 23] #[4]) (by kernel_rfl),
      Lib.run_overlaps_apart w 23 4 25 Try.underlying23 2 Try.sizeOf25 ⟨vb, 0, none⟩ ⟨b, (i + 1) * 2, none⟩ 1 1 lb cb hvb _ _ _ _ hsv hsb (by omega) (blk_frozen hv 0) (blk_frozen hv 2)]
    rfl
  obtain ⟨cs, hcs⟩ : ∃ cs, cs = (cur.toList.take (n * 2)).drop (i * 2) := ⟨_, rfl⟩
  have hcl : cs.length = (n - i) * 2 := by rw [hcs, List.length_drop, List.length_take, Array.length_toList]; omega
  have hcg : ∀ j v, cs[j]? = some v → w.cell? ⟨b, i * 2 + j, none⟩ = some v := by
    intro j v hj
    rw [hcs, List.getElem?_drop, List.getElem?_take] at hj
    split at hj
    · rw [cell_of_row w b _ cur _ (0, 0) hb, ← hj, Array.getElem?_toList]
    · cases hj
  have hco : ∀ v ∈ cs, v.oneCell' = true := fun v hv => h1 v (by rw [hcs] at hv; exact List.mem_of_mem_drop hv)
  have hsm : ∀ j, j < c * 2 → (w.cell? ⟨b, j, none⟩).isSome = true := fun j hj => by rw [cell_of_row w b _ cur _ (0, 0) hb, Array.getElem?_eq_getElem (by omega)]; rfl
  have hfz : ∀ j, w.frozen? ⟨b, j, none⟩ = false := fun j => blk_frozen hb j
  rw [← hcs]
  clear hcs
  have hw1 : IntKind.i64.wrap ((i : Int) + 1) = (i : Int) + 1 := by rw [IntKind.wrap_i64]; omega
  have hb1 : (0 : Int) ≤ (i : Int) + 1 := by omega
  have hin : i ≤ n := by omega
  have htn : ((i : Int) + 1).toNat = i + 1 := by omega
  have hb2 : ¬ (c = i + 1) := by omega
  have hb3 : (i : Int) ≤ (n : Int) + 1 := by omega
  have hb4 : ¬ (c = i) := by omega
  have mixed : Try.prog.follows .mixedOrders = true := by kernel_rfl
  have hm1 : Nat.min (n + 1 - i) (n - i) = n - i := by show min _ _ = _; omega
  have hm2 : Nat.min 1 (n + 1 - i) = 1 := by show min _ _ = _; omega
  have hcp1 : ∀ ty dc sc, (Builtin.copy_ #[23, 23] ty #[.slice (some ⟨b, (i + 1) * 2, none⟩) (n - i) dc, .slice (some ⟨b, i * 2, none⟩) (n + 1 - i) sc]).run Try.prog w.drew = .ok (goInt (n - i : Nat)) (w.drew.setCells b ((i + 1) * 2) cs) := fun ty dc sc => by
    have := run_copy_wide (P := Try.prog) w.drew 23 23 ty 25 2 b ((i + 1) * 2) (n - i) dc ⟨b, i * 2, none⟩ (n + 1 - i) sc cs Try.underlying23 hs (by rw [hcl, hm1])
      (fun j v hj => by rw [Addr.add_lit]; exact hcg j v hj) (fun j hj => hsm _ (by omega)) (fun j _ => hfz _) hco
    rw [hm1] at this
    exact this
  obtain ⟨W1, hW1⟩ : ∃ W1, W1 = w.drew.setCells b ((i + 1) * 2) cs := ⟨_, rfl⟩
  have hsm1 : ∀ k, k < c * 2 → (W1.cell? ⟨b, k, none⟩).isSome = true := fun k hk => by
    rw [hW1]
    exact isSome_setCells b cs ((i + 1) * 2) w.drew (fun j hj => hsm _ (by omega)) _ (hsm k hk)
  have hcp2 : ∀ (W : World), (∀ x, W.cell? x = W1.cell? x) → (∀ x, W.frozen? x = W1.frozen? x) → ∀ ty dc, (Builtin.copy_ #[23, 23] ty #[.slice (some ⟨b, i * 2, none⟩) (n + 1 - i) dc, .slice (some ⟨vb, 0, none⟩) 1 1]).run Try.prog W = .ok (goInt (1 : Nat)) (W.setCells b (i * 2) [g0, g1]) := fun W hWc hWf ty dc => by
    have hvc : ∀ j v, [g0, g1][j]? = some v → w.cell? ⟨vb, j, none⟩ = some v := fun j v hj => by
      rw [cell_of_row w vb _ _ _ (0, 0) hv, ← hj]; simp
    have := run_copy_wide (P := Try.prog) W 23 23 ty 25 2 b (i * 2) (n + 1 - i) dc ⟨vb, 0, none⟩ 1 1 [g0, g1] Try.underlying23 hs (by rw [hm2]; rfl)
      (fun j v hj => by
        rw [Addr.add_lit, hWc, hW1, World.cell?_setCells_out b _ _ _ _ (fun h _ => absurd h hvb), Nat.zero_add]
        exact hvc j v hj) (fun j hj => by rw [hWc]; exact hsm1 _ (by simp at hj; omega)) (fun j _ => by rw [hWf, hW1, World.frozen?_setCells]; exact hfz _) (by intro v hv; simp at hv; rcases hv with rfl | rfl <;> assumption)
    rw [hm2] at this
    exact this
  rw [← hW1] at hcp1
  go_enter Try.func49, Try.ntmps49
  go_wp2_with (simp only [hov])
  go_region_law_o (refine step_copy_runI rfl _ _ 23 23 rfl _ _ (by simp [Act.eval, Act.put]) (by simp [Act.eval, Act.put]) (hcp1 _ _ _) ?_)
  go_wp2_with (at_builtin; refine wpList_copy_runI _ rfl _ _ 23 23 rfl _ _ rfl rfl (hcp2 _ (fun _ => rfl) (fun _ => rfl) _ _) ?_)
  go_ret
  first | exact ⟨rfl, rfl⟩ | exact ⟨rfl, by rw [hW1]⟩
set_option maxHeartbeats 4000000 in
set_option maxRecDepth 100000 in
/-- .. and no room behind it: a new row. -/
theorem ins_grow (b n c i vb : Nat) (cur : Array Value) (g0 g1 : Value) (w : World) (hi : i < n) (hnc : n ≤ c) (hroom : c < n + 1) (hbig : n + 1 ≤ 5864062014805)
    (hb : w.heap[b]? = some (.cells cur 25 (0, 0))) (hsz : cur.size = c * 2) (hv : w.heap[vb]? = some (.cells #[g0, g1] 25 (0, 0))) (h1 : ∀ v ∈ cur.toList, v.oneCell' = true) (h10 : g0.oneCell' = true) (h11 : g1.oneCell' = true) :
    Calls Try.prog 49 #[.slice (some ⟨b, 0, none⟩) n c, .int .i64 i, .slice (some ⟨vb, 0, none⟩) 1 1] w fun e w' =>
      ∃ G ROW, n + 1 ≤ G ∧ G ≤ maxLen ∧ Array.size ROW = G * 2 ∧ ROW.toList.take (i * 2) = cur.toList.take (i * 2) ∧ e = .returned (.slice (some ⟨w.heap.size, 0, none⟩) (n + 1) G) ∧
        w' = (((w.alloc (.cells ROW 25)).drew.setCells w.heap.size (i * 2) [g0, g1]).drew).setCells w.heap.size ((i + 1) * 2) ((cur.toList.take (n * 2)).drop (i * 2)) := by
  have hz2 : ¬ ((i : Int) = (n : Int)) := by omega
  have hz3 : (c : Int) < (n : Int) + 1 := by omega
  have mixed : Try.prog.follows .mixedOrders = true := by kernel_rfl
  obtain ⟨i0, hi0, hz0, hzs, hzb⟩ := info_parts info25
  have hs : (Try.prog.info? 25).map (·.size) = some 2 := by kernel_rfl
  have hbw : b < w.heap.size := blk_lt hb
  have hvw : vb < w.heap.size := blk_lt hv
  obtain ⟨cs, hcs⟩ : ∃ cs, cs = cur.toList.take (n * 2) := ⟨_, rfl⟩
  have hcl : cs.length = n * 2 := by rw [hcs, List.length_take, Array.length_toList]; omega
  have hcg : ∀ j v, cs[j]? = some v → w.cell? ⟨b, j, none⟩ = some v := by
    intro j v hj
    rw [hcs, List.getElem?_take] at hj
    split at hj
    · rw [cell_of_row w b _ cur _ (0, 0) hb, ← hj, Array.getElem?_toList]
    · cases hj
  have hco : ∀ v ∈ cs, v.oneCell' = true := fun v hv => h1 v (by rw [hcs] at hv; exact List.mem_of_mem_take hv)
  have hct : cs.take (i * 2) = cur.toList.take (i * 2) := by rw [hcs, List.take_take, Nat.min_eq_left (by omega)]
  rw [← hct, ← hcs]
  clear hct hcs
  have hkk : (n : Int) + 1 - (i : Int) = ((n + 1 - i : Nat) : Int) := by omega
  have hik : i + (n + 1 - i) = n + 1 := by omega
  have hold : (Builtin.firstCells i0.size i (.slice (some ⟨b, 0, none⟩) i c)).run Try.prog w.drew = .ok (cs.take (i * 2)).toArray w.drew := by
    rw [hzs]
    exact run_firstCells_some w.drew 2 i ⟨b, 0, none⟩ i c (cs.take (i * 2)) (by rw [List.length_take]; omega) (fun j v hj => by
      rw [Addr.add_lit, Nat.zero_add]
      rw [List.getElem?_take] at hj
      split at hj
      · exact hcg j v hj
      · cases hj)
  obtain ⟨Z, hZ⟩ : ∃ Z : Value, Z = .agg #[.string ⟨#[]⟩, .int .i64 0] := ⟨_, rfl⟩
  have hrz : ∀ ty, (Builtin.append_ #[23, 3] ty #[.slice (some ⟨b, 0, none⟩) i c, .int .i64 ((n : Int) + 1 - (i : Int))]).run Try.prog w =
      .ok (.slice (some ⟨w.heap.size, 0, none⟩) (n + 1) (grownCap w (n + 1) c 25)) (w.drew.alloc (.cells ((cs.take (i * 2)).toArray ++ Builtin.zeroCells Z.cells (n + 1 - i) ++ Builtin.zeroCells Z.cells (grownCap w (n + 1) c 25 - (n + 1))) 25)) := fun ty => by
    have h := Lib.run_append_grow_zeros w 23 3 ty 25 i0 Z .i64 .i64 Try.underlying23 Try.underlying3 hi0 (hz0.trans (by rw [hZ])) (some ⟨b, 0, none⟩) i c (cs.take (i * 2)) hold (n + 1 - i) (by omega) (by omega) (by omega) (by omega) (by rw [hzb]; omega) (by rw [hzb, hik]; exact growslice_fits hroom (by omega))
    rw [hik] at h
    rw [hkk]
    exact h
  obtain ⟨G, hG⟩ : ∃ G, G = grownCap w (n + 1) c 25 := ⟨_, rfl⟩
  have hGn : n + 1 ≤ G := by rw [hG]; exact grownCap_ge w _ _ _
  have hGm : G ≤ maxLen := by rw [hG]; exact grownCap_le_maxLen w (n + 1) c 25 (by unfold maxLen; omega)
  have hG63 : G ≤ 9223372036854775807 := by unfold maxLen at hGm; omega
  obtain ⟨ROW, hROW⟩ : ∃ ROW : Array Value, ROW = (cs.take (i * 2)).toArray ++ Builtin.zeroCells Z.cells (n + 1 - i) ++ Builtin.zeroCells Z.cells (G - (n + 1)) := ⟨_, rfl⟩
  rw [← hG] at hrz
  rw [← hROW] at hrz
  have hZc : Z.cells.size = 2 := by rw [hZ]; rfl
  have hlt : (cs.take (i * 2)).length = i * 2 := by rw [List.length_take]; omega
  have hRs : ROW.size = G * 2 := by
    rw [hROW, Array.size_append, Array.size_append, size_zeroCells, size_zeroCells, hZc, List.size_toArray, hlt]
    omega
  have hRt : ROW.toList.take (i * 2) = cs.take (i * 2) := by
    rw [hROW, Array.toList_append, Array.toList_append, List.append_assoc, List.take_append_of_le_length (by simp [hlt]), List.take_of_length_le (by simp [hlt])]
  obtain ⟨W1, hW1⟩ : ∃ W1, W1 = w.drew.alloc (.cells ROW 25) := ⟨_, rfl⟩
  rw [← hW1] at hrz
  have hN : ∀ j, j < G * 2 → (W1.cell? ⟨w.heap.size, j, none⟩).isSome = true := fun j hj => by
    rw [hW1, World.cell?_alloc_at (w := w.drew) ROW _ w.heap.size j rfl, Array.getElem?_eq_getElem (by omega)]; rfl
  have hNf : ∀ j, W1.frozen? ⟨w.heap.size, j, none⟩ = false := fun j => by rw [hW1]; exact World.frozen?_alloc_at (w := w.drew) ROW _ w.heap.size j rfl
  have hOb : ∀ j v, w.cell? ⟨b, j, none⟩ = some v → W1.cell? ⟨b, j, none⟩ = some v := fun j v h => by rw [hW1, World.cell?_alloc_past (w := w.drew) _ b j hbw]; exact h
  have hOv : ∀ j v, w.cell? ⟨vb, j, none⟩ = some v → W1.cell? ⟨vb, j, none⟩ = some v := fun j v h => by rw [hW1, World.cell?_alloc_past (w := w.drew) _ vb j hvw]; exact h
  have hvc : ∀ j v, [g0, g1][j]? = some v → w.cell? ⟨vb, j, none⟩ = some v := fun j v hj => by
    rw [cell_of_row w vb _ _ _ (0, 0) hv, ← hj]; simp
  have hm2 : Nat.min 1 (n + 1 - i) = 1 := by show min _ _ = _; omega
  have hm1 : Nat.min (n - i) (n - i) = n - i := by show min _ _ = _; omega
  have hcpA : ∀ (W : World), (∀ x, W.cell? x = W1.cell? x) → (∀ x, W.frozen? x = W1.frozen? x) → ∀ ty dc, (Builtin.copy_ #[23, 23] ty #[.slice (some ⟨w.heap.size, i * 2, none⟩) (n + 1 - i) dc, .slice (some ⟨vb, 0, none⟩) 1 1]).run Try.prog W = .ok (goInt (1 : Nat)) (W.setCells w.heap.size (i * 2) [g0, g1]) := fun W hWc hWf ty dc => by
    have := run_copy_wide (P := Try.prog) W 23 23 ty 25 2 w.heap.size (i * 2) (n + 1 - i) dc ⟨vb, 0, none⟩ 1 1 [g0, g1] Try.underlying23 hs (by rw [hm2]; rfl)
      (fun j v hj => by
        rw [Addr.add_lit, hWc, Nat.zero_add]
        exact hOv _ v (hvc j v hj)) (fun j hj => by rw [hWc]; exact hN _ (by simp at hj; omega)) (fun j _ => by rw [hWf]; exact hNf _) (by intro v hv; simp at hv; rcases hv with rfl | rfl <;> assumption)
    rw [hm2] at this
    exact this
  have hdl : (cs.drop (i * 2)).length = (n - i) * 2 := by rw [List.length_drop, hcl]; omega
  have hbN : b ≠ w.heap.size := by omega
  have hcpB : ∀ (W : World), (∀ x, W.cell? x = (W1.setCells w.heap.size (i * 2) [g0, g1]).cell? x) → (∀ x, W.frozen? x = (W1.setCells w.heap.size (i * 2) [g0, g1]).frozen? x) → ∀ ty dc sc, (Builtin.copy_ #[23, 23] ty #[.slice (some ⟨w.heap.size, (i + 1) * 2, none⟩) (n - i) dc, .slice (some ⟨b, i * 2, none⟩) (n - i) sc]).run Try.prog W = .ok (goInt (n - i : Nat)) (W.setCells w.heap.size ((i + 1) * 2) (cs.drop (i * 2))) := fun W hWc hWf ty dc sc => by
    have := run_copy_wide (P := Try.prog) W 23 23 ty 25 2 w.heap.size ((i + 1) * 2) (n - i) dc ⟨b, i * 2, none⟩ (n - i) sc (cs.drop (i * 2)) Try.underlying23 hs (by rw [hdl, hm1])
      (fun j v hj => by
        rw [Addr.add_lit, hWc, World.cell?_setCells_out _ _ _ _ _ (fun h _ => absurd h hbN)]
        exact hOb _ v (hcg _ v (by rwa [List.getElem?_drop] at hj)))
      (fun j hj => by rw [hWc]; exact isSome_setCells w.heap.size [g0, g1] (i * 2) W1 (fun t ht => hN _ (by simp at ht; omega)) _ (hN _ (by omega)))
      (fun j _ => by rw [hWf, World.frozen?_setCells]; exact hNf _) (fun v hv => hco v (List.mem_of_mem_drop hv))
    rw [hm1] at this
    exact this
  subst hW1
  have hE1 : ∀ x, ((w.alloc (.cells ROW 25)).drew).cell? x = (w.drew.alloc (.cells ROW 25)).cell? x := fun x => rfl
  have hE2 : ∀ x, ((w.alloc (.cells ROW 25)).drew).frozen? x = (w.drew.alloc (.cells ROW 25)).frozen? x := fun x => rfl
  have hF1 : ∀ x, (((w.alloc (.cells ROW 25)).drew.setCells w.heap.size (i * 2) [g0, g1]).drew).cell? x = ((w.drew.alloc (.cells ROW 25)).setCells w.heap.size (i * 2) [g0, g1]).cell? x := fun x => rfl
  have hF2 : ∀ x, (((w.alloc (.cells ROW 25)).drew.setCells w.heap.size (i * 2) [g0, g1]).drew).frozen? x = ((w.drew.alloc (.cells ROW 25)).setCells w.heap.size (i * 2) [g0, g1]).frozen? x := fun x => rfl
  have hw1 : IntKind.i64.wrap ((i : Int) + 1) = (i : Int) + 1 := by rw [IntKind.wrap_i64]; omega
  have hb1 : (0 : Int) ≤ (i : Int) + 1 := by omega
  have hin : i ≤ n := by omega
  have htn : ((i : Int) + 1).toNat = i + 1 := by omega
  have hb3 : (i : Int) ≤ (n : Int) := by omega
  have hGi : ¬ (G = i) := by omega
  have hGim : ¬ (G = i + 1) := by omega
  have hci : ¬ (c = i) := by omega
  clear hkk hik hold hROW hG
  go_enter Try.func49, Try.ntmps49
  go_wp2_with (first
    | (at_builtin; refine Lib.wpList_append_run _ rfl _ _ _ _ rfl _ _ rfl rfl _ _ (hrz _) ?_)
    | (at_builtin; refine wpList_copy_runI _ rfl _ _ 23 23 rfl _ _ rfl rfl (hcpA _ hE1 hE2 _ _) ?_)
    | (at_builtin; refine wpList_copy_runI _ rfl _ _ 23 23 rfl _ _ rfl rfl (hcpB _ (fun _ => rfl) (fun _ => rfl) _ _ _) ?_))
  go_region_law_o (refine step_copy_runI rfl _ _ 23 23 rfl (.slice (some ⟨w.heap.size, (i + 1) * 2, none⟩) (n - i) (G - (i + 1))) (.slice (some ⟨b, i * 2, none⟩) (n - i) (c - i)) (by simp [Act.eval, Act.put]) (by simp [Act.eval, Act.put]) (hcpB _ hF1 hF2 3 (G - (i + 1)) (c - i)) ?_)
  go_wp2
  go_ret
  exact ⟨G, ROW, hGn, hGm, hRs, hRt, rfl, rfl⟩
end Go.Proofs.Ytkihdohphddjaaa.G

namespace Go.Proofs.Ytkihdohphddjaaa.G
open Go.RowKit Go.Proofs.YtkihdohphddjaaaW.PrintWords Go.Proofs.YtkihdohphddjaaaW.PrintLast Go.Proofs.YtkihdohphddjaaaW.PrintMore
set_option linter.unusedVariables false
set_option linter.unusedSimpArgs false
def enc2 (l : List S25) : List Value := l.flatMap fun x => [.string x.f0, .int .i64 x.f1]
theorem enc2_len (l : List S25) : (enc2 l).length = l.length * 2 := by
  induction l with
  | nil => rfl
  | cons x l ih =>
    show ([Value.string x.f0, .int .i64 x.f1] ++ enc2 l).length = _
    rw [List.length_append, ih]
    simp
    omega
theorem enc2_app (a b : List S25) : enc2 (a ++ b) = enc2 a ++ enc2 b := by unfold enc2; rw [List.flatMap_append]
theorem enc2_one (l : List S25) : ∀ v ∈ enc2 l, v.oneCell' = true := by
  intro v hv
  obtain ⟨x, _, hx⟩ := List.mem_flatMap.1 hv
  simp at hx
  rcases hx with rfl | rfl <;> rfl
theorem enc2_take (l : List S25) (i : Nat) : (enc2 l).take (i * 2) = enc2 (l.take i) := by
  induction l generalizing i with
  | nil => simp [enc2]
  | cons x l ih =>
    cases i with
    | zero => simp [enc2]
    | succ i =>
      show ([Value.string x.f0, .int .i64 x.f1] ++ enc2 l).take ((i + 1) * 2) = [Value.string x.f0, .int .i64 x.f1] ++ enc2 (l.take i)
      rw [show (i + 1) * 2 = [Value.string x.f0, .int .i64 x.f1].length + i * 2 by simp; omega, List.take_length_add_append, ih]
theorem enc2_drop (l : List S25) (i : Nat) : (enc2 l).drop (i * 2) = enc2 (l.drop i) := by
  induction l generalizing i with
  | nil => simp [enc2]
  | cons x l ih =>
    cases i with
    | zero => simp [enc2]
    | succ i =>
      show ([Value.string x.f0, .int .i64 x.f1] ++ enc2 l).drop ((i + 1) * 2) = enc2 (l.drop i)
      rw [show (i + 1) * 2 = [Value.string x.f0, .int .i64 x.f1].length + i * 2 by simp; omega, List.drop_length_add_append, ih]
theorem enc2_set (l : List S25) (i : Nat) (g : S25) (hi : i < l.length) : enc2 (l.set i g) = ((enc2 l).set (i * 2) (.string g.f0)).set (i * 2 + 1) (.int .i64 g.f1) := by
  induction l generalizing i with
  | nil => simp at hi
  | cons x l ih =>
    cases i with
    | zero => rfl
    | succ i =>
      show [Value.string x.f0, .int .i64 x.f1] ++ enc2 (l.set i g) = (([Value.string x.f0, .int .i64 x.f1] ++ enc2 l).set ((i + 1) * 2) (.string g.f0)).set ((i + 1) * 2 + 1) (.int .i64 g.f1)
      rw [ih i (by simpa using hi), show (i + 1) * 2 = i * 2 + 1 + 1 by omega, show i * 2 + 1 + 1 + 1 = (i * 2 + 1) + 1 + 1 by omega]
      rfl
theorem reps_mk (w : World) (base : Nat) (ok : Nat → Prop) (l : List S25) : Reps (k25.M w base ok) 2 l (enc2 l) := by
  have : ∀ l2 l1 : List S25, Reps (k25.M w base ok) 2 l1 (enc2 l1) → Reps (k25.M w base ok) 2 (l1 ++ l2) (enc2 (l1 ++ l2)) := by
    intro l2
    induction l2 with
    | nil => intro l1 h; simpa using h
    | cons x l2 ih =>
      intro l1 h
      have := ih (l1 ++ [x]) (by
        rw [enc2_app]
        exact Reps.snoc h (k25_mkM w base ok x) rfl)
      simpa using this
  simpa using this l [] (Reps.none _ _)
theorem reps_enc {R : S25 → List Value → Prop} (hR : ∀ x c, R x c → c = [.string x.f0, .int .i64 x.f1]) : ∀ (l : List S25) (cs : List Value), Reps R 2 l cs → cs = enc2 l
  | [], cs, h => by
    have := h.1
    simp at this
    rw [this]
    rfl
  | x :: l, cs, h => by
    have h0 := hR _ _ (h.2 0 x rfl)
    have hl := h.1
    simp only [List.length_cons] at hl
    have ih := reps_enc hR l (cs.drop 2) ⟨by rw [List.length_drop]; omega, fun j p hj => by
      have := h.2 (j + 1) p (by simpa using hj)
      rw [List.drop_drop, show 2 + j * 2 = (j + 1) * 2 by omega]
      exact this⟩
    rw [Nat.zero_mul, List.drop_zero] at h0
    rw [← List.take_append_drop 2 cs, h0, ih]
    rfl
/-- A row of groups of one's own, opened. -/
theorem gR_open {W : World} {base : Nat} {ok : Nat → Prop} {v : Value} {l : List S25} (h : Kd.R k25 25 W base ok v l) :
    (v = .slice none 0 0 ∧ l = []) ∨ ∃ b c cur, v = .slice (some ⟨b, 0, none⟩) l.length c ∧ ok b ∧ base ≤ b ∧ W.heap[b]? = some (.cells cur 25 (0, 0)) ∧ l.length ≤ c ∧ c ≤ maxLen ∧ cur.size = c * 2 ∧ cur.toList.take (l.length * 2) = enc2 l := by
  obtain ⟨h0, inner, ⟨hlen, hcase⟩, hreps⟩ := h
  have he := reps_enc (fun x c hc => k25_openM hc) l inner hreps
  rcases hcase with ⟨hv, hn⟩ | ⟨b, c, cur, hv, hb, hh, hnc, hcm, hcs, htk⟩
  · exact .inl ⟨hv, List.length_eq_zero_iff.1 hn⟩
  · refine .inr ⟨b, c, cur, hv, h0 b (by rw [hv]; rfl), hb, hh, hnc, hcm, hcs, ?_⟩
    rw [← he]
    exact htk
theorem gR_mk {W : World} {base : Nat} {ok : Nat → Prop} {l : List S25} {b c : Nat} {cur : Array Value} (hok : ok b) (hb : base ≤ b) (hh : W.heap[b]? = some (.cells cur 25 (0, 0))) (hnc : l.length ≤ c) (hcm : c ≤ maxLen) (hcs : cur.size = c * 2) (htk : cur.toList.take (l.length * 2) = enc2 l) :
    Kd.R k25 25 W base ok (.slice (some ⟨b, 0, none⟩) l.length c) l :=
  ⟨fun k hk => by
    have : b = k := by simpa [Value.ownBlock] using hk
    exact this ▸ hok, enc2 l, ⟨enc2_len l, .inr ⟨b, c, cur, rfl, hb, hh, hnc, hcm, hcs, htk⟩⟩, reps_mk _ _ _ l⟩
def insL (l : List S25) (i : Nat) (g : S25) : List S25 := l.take i ++ g :: l.drop i
theorem insL_len (l : List S25) (i : Nat) (g : S25) (hi : i ≤ l.length) : (insL l i g).length = l.length + 1 := by unfold insL; simp; omega
theorem insL_enc (l : List S25) (i : Nat) (g : S25) : enc2 (insL l i g) = (enc2 l).take (i * 2) ++ ([.string g.f0, .int .i64 g.f1] ++ (enc2 l).drop (i * 2)) := by
  rw [enc2_take, enc2_drop]
  unfold insL
  rw [enc2_app]
  rfl
theorem far_setCells (g : Nat) (vs : List Value) (o : Nat) (w : World) (k : Nat) (hk : k ≠ g) : (w.setCells g o vs).heap[k]? = w.heap[k]? := setCells_far vs o k hk
set_option maxHeartbeats 4000000 in
set_option maxRecDepth 100000 in
theorem ins_calls {W : World} {base : Nat} {ok : Nat → Prop} {v : Value} {l : List S25} (i : Nat) (hi : i ≤ l.length) (g : S25) (vb : Nat) (hl : l.length + 1 ≤ 5864062014805) (hR : Kd.R k25 25 W base ok v l)
    (hv : W.heap[vb]? = some (.cells #[.string g.f0, .int .i64 g.f1] 25 (0, 0))) (hvb : some vb ≠ v.ownBlock) (hbase : base ≤ W.heap.size) (hfr : ∀ k, W.heap.size ≤ k → ok k) :
    Calls Try.prog 49 #[v, .int .i64 i, .slice (some ⟨vb, 0, none⟩) 1 1] W fun e w' =>
      ∃ v1, e = .returned v1 ∧ Kd.R k25 25 w' base ok v1 (insL l i g) ∧ W.grownBy w' v.ownBlock := by
  have hl2 : (l.length : Int) ≤ 5864062014805 := by omega
  rcases Nat.lt_or_ge i l.length with hlt | hge
  case inr =>
    obtain rfl : i = l.length := by omega
    have hC : Kd.C k25 W (some ⟨vb, 0, none⟩) 1 [g] := ⟨rfl, by omega, fun _ => ⟨_, rfl, fun j p hj => by
      obtain ⟨rfl, rfl⟩ : j = 0 ∧ p = g := by
        cases j with
        | zero => simp at hj; exact ⟨rfl, hj.symm⟩
        | succ j => simp at hj
      refine ⟨[.string p.f0, .int .i64 p.f1], rfl, k25_mk _ _, fun q u hq => ?_⟩
      rw [Addr.add_lit, cell_of_row W vb _ _ _ (0, 0) hv, ← hq]
      simp⟩⟩
    obtain ⟨A, c, hvv⟩ : ∃ A c, v = .slice A l.length c := by
      rcases gR_open hR with ⟨h1, h2⟩ | ⟨b, c, cur, h1, _⟩
      · exact ⟨none, 0, by rw [h1, h2]; rfl⟩
      · exact ⟨_, _, h1⟩
    have hz1 : ¬ ((1 : Int) = 0) := by omega
    have HR := Aside0.mk hR
    have HC := Aside0.mk hC
    clear hR hC hv
    obtain ⟨n, hn⟩ : ∃ n, n = l.length := ⟨_, rfl⟩
    subst hvv
    rw [← hn] at hl ⊢
    have hroom : n ≤ c := by
      rw [hn]
      exact (Kd.R_reads' HR.out).2.1
    go_enter Try.func49, Try.ntmps49
    go_wp2_with ((with_reducible refine gate_builtin (b := .append) (xs := #[.tmp 23, .tmp 24]) rfl ?_); at_builtin; refine Kd.R_append_rows k25 (w0 := W) base rfl (.tmp 23) (.tmp 24) 23 25 (.agg #[.string ByteArray.empty, .int .i64 0]) 24 rfl Try.underlying23 (by kernel_rfl) rfl (by decide) (by omega) (.slice A n c) l [g] _ _ _ ok (fun _ => False) rfl rfl (by rw [hn]; exact HR.out) HC.out (fun _ _ h => h) (fun _ h => h.elim) hfr (Below.refl _ _) hbase (by rw [← hn]; omega) ?_; intro v2 w2 ho2 hb2 hg2 hat2; have HO2 := Aside0.mk ho2; have HG2 := Aside0.mk hg2; clear ho2 hb2 hg2 hat2)
    all_goals go_ret
    all_goals
      refine ⟨_, rfl, ?_, by cases A <;> exact HG2.out⟩
      have e : ∀ m, m = l.length → insL l m g = l ++ [g] := fun m hm => by unfold insL; rw [hm, List.take_length, List.drop_length]
      first | (rw [e _ rfl]; exact HO2.out) | (rw [e _ hn]; exact HO2.out)
  case inl =>
    rcases gR_open hR with ⟨_, h2⟩ | ⟨b, c, cur, rfl, hok, hbb, hh, hnc, hcm, hcs, htk⟩
    · rw [h2] at hlt
      exact absurd hlt (by simp)
    have hvb' : vb ≠ b := fun e => hvb (by rw [e]; rfl)
    have hcm' : c ≤ 9223372036854775807 := by unfold maxLen at hcm; omega
    have h10 : (Value.string g.f0).oneCell' = true := rfl
    have h11 : (Value.int .i64 g.f1).oneCell' = true := rfl
    have hlen : (enc2 l).length = l.length * 2 := enc2_len l
    have hnl : (insL l i g).length = l.length + 1 := insL_len l i g hi
    have hcur1 : ∀ v ∈ (cur.toList.take (l.length * 2)), v.oneCell' = true := by rw [htk]; exact enc2_one l
    -- the row as1 only its elements are known
    have hdl : ((enc2 l).drop (i * 2)).length = (l.length - i) * 2 := by rw [List.length_drop, hlen]; omega
    rcases Nat.lt_or_ge c (l.length + 1) with hlo | hge
    · refine (ins_grow b l.length c i vb cur _ _ W hlt hnc hlo hl hh hcs hv ?_ h10 h11).mono ?_
      · have : cur.toList.take (l.length * 2) = cur.toList := List.take_of_length_le (by rw [Array.length_toList]; omega)
        rw [this] at hcur1
        exact hcur1
      rintro e w' ⟨G, ROW, hG, hGm, hRs, hRt, rfl, rfl⟩
      have hDe : (cur.toList.take (l.length * 2)).drop (i * 2) = (enc2 l).drop (i * 2) := by rw [htk]
      simp only [hDe]
      have k0 : (W.alloc (.cells ROW 25)).drew.heap[W.heap.size]? = some (.cells ROW 25 (0, 0)) := by
        show (W.heap.push _)[W.heap.size]? = _
        exact Array.getElem?_push_size
      obtain ⟨c1, p1, q1, r1⟩ := setCells_row [.string g.f0, .int .i64 g.f1] (i * 2) _ ROW k0 (by simp; omega)
      have p1' : (((W.alloc (.cells ROW 25)).drew.setCells W.heap.size (i * 2) [.string g.f0, .int .i64 g.f1]).drew).heap[W.heap.size]? = some (.cells c1 25 (0, 0)) := p1
      obtain ⟨c2, p2, q2, r2⟩ := setCells_row ((enc2 l).drop (i * 2)) ((i + 1) * 2) _ c1 p1' (by rw [hdl]; omega)
      refine ⟨_, rfl, ?_, ?_⟩
      · have := gR_mk (l := insL l i g) (base := base) (ok := ok) (cur := c2) (c := G) (hfr _ (Nat.le_refl _)) hbase p2 (by rw [hnl]; exact hG) hGm (by rw [q2, q1, hRs]) (by
          rw [r2, r1, hnl, insL_enc]
          have e1 : (ROW.toList.take (i * 2) ++ [Value.string g.f0, .int .i64 g.f1] ++ ROW.toList.drop (i * 2 + [Value.string g.f0, Value.int .i64 g.f1].length)).take ((i + 1) * 2) = (enc2 l).take (i * 2) ++ [Value.string g.f0, .int .i64 g.f1] := by
            rw [hRt]
            have hln : ((cur.toList.take (i * 2)) ++ [Value.string g.f0, .int .i64 g.f1]).length = (i + 1) * 2 := by simp; omega
            rw [List.take_append_of_le_length (by omega), List.take_of_length_le (by omega)]
            rw [← htk, List.take_take, Nat.min_eq_left (by omega)]
          rw [e1, List.append_assoc, List.append_assoc, List.append_assoc]
          have hln : ((enc2 l).take (i * 2) ++ ([Value.string g.f0, .int .i64 g.f1] ++ (enc2 l).drop (i * 2))).length = (l.length + 1) * 2 := by simp [hlen]; omega
          rw [← List.append_assoc [Value.string g.f0, .int .i64 g.f1], ← List.append_assoc ((enc2 l).take (i * 2)), List.take_append_of_le_length (by omega), List.take_of_length_le (by omega)])
        rw [hnl] at this
        exact this
      · have ha : ∀ k, k < W.heap.size → (W.alloc (.cells ROW 25)).heap[k]? = W.heap[k]? := fun k hk => (below_alloc (Below.refl W.heap.size W) _).block k hk
        obtain ⟨a1, a2, a3, a4⟩ := setCells_same W.heap.size [.string g.f0, .int .i64 g.f1] (i * 2) (W.alloc (.cells ROW 25)).drew
        obtain ⟨b1, b2, b3, b4⟩ := setCells_same W.heap.size ((enc2 l).drop (i * 2)) ((i + 1) * 2) (((W.alloc (.cells ROW 25)).drew.setCells W.heap.size (i * 2) [.string g.f0, .int .i64 g.f1]).drew)
        refine ⟨b1.trans a1, b2.trans a2, b3.trans a3, ?_, fun k hk _ => ?_⟩
        · rw [b4]
          show W.heap.size ≤ ((W.alloc (.cells ROW 25)).drew.setCells W.heap.size (i * 2) [.string g.f0, .int .i64 g.f1]).heap.size
          rw [a4]
          exact (below_alloc (Below.refl W.heap.size W) _).size
        · rw [far_setCells _ _ _ _ _ (by omega)]
          show ((W.alloc (.cells ROW 25)).drew.setCells W.heap.size (i * 2) [.string g.f0, .int .i64 g.f1]).heap[k]? = _
          rw [far_setCells _ _ _ _ _ (by omega)]
          exact ha k hk
    · refine (ins_shift b l.length c i vb cur _ _ W hlt hge hcm' hvb' hh hcs hv hcur1 h10 h11).mono ?_
      rintro e w' ⟨rfl, rfl⟩
      have hDe : (cur.toList.take (l.length * 2)).drop (i * 2) = (enc2 l).drop (i * 2) := by rw [htk]
      simp only [hDe]
      have k0 : W.drew.heap[b]? = some (.cells cur 25 (0, 0)) := hh
      obtain ⟨c1, p1, q1, r1⟩ := setCells_row ((enc2 l).drop (i * 2)) ((i + 1) * 2) _ cur k0 (by rw [hdl]; omega)
      obtain ⟨c2, p2, q2, r2⟩ := setCells_row [.string g.f0, .int .i64 g.f1] (i * 2) _ c1 p1 (by simp; omega)
      refine ⟨_, rfl, ?_, ?_⟩
      · have := gR_mk (l := insL l i g) (base := base) (ok := ok) (cur := c2) (c := c) hok hbb p2 (by rw [hnl]; exact hge) hcm (by rw [q2, q1, hcs]) (by
          rw [r2, r1, hnl, insL_enc]
          have hcl : cur.toList.length = c * 2 := by rw [Array.length_toList, hcs]
          have l1 : (cur.toList.take ((i + 1) * 2)).length = (i + 1) * 2 := by rw [List.length_take]; omega
          have e1 : ∀ D R : List Value, (cur.toList.take ((i + 1) * 2) ++ D ++ R).take (i * 2) = (enc2 l).take (i * 2) := by
            intro D R
            rw [List.append_assoc, List.take_append_of_le_length (by omega), List.take_take, Nat.min_eq_left (by omega), ← htk, List.take_take, Nat.min_eq_left (by omega)]
          have e2 : ∀ D R : List Value, (cur.toList.take ((i + 1) * 2) ++ D ++ R).drop (i * 2 + [Value.string g.f0, Value.int .i64 g.f1].length) = D ++ R := by
            intro D R
            rw [List.append_assoc, show i * 2 + [Value.string g.f0, Value.int .i64 g.f1].length = (cur.toList.take ((i + 1) * 2)).length by rw [l1]; simp; omega, List.drop_left]
          rw [e1, e2]
          have hln : ((enc2 l).take (i * 2) ++ ([Value.string g.f0, .int .i64 g.f1] ++ (enc2 l).drop (i * 2))).length = (l.length + 1) * 2 := by simp [hlen]; omega
          rw [List.append_assoc, ← List.append_assoc [Value.string g.f0, .int .i64 g.f1], ← List.append_assoc ((enc2 l).take (i * 2)), List.take_append_of_le_length (by omega), List.take_of_length_le (by omega)])
        rw [hnl] at this
        exact this
      · obtain ⟨a1, a2, a3, a4⟩ := setCells_same b ((enc2 l).drop (i * 2)) ((i + 1) * 2) W.drew
        obtain ⟨b1, b2, b3, b4⟩ := setCells_same b [.string g.f0, .int .i64 g.f1] (i * 2) (W.drew.setCells b ((i + 1) * 2) ((enc2 l).drop (i * 2)))
        refine ⟨b1.trans a1, b2.trans a2, b3.trans a3, by rw [b4, a4]; exact Nat.le_refl _, fun k hk hne => ?_⟩
        have hkb : k ≠ b := fun e => hne (by rw [e]; rfl)
        rw [far_setCells _ _ _ _ _ hkb, far_setCells _ _ _ _ _ hkb]
        rfl
end Go.Proofs.Ytkihdohphddjaaa.G

namespace Go.Proofs.Ytkihdohphddjaaa.G
open Go
abbrev muL : Go.Conc.Locks.MuLink := { lock := 44, unlock := 45, ilock := 58, iunlock := 59, lockSlow := 71, unlockSlow := 74, disable := 67, enable := 69, acquire := 70, relMerge := 72, cas32 := 68, add32 := 73, tMutex := 63, tIMutex := 61, tPMutex := 94, tPIMutex := 102, tPI32 := 104, tUP := 106, tNoCopy := 58, tU32 := 59 }
theorem muLib : Go.Conc.Locks.MuLib Try.prog muL where
  f_lock := Try.func44.trans (congrArg some (by kernel_rfl))
  f_unlock := Try.func45.trans (congrArg some (by kernel_rfl))
  f_ilock := Try.func58.trans (congrArg some (by kernel_rfl))
  f_iunlock := Try.func59.trans (congrArg some (by kernel_rfl))
  f_disable := Try.func67.trans (congrArg some (by kernel_rfl))
  f_enable := Try.func69.trans (congrArg some (by kernel_rfl))
  f_acquire := Try.func70.trans (congrArg some (by kernel_rfl))
  f_relMerge := Try.func72.trans (congrArg some (by kernel_rfl))
  f_cas32 := Try.func68.trans (congrArg some (by kernel_rfl))
  f_add32 := Try.func73.trans (congrArg some (by kernel_rfl))
  underlying_tIMutex := Try.underlying61
  runUnderlying_tIMutex := Try.runUnderlying61
  sizeOf_tIMutex := Try.sizeOf61
  isAgg_tIMutex := Try.isAgg61
  zeroValue_tIMutex := Try.zeroValue61
  underlying_tMutex := Try.underlying63
  runUnderlying_tMutex := Try.runUnderlying63
  sizeOf_tMutex := Try.sizeOf63
  isAgg_tMutex := Try.isAgg63
  zeroValue_tMutex := Try.zeroValue63
  underlying_tPMutex := Try.underlying94
  runUnderlying_tPMutex := Try.runUnderlying94
  sizeOf_tPMutex := Try.sizeOf94
  isAgg_tPMutex := Try.isAgg94
  zeroValue_tPMutex := Try.zeroValue94
  underlying_tPIMutex := Try.underlying102
  runUnderlying_tPIMutex := Try.runUnderlying102
  sizeOf_tPIMutex := Try.sizeOf102
  isAgg_tPIMutex := Try.isAgg102
  zeroValue_tPIMutex := Try.zeroValue102
  underlying_tPI32 := Try.underlying104
  runUnderlying_tPI32 := Try.runUnderlying104
  sizeOf_tPI32 := Try.sizeOf104
  isAgg_tPI32 := Try.isAgg104
  zeroValue_tPI32 := Try.zeroValue104
  underlying_tUP := Try.underlying106
  runUnderlying_tUP := Try.runUnderlying106
  sizeOf_tUP := Try.sizeOf106
  isAgg_tUP := Try.isAgg106
  zeroValue_tUP := Try.zeroValue106
  underlying_tNoCopy := Try.underlying58
  runUnderlying_tNoCopy := Try.runUnderlying58
  sizeOf_tNoCopy := Try.sizeOf58
  isAgg_tNoCopy := Try.isAgg58
  zeroValue_tNoCopy := Try.zeroValue58
  underlying_t21 := Try.underlying21
  runUnderlying_t21 := Try.runUnderlying21
  sizeOf_t21 := Try.sizeOf21
  isAgg_t21 := Try.isAgg21
  zeroValue_t21 := Try.zeroValue21
  room_tIMutex := by kernel_rfl
end Go.Proofs.Ytkihdohphddjaaa.G

namespace Go.Proofs
open Go.Shelf
def Try.lays106_ren : Go.Shelf.Ren := ⟨fun | 106 => 48 | 213 => 60 | 265 => 75 | n => n, fun | 9 => 9 | 3 => 3 | n => n, fun | n => n⟩
theorem Try.lays106 : Go.Proofs.Lays.n106 Try.prog Try.lays106_ren := {
  mixed := by kernel_rfl
  f106 := Try.func48.trans (congrArg some (by kernel_rfl))
  f213 := Try.func60.trans (congrArg some (by kernel_rfl))
  f265 := Try.func75.trans (congrArg some (by kernel_rfl))
  t3 := Try.underlying3
  a3 := Try.isAgg3
  z3 := Try.sizeOf3
  v3 := Try.zeroValue3
  t9 := Try.underlying9
  a9 := Try.isAgg9
  z9 := Try.sizeOf9
  v9 := Try.zeroValue9 }
open Go.RowKit in
theorem Try.strings_Compare (a b : ByteArray) (w : World) :
    Calls Try.prog 48 #[.string a, .string b] w fun e w' => e = .returned (.int .i64 (Lib.compareBytes a.data.toList b.data.toList)) ∧ w' = w := Any.strings_Compare Try.lays106 a b w
end Go.Proofs

namespace Go.Proofs.Ytkihdohphddjaaa.G
open Go.RowKit Go.Proofs.YtkihdohphddjaaaW.PrintWords Go.Proofs.YtkihdohphddjaaaW.PrintLast Go.Proofs.YtkihdohphddjaaaW.PrintMore
set_option linter.unusedVariables false
def strings_Compare.f (s t : ByteArray) : Option Int := some (Lib.compareBytes s.data.toList t.data.toList)
theorem strings_Compare.calls (a0 a1 : ByteArray) (r : Int) (w : World) (h : strings_Compare.f a0 a1 = some r) :
    Calls Try.prog 48 #[.string a0, .string a1] w fun e w' => e = .returned (.int .i64 r) ∧ Drawn0 w w' := by
  obtain rfl := Option.some.inj h
  exact (Try.strings_Compare a0 a1 w).mono fun e w' ⟨he, hw⟩ => ⟨he, hw ▸ Drawn0.refl _⟩
end Go.Proofs.Ytkihdohphddjaaa.G

namespace Go.Proofs.Ytkihdohphddjaaa.G
open Go.RowKit Go.Proofs.YtkihdohphddjaaaW.PrintWords Go.Proofs.YtkihdohphddjaaaW.PrintLast Go.Proofs.YtkihdohphddjaaaW.PrintMore
attribute [local go_sem] max2_int min2_int max_two min_two max_three min_three max_four min_four   -- for this text's walks alone
set_option linter.unusedVariables false
set_option linter.unusedSimpArgs false

def impl_members_put_1.f (a0_0 : ByteArray) (a0_1 : Int) (a1_0 : ByteArray) (a1_1 : Int) : Option (Int) := (strings_Compare.f a0_0 a1_0).bind fun t201 => (some t201)
set_option maxHeartbeats 8000000 in
set_option maxRecDepth 100000 in
theorem impl_members_put_1.calls (a0_0 : ByteArray) (a0_1 : Int) (a1_0 : ByteArray) (a1_1 : Int) (r : Int) (w : World) (h : impl_members_put_1.f a0_0 a0_1 a1_0 a1_1 = some r) :
  Calls Try.prog 47 #[.agg #[.string a0_0, .int .i64 a0_1], .agg #[.string a1_0, .int .i64 a1_1]] w fun e w' => e = .returned (.int .i64 r) ∧ Below w.heap.size w w' := by
 have hu25 := Try.underlying25
 have HB := Aside0.mk (Below.refl w.heap.size w)
 have H : ((strings_Compare.f a0_0 a1_0).bind fun t201 => (some t201)) = some r := h
 clear h
 replace H := tbe H
 obtain ⟨t201, A3, H⟩ := H
 obtain rfl := Option.some.inj H
 go_enter Try.func47, Try.ntmps47
 go_wp2_with (first | ((with_reducible refine gate_dst (N := 2) rfl ?_); refine box_event ?hg (N := 2) ?hd (cs := #[.string a0_0, .int .i64 a0_1]) (t := 25) ?hr ?_; (case hd => rfl); (case hg => rfl); (case hr => first | (go_simp; done) | (go_simp; rfl)); intro gb199 hg w4 hbox hb; have BK199 := Aside0.mk (hbox); have GW199 := tge HB hg; have GE199 := tge HB hg; replace HB := tBs HB hb; clear hb hbox hg) | ((with_reducible refine gate_dst (N := 3) rfl ?_); refine box_event ?hg (N := 3) ?hd (cs := #[.string a1_0, .int .i64 a1_1]) (t := 25) ?hr ?_; (case hd => rfl); (case hg => rfl); (case hr => first | (go_simp; done) | (go_simp; rfl)); intro gb200 hg w5 hbox hb; have BK200 := Aside0.mk (hbox); have GW200 := tge HB hg; have GE200 := tge HB hg; replace HB := tBs HB hb; have NB199_200 := tlt BK199 hg; have NB200_199 := tgt BK199 hg; replace BK199 := tBb BK199 hb; clear hb hbox hg; have hnb6 := NB199_200.out; have hnc6 := NB200_199.out; obtain ⟨hcz7_0, hcz7_1, hfz7_0, hfz7_1⟩ := cells2 BK199.out; obtain ⟨hcz8_0, hcz8_1, hfz8_0, hfz8_1⟩ := cells2 BK200.out) | ((with_reducible refine gate_callee (f := 48) rfl ?_); refine goesL_ (some 9) rfl rfl Try.func48 (by kernel_rfl) rfl #[.string a0_0, .string a1_0] rfl tq ?_; (with_reducible refine (strings_Compare.calls a0_0 a1_0 t201 _ A3.out).mono ?_); rintro e w' ⟨rfl, ⟨nd, rfl⟩⟩; refine ⟨_, rfl, ?_⟩))
 go_ret
 exact ⟨by first | rfl | (simp [errW_none, errW_some] <;> rfl) | (simp [*, errW_none, errW_some] <;> rfl), zb⟩

def impl_Group_46.l0 : Nat → List (S25) → Int → Int → Int → ByteArray → Int → Option (Int × Bool)
 | 0, _, _, _, _, _, _ => none
 | k + 1, x0, x8, x9, x10, x203000, x203001 => if x9 < x10 then (if 0 ≤ (wrap64 ((IntKind.u64.wrap (wrap64 (x9 + x10))) / 2)) then (if (wrap64 ((IntKind.u64.wrap (wrap64 (x9 + x10))) / 2)) < (x0.length : Int) then ((impl_members_put_1.f ((rd_T25 x0 (wrap64 ((IntKind.u64.wrap (wrap64 (x9 + x10))) / 2))).f0) ((rd_T25 x0 (wrap64 ((IntKind.u64.wrap (wrap64 (x9 + x10))) / 2))).f1) x203000 x203001).bind fun t204 => (if t204 < 0 then (impl_Group_46.l0 k x0 x8 (wrap64 ((wrap64 ((IntKind.u64.wrap (wrap64 (x9 + x10))) / 2)) + 1)) x10 x203000 x203001) else (impl_Group_46.l0 k x0 x8 x9 (wrap64 ((IntKind.u64.wrap (wrap64 (x9 + x10))) / 2)) x203000 x203001))) else (none)) else (none)) else (if x9 < x8 then (if 0 ≤ x9 then (if x9 < (x0.length : Int) then ((impl_members_put_1.f ((rd_T25 x0 x9).f0) ((rd_T25 x0 x9).f1) x203000 x203001).bind fun t206 => (some (x9, (t206 == 0)))) else (none)) else (none)) else (some (x9, false)))
def impl_Group_46.f (k : Nat) (l0 : List (S25)) (a1_0 : ByteArray) (a1_1 : Int) (a2 : Int) : Option (Int × Bool) := impl_Group_46.l0 k l0 (l0.length : Int) 0 (l0.length : Int) a1_0 a1_1
def impl_Group_46.T5 : Bool × List (List Nat × List Nat) := (true, [([], []), ([], []), ([], []), ([1, 2], [1, 2]), ([3], [3]), ([], []), ([0, 4, 5], [0, 4, 5]), ([6], [6])])
def impl_Group_46.B5 : List Nat := [0, 0, 0, 6, 14, 0, 63, 127]
theorem impl_Group_46.tab5 : rtab .any (opsOf Try.f46 5) = impl_Group_46.T5 := by kernel_rfl
theorem impl_Group_46.bits5 : waitsOk impl_Group_46.T5.2 impl_Group_46.B5 = true := by kernel_rfl
def impl_Group_46.T8 : Bool × List (List Nat × List Nat) := (true, [([], []), ([], []), ([], []), ([1, 2], [1, 2]), ([3], [3]), ([4], [4]), ([4], [4]), ([4], [4]), ([6, 7, 4], [4, 6, 7]), ([8, 4], [4, 8]), ([4], [4]), ([5, 9, 10, 4, 4], [4, 5, 9, 10]), ([11, 4], [4, 11]), ([4, 12], [4, 12]), ([0, 11, 0], [0]), ([13, 14, 0, 1, 2, 3, 4, 5, 6, 7, 8, 9, 10, 11, 12, 13, 14], [13])])
def impl_Group_46.B8 : List Nat := [0, 0, 0, 6, 14, 30, 30, 30, 222, 478, 30, 2046, 4094, 8190, 4095, 32767]
theorem impl_Group_46.tab8 : rtab .any (opsOf Try.f46 8) = impl_Group_46.T8 := by kernel_rfl
theorem impl_Group_46.bits8 : waitsOk impl_Group_46.T8.2 impl_Group_46.B8 = true := by kernel_rfl
set_option maxHeartbeats 8000000 in
set_option maxRecDepth 100000 in
theorem impl_Group_46.calls (k : Nat) (A0 : Option Addr) (c0 : Nat) (l0 : List (S25)) (a1_0 : ByteArray) (a1_1 : Int) (a2 : Int) (r1 : Int) (r2 : Bool) (w : World) (hr0 : Kd.C k25 w A0 l0.length l0) (hc0 : l0.length ≤ c0) (h : impl_Group_46.f k l0 a1_0 a1_1 a2 = some (r1, r2)) :
  Calls Try.prog 46 #[.slice A0 l0.length c0, .agg #[.string a1_0, .int .i64 a1_1], .func (.func 47) #[] #[]] w fun e w' => e = .returned (.tuple #[.int .i64 r1, .bool r2]) ∧ Below w.heap.size w w' := by
 have hu25 := Try.underlying25
 have HR0 := Aside0.mk hr0
 have HC0 := Aside0.mk hc0
 clear hr0 hc0
 have HB := Aside0.mk (Below.refl w.heap.size w)
 have H : (impl_Group_46.l0 k l0 (l0.length : Int) 0 (l0.length : Int) a1_0 a1_1) = some (r1, r2) := h
 clear h
 have H' := Aside0.mk H
 clear H
 go_enter Try.func46, Try.ntmps46
 go_wp2_with (first | ((with_reducible refine gate_dst (N := 4) rfl ?_); refine box_event ?hg (N := 4) ?hd (cs := #[.string a1_0, .int .i64 a1_1]) (t := 25) ?hr ?_; (case hd => rfl); (case hg => rfl); (case hr => first | (go_simp; done) | (go_simp; rfl)); intro gb202 hg w4 hbox hb; have BK202 := Aside0.mk (hbox); have GW202 := tge HB hg; have GE202 := tge HB hg; replace HB := tBs HB hb; clear hb hbox hg))
 go_loopg [9, 10] k (fun kq v9 v10 w' => ∃ (x9_1 : Int) (x10_1 : Int), v9 = .int .i64 x9_1 ∧ v10 = .int .i64 x10_1 ∧ Aside0 (impl_Group_46.l0 kq l0 (l0.length : Int) x9_1 x10_1 a1_0 a1_1 = some (r1, r2)) ∧ Aside0 (kq ≤ k) ∧ Aside0 (w'.heap[gb202]? = some (.cells #[.string a1_0, .int .i64 a1_1] 25 (0, 0))) ∧ Aside0 (Below w.heap.size w w'))
 case atStart => exact ⟨(0), ((l0.length : Int)), tr, tr, H', ⟨Nat.le_refl _⟩, ⟨tH BK202.out⟩, ⟨zb⟩⟩
 case round =>
  clear H'
  obtain ⟨x9_1, x10_1, rfl, rfl, HA, HK1, BK202, HB⟩ := hrel
  cases gk with
  | zero => exact absurd HA.out (by simp [impl_Group_46.l0])
  | succ k1 =>
   have H := HA.out
   clear HA
   simp only [impl_Group_46.l0] at H
   by_cases c5 : x9_1 < x10_1
   ·rw [if_pos c5] at H
    have c5b0 : decide (x9_1 < x10_1) = true := decide_eq_true c5
    clear c5
    obtain ⟨ji6, hji6⟩ : ∃ j_ : Int, (wrap64 ((IntKind.u64.wrap (wrap64 (x9_1 + x10_1))) / 2)) = j_ := ⟨_, rfl⟩
    replace H : (if 0 ≤ (ji6) then (if (ji6) < (l0.length : Int) then ((impl_members_put_1.f ((rd_T25 l0 (ji6)).f0) ((rd_T25 l0 (ji6)).f1) a1_0 a1_1).bind fun t204 => (if t204 < 0 then (impl_Group_46.l0 k1 l0 (l0.length : Int) (wrap64 ((ji6) + 1)) x10_1 a1_0 a1_1) else (impl_Group_46.l0 k1 l0 (l0.length : Int) x9_1 ji6 a1_0 a1_1))) else (none)) else (none)) = some (r1, r2) := by first | (rw [hji6] at H; exact H) | (simp only [hji6] at H ⊢; exact H)
    have hji6w : (IntKind.i64.wrap ((IntKind.u64.wrap (wrap64 (x9_1 + x10_1))) / 2)) = ji6 := (i64_w _).trans hji6
    by_cases c7 : 0 ≤ (ji6)
    ·rw [if_pos c7] at H
     have c7b0 : decide (0 ≤ (ji6)) = true := decide_eq_true c7
     clear c7
     by_cases c8 : (ji6) < (l0.length : Int)
     ·rw [if_pos c8] at H
      have c8b0 : decide ((ji6) < (l0.length : Int)) = true := decide_eq_true c8
      clear c8
      replace H := tbe H
      obtain ⟨t204, A9, H⟩ := H
      by_cases c10 : t204 < 0
      ·rw [if_pos c10] at H
       have c10b0 : decide (t204 < 0) = true := decide_eq_true c10
       clear c10
       have H' := Aside0.mk H
       clear H
       try go_wp2
       replace BK202 := Aside0.mk (blk_drew BK202.out)
       replace HB := Aside0.mk (below_drew1 HB.out)
       have p203 : 0 ≤ ((ji6) : Int) := td
       have q203 : (ji6) < (l0.length : Int) := td
       obtain ⟨ad203, e203, hx203_0, hx203_1⟩ := at_T25 HR0.out (ji6) p203 q203
       have hw203_1 := hx203_1
       have hw203_0 := hx203_0
       cases e203
       replace hx203_0 := tcl HB hx203_0
       replace hx203_1 := tcl HB hx203_1
       replace p203 := eq_true p203
       replace q203 := eq_true q203
       refine start_ (n := 8) (S := fun w' => w'.cell? ⟨gb202, 0, none⟩ = some (.string a1_0) ∧ w'.cell? ⟨gb202, 1, none⟩ = some (.int .i64 a1_1) ∧ w'.cell? (ad203.add (((ji6)).toNat * 2)) = some (.string ((rd_T25 l0 (ji6)).f0)) ∧ w'.cell? ⟨(ad203.add (((ji6)).toNat * 2)).block, (ad203.add (((ji6)).toNat * 2)).off + 1, none⟩ = some (.int .i64 ((rd_T25 l0 (ji6)).f1))) (ds := []) #[false, false, false, false, false, false, false, false] (by kernel_rfl) rfl rfl ⟨(blk_cell BK202.out 0).trans rfl, (blk_cell BK202.out 1).trans rfl, (tcl HB hw203_0), (tcl HB hw203_1)⟩ (fun hHeld => ?_); refine with_tabW impl_Group_46.tab5 impl_Group_46.bits5 (fun HT_ HW_ => ?_)
       generalize wr.drew = w11 at BK202 HB hx203_0 hx203_1 hHeld ⊢
       refine tpu 0 (some 24) #[true, false, false, false, false, false, false, false] ?_
       refine tpu 1 (some 25) #[true, true, false, false, false, false, false, false] ?_
       refine tpu 2 (some 26) #[true, true, true, false, false, false, false, false] ?_
       refine tpu 3 (some 27) #[true, true, true, true, false, false, false, false] ?_
       refine tta 4 (some 28) #[true, true, true, true, true, false, false, false] hHeld ?_ (hy := by rintro w' ⟨s0, s1, s2, s3⟩; go_simp; with_reducible rfl)
       refine tta 5 (some 29) #[true, true, true, true, true, true, false, false] hHeld ?_ (hy := by rintro w' ⟨s0, s1, s2, s3⟩; go_simp; with_reducible rfl)
       refine one_ (i := 6) (N := some 30) #[true, true, true, true, true, true, true, false] rfl rfl (one_of HT_.out (by kernel_rfl)) (by decide) (fun K hK => ?_)
       refine goesM_ 24 rfl Try.func47 (by kernel_rfl) rfl #[.agg #[.string ((rd_T25 l0 (ji6)).f0), .int .i64 ((rd_T25 l0 (ji6)).f1)], .agg #[.string a1_0, .int .i64 a1_1]] (by rfl) rfl rfl (by (try simp only [List.map_toArray, List.map_cons, List.map_nil]); first | done | (simp only [hji6]; rfl) | rfl | (simp only [List.length_drop, List.length_take]; rfl)) ?_
       with_reducible refine (impl_members_put_1.calls ((rd_T25 l0 (ji6)).f0) ((rd_T25 l0 (ji6)).f1) a1_0 a1_1 t204 _ A9.out).mono ?_
       rintro e w12 ⟨rfl, hb⟩
       refine ⟨_, rfl, ?_⟩
       replace BK202 := tBb BK202 hb
       replace HB := tBs HB hb
       (try clear hb)
       (try clear hb2)
       (try clear hk)
       (try clear hi)
       refine hK.out _ _ ⟨(blk_cell BK202.out 0).trans rfl, (blk_cell BK202.out 1).trans rfl, (tcl HB hw203_0), (tcl HB hw203_1)⟩ (fun hHeld => ?_)
       clear hK K
       refine tnm (some 30) ?_
       refine tpu 7 (some 31) #[true, true, true, true, true, true, true, true] ?_
       refine done_ (done_of HT_.out (by kernel_rfl)) ?_
       try go_wp2
       go_roundg k1
       case measure => have := HK1.out; omega
       case rel => exact ⟨(wrap64 ((ji6) + 1)), (x10_1), (by first | rfl | (simp; done) | (simp only [← hji6] <;> (first | rfl | simp)) | (simp [*]; done)), tr, H', ⟨by have := HK1.out; omega⟩, ⟨tH BK202.out⟩, ⟨zb⟩⟩
      ·rw [if_neg c10] at H
       have c10b0 : decide (t204 < 0) = false := decide_eq_false c10
       clear c10
       have H' := Aside0.mk H
       clear H
       try go_wp2
       replace BK202 := Aside0.mk (blk_drew BK202.out)
       replace HB := Aside0.mk (below_drew1 HB.out)
       have p203 : 0 ≤ ((ji6) : Int) := td
       have q203 : (ji6) < (l0.length : Int) := td
       obtain ⟨ad203, e203, hx203_0, hx203_1⟩ := at_T25 HR0.out (ji6) p203 q203
       have hw203_1 := hx203_1
       have hw203_0 := hx203_0
       cases e203
       replace hx203_0 := tcl HB hx203_0
       replace hx203_1 := tcl HB hx203_1
       replace p203 := eq_true p203
       replace q203 := eq_true q203
       refine start_ (n := 8) (S := fun w' => w'.cell? ⟨gb202, 0, none⟩ = some (.string a1_0) ∧ w'.cell? ⟨gb202, 1, none⟩ = some (.int .i64 a1_1) ∧ w'.cell? (ad203.add (((ji6)).toNat * 2)) = some (.string ((rd_T25 l0 (ji6)).f0)) ∧ w'.cell? ⟨(ad203.add (((ji6)).toNat * 2)).block, (ad203.add (((ji6)).toNat * 2)).off + 1, none⟩ = some (.int .i64 ((rd_T25 l0 (ji6)).f1))) (ds := []) #[false, false, false, false, false, false, false, false] (by kernel_rfl) rfl rfl ⟨(blk_cell BK202.out 0).trans rfl, (blk_cell BK202.out 1).trans rfl, (tcl HB hw203_0), (tcl HB hw203_1)⟩ (fun hHeld => ?_); refine with_tabW impl_Group_46.tab5 impl_Group_46.bits5 (fun HT_ HW_ => ?_)
       generalize wr.drew = w13 at BK202 HB hx203_0 hx203_1 hHeld ⊢
       refine tpu 0 (some 24) #[true, false, false, false, false, false, false, false] ?_
       refine tpu 1 (some 25) #[true, true, false, false, false, false, false, false] ?_
       refine tpu 2 (some 26) #[true, true, true, false, false, false, false, false] ?_
       refine tpu 3 (some 27) #[true, true, true, true, false, false, false, false] ?_
       refine tta 4 (some 28) #[true, true, true, true, true, false, false, false] hHeld ?_ (hy := by rintro w' ⟨s0, s1, s2, s3⟩; go_simp; with_reducible rfl)
       refine tta 5 (some 29) #[true, true, true, true, true, true, false, false] hHeld ?_ (hy := by rintro w' ⟨s0, s1, s2, s3⟩; go_simp; with_reducible rfl)
       refine one_ (i := 6) (N := some 30) #[true, true, true, true, true, true, true, false] rfl rfl (one_of HT_.out (by kernel_rfl)) (by decide) (fun K hK => ?_)
       refine goesM_ 24 rfl Try.func47 (by kernel_rfl) rfl #[.agg #[.string ((rd_T25 l0 (ji6)).f0), .int .i64 ((rd_T25 l0 (ji6)).f1)], .agg #[.string a1_0, .int .i64 a1_1]] (by rfl) rfl rfl (by (try simp only [List.map_toArray, List.map_cons, List.map_nil]); first | done | (simp only [hji6]; rfl) | rfl | (simp only [List.length_drop, List.length_take]; rfl)) ?_
       with_reducible refine (impl_members_put_1.calls ((rd_T25 l0 (ji6)).f0) ((rd_T25 l0 (ji6)).f1) a1_0 a1_1 t204 _ A9.out).mono ?_
       rintro e w14 ⟨rfl, hb⟩
       refine ⟨_, rfl, ?_⟩
       replace BK202 := tBb BK202 hb
       replace HB := tBs HB hb
       (try clear hb)
       (try clear hb2)
       (try clear hk)
       (try clear hi)
       refine hK.out _ _ ⟨(blk_cell BK202.out 0).trans rfl, (blk_cell BK202.out 1).trans rfl, (tcl HB hw203_0), (tcl HB hw203_1)⟩ (fun hHeld => ?_)
       clear hK K
       refine tnm (some 30) ?_
       refine tpu 7 (some 31) #[true, true, true, true, true, true, true, true] ?_
       refine done_ (done_of HT_.out (by kernel_rfl)) ?_
       try go_wp2
       go_roundg k1
       case measure => have := HK1.out; omega
       case rel => exact ⟨(x9_1), (ji6), tr, (by first | rfl | (simp; done) | (simp only [← hji6] <;> (first | rfl | simp)) | (simp [*]; done)), H', ⟨by have := HK1.out; omega⟩, ⟨tH BK202.out⟩, ⟨zb⟩⟩
     ·rw [if_neg c8] at H
      exact absurd H (by simp)
    ·rw [if_neg c7] at H
     exact absurd H (by simp)
   ·rw [if_neg c5] at H
    have c5b0 : decide (x9_1 < x10_1) = false := decide_eq_false c5
    clear c5
    by_cases c15 : x9_1 < (l0.length : Int)
    ·rw [if_pos c15] at H
     have c15b0 : decide (x9_1 < (l0.length : Int)) = true := decide_eq_true c15
     clear c15
     by_cases c16 : 0 ≤ x9_1
     ·rw [if_pos c16] at H
      have c16b0 : decide (0 ≤ x9_1) = true := decide_eq_true c16
      clear c16
      by_cases c17 : x9_1 < (l0.length : Int)
      ·rw [if_pos c17] at H
       have c17b0 : decide (x9_1 < (l0.length : Int)) = true := decide_eq_true c17
       clear c17
       replace H := tbe H
       obtain ⟨t206, A18, H⟩ := H
       simp only [Option.some.injEq, Prod.mk.injEq] at H
       obtain ⟨rfl, rfl⟩ := H
       try go_wp2
       replace BK202 := Aside0.mk (blk_drew BK202.out)
       replace HB := Aside0.mk (below_drew1 HB.out)
       have p205 : 0 ≤ (x9_1 : Int) := td
       have q205 : x9_1 < (l0.length : Int) := td
       obtain ⟨ad205, e205, hx205_0, hx205_1⟩ := at_T25 HR0.out x9_1 p205 q205
       have hw205_1 := hx205_1
       have hw205_0 := hx205_0
       cases e205
       replace hx205_0 := tcl HB hx205_0
       replace hx205_1 := tcl HB hx205_1
       replace p205 := eq_true p205
       replace q205 := eq_true q205
       refine start_ (n := 16) (S := fun w' => w'.cell? ⟨gb202, 0, none⟩ = some (.string a1_0) ∧ w'.cell? ⟨gb202, 1, none⟩ = some (.int .i64 a1_1) ∧ w'.cell? (ad205.add ((x9_1).toNat * 2)) = some (.string ((rd_T25 l0 x9_1).f0)) ∧ w'.cell? ⟨(ad205.add ((x9_1).toNat * 2)).block, (ad205.add ((x9_1).toNat * 2)).off + 1, none⟩ = some (.int .i64 ((rd_T25 l0 x9_1).f1))) (ds := []) #[false, false, false, false, false, false, false, false, false, false, false, false, false, false, false, false] (by kernel_rfl) rfl rfl ⟨(blk_cell BK202.out 0).trans rfl, (blk_cell BK202.out 1).trans rfl, (tcl HB hw205_0), (tcl HB hw205_1)⟩ (fun hHeld => ?_); refine with_tabW impl_Group_46.tab8 impl_Group_46.bits8 (fun HT_ HW_ => ?_)
       generalize wr.drew = w19 at BK202 HB hx205_0 hx205_1 hHeld ⊢
       refine tpu 0 (some 35) #[true, false, false, false, false, false, false, false, false, false, false, false, false, false, false, false] ?_
       refine tpu 1 (some 36) #[true, true, false, false, false, false, false, false, false, false, false, false, false, false, false, false] ?_
       refine tpu 2 (some 37) #[true, true, true, false, false, false, false, false, false, false, false, false, false, false, false, false] ?_
       refine tpu 3 (some 38) #[true, true, true, true, false, false, false, false, false, false, false, false, false, false, false, false] ?_
       refine tpu 4 (some 39) #[true, true, true, true, true, false, false, false, false, false, false, false, false, false, false, false] ?_
       refine tpu 5 (some 40) #[true, true, true, true, true, true, false, false, false, false, false, false, false, false, false, false] ?_
       refine tpu 6 (some 41) #[true, true, true, true, true, true, true, false, false, false, false, false, false, false, false, false] ?_
       refine tpu 7 (some 42) #[true, true, true, true, true, true, true, true, false, false, false, false, false, false, false, false] ?_
       refine tpu 8 (some 43) #[true, true, true, true, true, true, true, true, true, false, false, false, false, false, false, false] ?_
       refine tta 9 (some 44) #[true, true, true, true, true, true, true, true, true, true, false, false, false, false, false, false] hHeld ?_ (hy := by rintro w' ⟨s0, s1, s2, s3⟩; go_simp; with_reducible rfl)
       refine tta 10 (some 45) #[true, true, true, true, true, true, true, true, true, true, true, false, false, false, false, false] hHeld ?_ (hy := by rintro w' ⟨s0, s1, s2, s3⟩; go_simp; with_reducible rfl)
       refine one_ (i := 11) (N := some 46) #[true, true, true, true, true, true, true, true, true, true, true, true, false, false, false, false] rfl rfl (one_of HT_.out (by kernel_rfl)) (by decide) (fun K hK => ?_)
       refine goesM_ 40 rfl Try.func47 (by kernel_rfl) rfl #[.agg #[.string ((rd_T25 l0 x9_1).f0), .int .i64 ((rd_T25 l0 x9_1).f1)], .agg #[.string a1_0, .int .i64 a1_1]] (by rfl) rfl rfl tq ?_
       with_reducible refine (impl_members_put_1.calls ((rd_T25 l0 x9_1).f0) ((rd_T25 l0 x9_1).f1) a1_0 a1_1 t206 _ A18.out).mono ?_
       rintro e w20 ⟨rfl, hb⟩
       refine ⟨_, rfl, ?_⟩
       replace BK202 := tBb BK202 hb
       replace HB := tBs HB hb
       (try clear hb)
       (try clear hb2)
       (try clear hk)
       (try clear hi)
       refine hK.out _ _ ⟨(blk_cell BK202.out 0).trans rfl, (blk_cell BK202.out 1).trans rfl, (tcl HB hw205_0), (tcl HB hw205_1)⟩ (fun hHeld => ?_)
       clear hK K
       refine tnm (some 46) ?_
       refine tpu 12 (some 47) #[true, true, true, true, true, true, true, true, true, true, true, true, true, false, false, false] ?_
       refine tpu 13 (some 48) #[true, true, true, true, true, true, true, true, true, true, true, true, true, true, false, false] ?_
       refine tpu 14 (some 6) #[true, true, true, true, true, true, true, true, true, true, true, true, true, true, true, false] ?_
       refine tpu 15 (some 7) #[true, true, true, true, true, true, true, true, true, true, true, true, true, true, true, true] ?_
       refine done_ (done_of HT_.out (by kernel_rfl)) ?_
       try go_wp2
       go_ret2
       exact ⟨by first | rfl | (simp [errW_none, errW_some] <;> rfl) | (simp [*, errW_none, errW_some] <;> rfl), zb⟩
      ·rw [if_neg c17] at H
       exact absurd H (by simp)
     ·rw [if_neg c16] at H
      exact absurd H (by simp)
    ·rw [if_neg c15] at H
     have c15b0 : decide (x9_1 < (l0.length : Int)) = false := decide_eq_false c15
     clear c15
     simp only [Option.some.injEq, Prod.mk.injEq] at H
     obtain ⟨rfl, rfl⟩ := H
     try go_wp2
     replace BK202 := Aside0.mk (blk_drew BK202.out)
     replace HB := Aside0.mk (below_drew1 HB.out)
     refine start_ (n := 16) (S := fun w' => True) (ds := []) #[false, false, false, false, false, false, false, false, false, false, false, false, false, false, false, false] (by kernel_rfl) rfl rfl trivial (fun hHeld => ?_); refine with_tabW impl_Group_46.tab8 impl_Group_46.bits8 (fun HT_ HW_ => ?_)
     generalize wr.drew = w21 at BK202 HB hHeld ⊢
     refine tpu 0 (some 35) #[true, false, false, false, false, false, false, false, false, false, false, false, false, false, false, false] ?_
     refine tpu 1 (some 36) #[true, true, false, false, false, false, false, false, false, false, false, false, false, false, false, false] ?_
     refine tpu 2 (some 37) #[true, true, true, false, false, false, false, false, false, false, false, false, false, false, false, false] ?_
     refine tpu 3 (some 38) #[true, true, true, true, false, false, false, false, false, false, false, false, false, false, false, false] ?_
     refine tpu 4 (some 39) #[true, true, true, true, true, false, false, false, false, false, false, false, false, false, false, false] ?_
     refine pure_ (i := 5) (N := some 40) (v := undef) (a' := ?_) #[true, true, true, true, true, true, false, false, false, false, false, false, false, false, false, false] rfl rfl (any_of HT_.out (by kernel_rfl)) (fun _ _ _ h => h) (Or.inr ⟨by rfl, rfl⟩) ?_ ?_
     rotate_left
     ·simp only [Act.put, List.setIfInBounds_toArray, List.set_cons_zero, List.set_cons_succ, i64_w, i32_w]
      rfl
     refine pure_ (i := 6) (N := some 41) (v := undef) (a' := ?_) #[true, true, true, true, true, true, true, false, false, false, false, false, false, false, false, false] rfl rfl (any_of HT_.out (by kernel_rfl)) (fun _ _ _ h => h) (Or.inr ⟨by rfl, rfl⟩) ?_ ?_
     rotate_left
     ·simp only [Act.put, List.setIfInBounds_toArray, List.set_cons_zero, List.set_cons_succ, i64_w, i32_w]
      rfl
     refine pure_ (i := 7) (N := some 42) (v := undef) (a' := ?_) #[true, true, true, true, true, true, true, true, false, false, false, false, false, false, false, false] rfl rfl (any_of HT_.out (by kernel_rfl)) (fun _ _ _ h => h) (Or.inr ⟨by rfl, rfl⟩) ?_ ?_
     rotate_left
     ·simp only [Act.put, List.setIfInBounds_toArray, List.set_cons_zero, List.set_cons_succ, i64_w, i32_w]
      rfl
     refine pure_ (i := 8) (N := some 43) (v := undef) (a' := ?_) #[true, true, true, true, true, true, true, true, true, false, false, false, false, false, false, false] rfl rfl (any_of HT_.out (by kernel_rfl)) (fun _ _ _ h => h) (Or.inr ⟨by rfl, rfl⟩) ?_ ?_
     rotate_left
     ·simp only [Act.put, List.setIfInBounds_toArray, List.set_cons_zero, List.set_cons_succ, i64_w, i32_w]
      rfl
     refine pure_ (i := 9) (N := some 44) (v := undef) (a' := ?_) #[true, true, true, true, true, true, true, true, true, true, false, false, false, false, false, false] rfl rfl (any_of HT_.out (by kernel_rfl)) (fun _ _ _ h => h) (Or.inr ⟨by rfl, rfl⟩) ?_ ?_
     rotate_left
     ·simp only [Act.put, List.setIfInBounds_toArray, List.set_cons_zero, List.set_cons_succ, i64_w, i32_w]
      rfl
     refine pure_ (i := 10) (N := some 45) (v := undef) (a' := ?_) #[true, true, true, true, true, true, true, true, true, true, true, false, false, false, false, false] rfl rfl (any_of HT_.out (by kernel_rfl)) (fun _ _ _ h => h) (Or.inr ⟨by rfl, rfl⟩) ?_ ?_
     rotate_left
     ·simp only [Act.put, List.setIfInBounds_toArray, List.set_cons_zero, List.set_cons_succ, i64_w, i32_w]
      rfl
     refine pure_ (i := 11) (N := some 46) (v := undef) (a' := ?_) #[true, true, true, true, true, true, true, true, true, true, true, true, false, false, false, false] rfl rfl (any_of HT_.out (by kernel_rfl)) (fun _ _ _ h => h) (Or.inr ⟨by rfl, rfl⟩) ?_ ?_
     rotate_left
     ·simp only [Act.put, List.setIfInBounds_toArray, List.set_cons_zero, List.set_cons_succ, i64_w, i32_w]
      rfl
     refine pure_ (i := 12) (N := some 47) (v := undef) (a' := ?_) #[true, true, true, true, true, true, true, true, true, true, true, true, true, false, false, false] rfl rfl (any_of HT_.out (by kernel_rfl)) (fun _ _ _ h => h) (Or.inr ⟨by rfl, rfl⟩) ?_ ?_
     rotate_left
     ·simp only [Act.put, List.setIfInBounds_toArray, List.set_cons_zero, List.set_cons_succ, i64_w, i32_w]
      rfl
     refine tpu 13 (some 48) #[true, true, true, true, true, true, true, true, true, true, true, true, true, true, false, false] ?_
     refine tpu 14 (some 6) #[true, true, true, true, true, true, true, true, true, true, true, true, true, true, true, false] ?_
     refine tpu 15 (some 7) #[true, true, true, true, true, true, true, true, true, true, true, true, true, true, true, true] ?_
     refine done_ (done_of HT_.out (by kernel_rfl)) ?_
     try go_wp2
     go_ret2
     exact ⟨by first | rfl | (simp [errW_none, errW_some] <;> rfl) | (simp [*, errW_none, errW_some] <;> rfl), zb⟩

end Go.Proofs.Ytkihdohphddjaaa.G

namespace Go.Proofs.Ytkihdohphddjaaa.G
open Go.RowKit Go.MuLone Go.Proofs.YtkihdohphddjaaaW.PrintWords Go.Proofs.YtkihdohphddjaaaW.PrintLast Go.Proofs.YtkihdohphddjaaaW.PrintMore
set_option linter.unusedVariables false
set_option linter.unusedSimpArgs false
def bsG (k : Nat) (l : List S25) (g : S25) : Option (Int × Bool) := impl_Group_46.f k l g.f0 g.f1 0
def putL (l : List S25) (g : S25) (i : Int) (found : Bool) : List S25 := if found = true then l.set i.toNat g else insL l i.toNat g
/-- A walk that never panics: what is asked of a panic is False. -/
def noPanic (Q : Exit → Act → World → Prop) : Exit → Act → World → Prop
  | .panic _, _, _ => False
  | e, a, w => Q e a w
theorem noPanic_imp {Q : Exit → Act → World → Prop} : ∀ e a w, noPanic Q e a w → Q e a w := by
  intro e a w h
  cases e <;> first | exact h | exact h.elim
/-- A store in a region whose order is drawn. -/
theorem skip_step {P : Program} {ops : Array Oper} {Q : Exit → Act → World → Prop} {o : Oper} {a : Act} {W w1 : World} {Kc : Act → World → Prop} {E : Prop} (hw : Region.wanted o (yielded ops a.tmps) = true) (hN : o.dst = none) (hrun : (execOp a.eval o).run P W = .ok .skip w1) (h : Kc a w1) : if Region.wanted o (yielded ops a.tmps) = true then Oper.wp P o a W Kc Q else E := by
  rw [if_pos hw]
  unfold Oper.wp
  rw [hrun]
  show Kc (a.put o.dst undef) w1
  rw [hN]
  exact h
def put_T3 : Bool × List (List Nat × List Nat) := (true, [([], []), ([0], [0]), ([1], [1]), ([2], [2]), ([], []), ([3, 4], [3, 4]), ([5], [5]), ([6], [6]), ([6], [6]), ([7, 5, 0, 1, 2, 3, 4, 5, 6, 7], [7]), ([8, 9, 0, 1, 2, 3, 4, 5, 6, 7, 8, 9], [8])])
def put_B3 : List Nat := [0, 1, 3, 7, 0, 31, 63, 127, 127, 255, 1023]
theorem put_tab3 : rtab .any (opsOf Try.f30 3) = put_T3 := by kernel_rfl
theorem put_bits3 : waitsOk put_T3.2 put_B3 = true := by kernel_rfl
def put_T5 : Bool × List (List Nat × List Nat) := (true, [([], []), ([0], [0]), ([1], [1]), ([2], [2]), ([], []), ([], []), ([3, 4, 0, 1, 2, 3, 4, 5], [3, 4]), ([6, 5, 0, 1, 2, 3, 4, 5], [5, 6])])
def put_B5 : List Nat := [0, 1, 3, 7, 0, 0, 63, 127]
theorem put_tab5 : rtab .any (opsOf Try.f30 5) = put_T5 := by kernel_rfl
theorem put_bits5 : waitsOk put_T5.2 put_B5 = true := by kernel_rfl
def put_T6 : Bool × List (List Nat × List Nat) := (true, [([], []), ([], []), ([1], [1]), ([2], [2]), ([3], [3]), ([], []), ([], []), ([6], [6]), ([4, 5, 7], [4, 5, 7]), ([0, 0, 1, 2, 3, 4, 5, 6, 7, 8], [0]), ([9, 0, 1, 2, 3, 4, 5, 6, 7, 8], [9]), ([10, 8, 8, 0, 1, 2, 3, 4, 5, 6, 7, 8], [8, 10])])
def put_B6 : List Nat := [0, 0, 2, 6, 14, 0, 0, 64, 254, 511, 1023, 2047]
theorem put_tab6 : rtab .any (opsOf Try.f30 6) = put_T6 := by kernel_rfl
theorem put_bits6 : waitsOk put_T6.2 put_B6 = true := by kernel_rfl
set_option maxHeartbeats 4000000 in
set_option maxRecDepth 100000 in
theorem put_calls (k : Nat) {W : World} {base mb : Nat} {v : Value} {l : List S25} (g : S25) (i : Int) (found : Bool) (hl : l.length ≤ 1048576) (hm : W.heap[mb]? = some (.cells #[.int .i32 0, .int .u32 0, v] 65 (0, 0))) (hmb : base ≤ mb)
    (hR : Kd.R k25 25 W base (fun k => k ≠ mb) v l) (hbase : base ≤ W.heap.size) (hbs : bsG k l g = some (i, found)) (hi0 : 0 ≤ i) (hi1 : i ≤ l.length) (hi2 : found = true → i < l.length) :
    Calls Try.prog 30 #[.pointer (some ⟨mb, 0, none⟩), .agg #[.string g.f0, .int .i64 g.f1]] W fun e w' => e = .returned (.tuple #[]) ∧ ∃ v1, w'.heap[mb]? = some (.cells #[.int .i32 0, .int .u32 0, v1] 65 (0, 0)) ∧
      Kd.R k25 25 w' base (fun k => k ≠ mb) v1 (putL l g i found) ∧ Below base W w' := by
  have hmlt : mb < W.heap.size := blk_lt hm
  obtain ⟨A, c, hvv⟩ : ∃ A c, v = .slice A l.length c := by
    rcases gR_open hR with ⟨h1, h2⟩ | ⟨b, c, cur, h1, _⟩
    · exact ⟨none, 0, by rw [h1, h2]; rfl⟩
    · exact ⟨_, _, h1⟩
  subst hvv
  have hgb : W.heap.size < (W.alloc (.cells #[.string g.f0, .int .i64 g.f1] 25)).heap.size := by
    show _ < (W.heap.push _).size
    simp
  go_enter_defers Try.func30, Try.ntmps30
  refine Code.wp_mono noPanic_imp ?_
  go_wp2_with (go_at_call 44; refine (lock_free muLib ⟨mb, 0, none⟩ _ (blk_cell (blk_alloc hm _) 0) (blk_frozen (blk_alloc hm _) 0)).mono ?_; rintro e w' ⟨rfl, rfl⟩)
  obtain ⟨gb, hgb⟩ : ∃ gb, gb = W.heap.size := ⟨_, rfl⟩
  obtain ⟨w1, hw1⟩ : ∃ w1, w1 = ((W.setCell ⟨mb, 0, none⟩ (.int .i32 1)).alloc (.cells #[.string g.f0, .int .i64 g.f1] 25)) := ⟨_, rfl⟩
  rw [← hw1, ← hgb]
  have H1 := Aside0.mk (show w1.heap[mb]? = some (.cells #[.int .i32 1, .int .u32 0, .slice A l.length c] 65 (0, 0)) from by rw [hw1]; exact blk_alloc (blk_put hm 0 _ rfl) _)
  have G1 := Aside0.mk (show w1.heap[gb]? = some (.cells #[.string g.f0, .int .i64 g.f1] 25 (0, 0)) from by
    rw [hw1, hgb]
    show ((W.setCell ⟨mb, 0, none⟩ (.int .i32 1)).heap.push _)[W.heap.size]? = _
    rw [show W.heap.size = (W.setCell ⟨mb, 0, none⟩ (.int .i32 1)).heap.size by simp [World.setCell]]
    exact Array.getElem?_push_size)
  have R1 := Aside0.mk (show Kd.R k25 25 w1 base (fun k => k ≠ mb) (.slice A l.length c) l from by rw [hw1]; exact Kd.R_alloc (Kd.R_set hR hm (by decide) 0 _) _)
  have B1 := Aside0.mk (show Below base W w1 from by rw [hw1]; exact Below.alloc (Below.setCell (p := ⟨mb, 0, none⟩) (Below.refl base W) hmb _) (by simpa [World.setCell] using hbase) _)
  have N1 := Aside0.mk (show some gb ≠ (Value.slice A l.length c).ownBlock from fun e => by
    obtain ⟨cs, hcs⟩ := Kd.R_typed hR gb e.symm
    have := blk_lt hcs
    omega)
  have L1 := Aside0.mk (show base ≤ gb ∧ gb ≠ mb ∧ mb < w1.heap.size from ⟨by omega, by omega, blk_lt H1.out⟩)
  clear hR hm hbase hw1 hgb
  refine start_ (n := 11) (S := fun w' => w'.cell? ⟨gb, 0, none⟩ = some (.string g.f0) ∧ w'.cell? ⟨gb, 1, none⟩ = some (.int .i64 g.f1) ∧ w'.cell? ⟨mb, 2, none⟩ = some (.slice A l.length c)) (ds := []) #[false, false, false, false, false, false, false, false, false, false, false] (by kernel_rfl) rfl rfl ⟨(blk_cell G1.out 0).trans rfl, (blk_cell G1.out 1).trans rfl, (blk_cell H1.out 2).trans rfl⟩ (fun hHeld => ?_); refine with_tabW put_tab3 put_bits3 (fun HT_ HW_ => ?_)
  refine tpu 0 (some 14) #[true, false, false, false, false, false, false, false, false, false, false] ?_
  refine tpu 1 (some 15) #[true, true, false, false, false, false, false, false, false, false, false] ?_
  refine tpu 2 (some 16) #[true, true, true, false, false, false, false, false, false, false, false] ?_
  refine tta 3 (some 17) #[true, true, true, true, false, false, false, false, false, false, false] hHeld ?_ (hy := by rintro w' ⟨s0, s1, s2⟩; go_simp; with_reducible rfl)
  refine tta 4 (some 18) #[true, true, true, true, true, false, false, false, false, false, false] hHeld ?_ (hy := by rintro w' ⟨s0, s1, s2⟩; go_simp; with_reducible rfl)
  refine one_ (i := 5) (N := some 19) #[true, true, true, true, true, true, false, false, false, false, false] rfl rfl (one_of HT_.out (by kernel_rfl)) (by decide) (fun K hK => ?_)
  refine goes_ Try.func46 (by kernel_rfl) rfl #[.slice A l.length c, .agg #[.string g.f0, .int .i64 g.f1], .func (.func 47) #[] #[]] (by rfl) rfl rfl (by simp only [List.map_toArray, List.map_cons, List.map_nil]; rfl) ?_
  refine (impl_Group_46.calls k A c l g.f0 g.f1 0 i found _ (Kd.R_reads' (Kd.R_drew R1.out)).2.2 (Kd.R_reads' R1.out).2.1 hbs).mono ?_
  rintro e w2 ⟨rfl, hb2⟩
  refine ⟨_, rfl, ?_⟩
  have hb2' : Below w1.heap.size w1.drew w2 := hb2
  have H2 := Aside0.mk (show w2.heap[mb]? = some (.cells #[.int .i32 1, .int .u32 0, .slice A l.length c] 65 (0, 0)) from (hb2'.block mb (blk_lt H1.out)).trans H1.out)
  have G2 := Aside0.mk (show w2.heap[gb]? = some (.cells #[.string g.f0, .int .i64 g.f1] 25 (0, 0)) from (hb2'.block gb (blk_lt G1.out)).trans G1.out)
  have R2 := Aside0.mk (show Kd.R k25 25 w2 base (fun k => k ≠ mb) (.slice A l.length c) l from Kd.R_below (Kd.R_drew R1.out) hb2)
  have B2 := Aside0.mk (show Below base W w2 from below_then B1.out.drew (Nat.le_trans hmb (Nat.le_of_lt L1.out.2.2)) hb2)
  have L2 := Aside0.mk (show mb < w2.heap.size from blk_lt H2.out)
  clear hb2 hb2' H1 G1 R1 B1
  refine hK.out _ _ ⟨(blk_cell G2.out 0).trans rfl, (blk_cell G2.out 1).trans rfl, (blk_cell H2.out 2).trans rfl⟩ (fun hHeld => ?_)
  clear hK K
  refine tnm (some 19) ?_
  refine tpu 6 (some 13) #[true, true, true, true, true, true, true, false, false, false, false] ?_
  refine tpu 7 (some 20) #[true, true, true, true, true, true, true, true, false, false, false] ?_
  refine tpu 8 (some 21) #[true, true, true, true, true, true, true, true, true, false, false] ?_
  refine tpu 9 (some 4) #[true, true, true, true, true, true, true, true, true, true, false] ?_
  refine tpu 10 (some 5) #[true, true, true, true, true, true, true, true, true, true, true] ?_
  refine done_ (done_of HT_.out (by kernel_rfl)) ?_
  clear HT_ HW_ hHeld
  cases found with
  | true =>
    have hit := hi2 rfl
    go_wp2
    rcases gR_open R2.out with ⟨_, h2⟩ | ⟨b, c', cur, hbv, hok, hbb, hh, hnc, hcm, hcs, htk⟩
    · rw [h2] at hit
      exact absurd hit (by simp; omega)
    injection hbv with hA hn_ hc_
    subst hA
    subst hc_
    clear hn_
    have hbm : b ≠ mb := hok
    have p2 : 0 ≤ i := hi0
    have q2 : i < (l.length : Int) := hit
    have hT : i.toNat < l.length := by omega
    have HB2 := Aside0.mk hh
    have HX := Aside0.mk (show hcs = hcs from rfl)
    have hx0 : ∃ u, w2.drew.cell? ⟨b, i.toNat * 2, none⟩ = some u := ⟨cur[i.toNat * 2]'(by omega), by rw [blk_cell (w := w2.drew) hh, Array.getElem?_eq_getElem (by omega)]⟩
    have hx1 : ∃ u, w2.drew.cell? ⟨b, i.toNat * 2 + 1, none⟩ = some u := ⟨cur[i.toNat * 2 + 1]'(by omega), by rw [blk_cell (w := w2.drew) hh, Array.getElem?_eq_getElem (by omega)]⟩
    obtain ⟨u0, hx0⟩ := hx0
    obtain ⟨u1, hx1⟩ := hx1
    have hf0 : w2.drew.frozen? ⟨b, i.toNat * 2, none⟩ = false := blk_frozen (w := w2.drew) hh _
    have hf1 : w2.drew.frozen? ⟨b, i.toNat * 2 + 1, none⟩ = false := blk_frozen (w := w2.drew) hh _
    replace p2 := eq_true p2
    replace q2 := eq_true q2
    refine start_ (n := 8) (S := fun w' => w'.cell? ⟨gb, 0, none⟩ = some (.string g.f0) ∧ w'.cell? ⟨gb, 1, none⟩ = some (.int .i64 g.f1) ∧ w'.cell? ⟨mb, 2, none⟩ = some (.slice (some ⟨b, 0, none⟩) l.length c)) (ds := []) #[false, false, false, false, false, false, false, false] (by kernel_rfl) rfl rfl ⟨(blk_cell G2.out 0).trans rfl, (blk_cell G2.out 1).trans rfl, (blk_cell H2.out 2).trans rfl⟩ (fun hHeld => ?_); refine with_tabW put_tab5 put_bits5 (fun HT_ HW_ => ?_)
    generalize hw3 : w2.drew = w3 at hx0 hx1 hf0 hf1 hHeld ⊢
    refine tpu 0 (some 23) #[true, false, false, false, false, false, false, false] ?_
    refine tpu 1 (some 24) #[true, true, false, false, false, false, false, false] ?_
    refine tpu 2 (some 25) #[true, true, true, false, false, false, false, false] ?_
    refine tta 3 (some 26) #[true, true, true, true, false, false, false, false] hHeld ?_ (hy := by rintro w' ⟨s0, s1, s2⟩; go_simp; with_reducible rfl)
    refine tpu 4 (some 27) #[true, true, true, true, true, false, false, false] ?_
    refine tta 5 (some 28) #[true, true, true, true, true, true, false, false] hHeld ?_ (hy := by rintro w' ⟨s0, s1, s2⟩; go_simp; with_reducible rfl)
    refine tpu 6 (some 29) #[true, true, true, true, true, true, true, false] ?_
    refine one_ (i := 7) (N := none) #[true, true, true, true, true, true, true, true] rfl rfl (one_of HT_.out (by kernel_rfl)) (by decide) (fun K hK => ?_)
    refine skip_step (w1 := (w3.setCell ⟨b, i.toNat * 2, none⟩ (.string g.f0)).setCell ⟨b, i.toNat * 2 + 1, none⟩ (.int .i64 g.f1)) (by rfl) rfl ?hr ?_
    case hr => first | (go_simp; done) | (go_simp; rfl)
    subst hw3
    have hbg : b ≠ gb := fun e => N1.out (by rw [e]; rfl)
    obtain ⟨w6, hw6⟩ : ∃ w6, w6 = (w2.drew.setCell ⟨b, i.toNat * 2, none⟩ (.string g.f0)).setCell ⟨b, i.toNat * 2 + 1, none⟩ (.int .i64 g.f1) := ⟨_, rfl⟩
    rw [← hw6]
    have hfar : ∀ k, k ≠ b → w6.heap[k]? = w2.heap[k]? := fun k hk => by
      rw [hw6, Below.heap_setCell _ _ _ _ hk, Below.heap_setCell _ _ _ _ hk]
      rfl
    have H6 := Aside0.mk (show w6.heap[mb]? = some (.cells #[.int .i32 1, .int .u32 0, .slice (some ⟨b, 0, none⟩) l.length c] 65 (0, 0)) from (hfar mb (Ne.symm hbm)).trans H2.out)
    have G6 := Aside0.mk (show w6.heap[gb]? = some (.cells #[.string g.f0, .int .i64 g.f1] 25 (0, 0)) from (hfar gb (Ne.symm hbg)).trans G2.out)
    have B6 := Aside0.mk (show Below base W w6 from by rw [hw6]; exact Below.setCell (p := ⟨b, _, none⟩) (Below.setCell (p := ⟨b, _, none⟩) B2.out.drew hbb _) hbb _)
    have hb6 : w6.heap[b]? = some (.cells ((cur.setIfInBounds (i.toNat * 2) (.string g.f0)).setIfInBounds (i.toNat * 2 + 1) (.int .i64 g.f1)) 25 (0, 0)) := by
      rw [hw6]
      exact blk_set (blk_set (w := w2.drew) hh _ _) _ _
    have R6 := Aside0.mk (show Kd.R k25 25 w6 base (fun k => k ≠ mb) (.slice (some ⟨b, 0, none⟩) l.length c) (l.set i.toNat g) from by
      have := gR_mk (l := l.set i.toNat g) (ok := fun k => k ≠ mb) hbm hbb hb6 (by rw [List.length_set]; exact hnc) hcm (by rw [Array.size_setIfInBounds, Array.size_setIfInBounds]; exact hcs) (by
        rw [List.length_set, Array.toList_setIfInBounds, Array.toList_setIfInBounds, List.take_set, List.take_set, htk, enc2_set _ _ _ hT])
      rw [List.length_set] at this
      exact this)
    clear hw6 hfar hb6
    refine hK.out _ _ ⟨(blk_cell G6.out 0).trans rfl, (blk_cell G6.out 1).trans rfl, (blk_cell H6.out 2).trans rfl⟩ (fun hHeld => ?_)
    clear hK K
    refine done_ (done_of HT_.out (by kernel_rfl)) ?_
    clear HT_ HW_ hHeld
    try go_wp2
    show Leaves _ _ _ _ _ _ _
    refine leaves_cons (f := 45) (args := #[.pointer (some ⟨mb, 0, none⟩)]) (by simp) (by simp [go_sem]) ?_
    refine (unlock_deferred muLib ⟨mb, 0, none⟩ .returning _ ((blk_cell H6.out 0).trans rfl) (blk_frozen H6.out 0)).mono ?_
    rintro e u' w'' ⟨rfl, rfl, rfl⟩
    refine ⟨_, results_none rfl _ _ _, rfl, _, blk_put H6.out 0 _ rfl, ?_, Below.setCell (p := ⟨mb, 0, none⟩) B6.out hmb _⟩
    exact Kd.R_set R6.out H6.out (by decide) 0 _
  | false =>
    go_wp2
    have p2 : 0 ≤ i := hi0
    refine start_ (n := 12) (S := fun w' => w'.cell? ⟨gb, 0, none⟩ = some (.string g.f0) ∧ w'.cell? ⟨gb, 1, none⟩ = some (.int .i64 g.f1) ∧ w'.cell? ⟨mb, 2, none⟩ = some (.slice A l.length c)) (ds := [11]) #[false, false, false, false, false, false, false, false, false, false, false, false] (by kernel_rfl) rfl rfl ⟨(blk_cell G2.out 0).trans rfl, (blk_cell G2.out 1).trans rfl, (blk_cell H2.out 2).trans rfl⟩ (fun hHeld => ?_); refine with_tabW put_tab6 put_bits6 (fun HT_ HW_ => ?_)
    generalize hw3 : w2.drew = w3 at hHeld ⊢
    refine tpu 0 (some 30) #[true, false, false, false, false, false, false, false, false, false, false, false] ?_
    refine tpu 1 (some 31) #[true, true, false, false, false, false, false, false, false, false, false, false] ?_
    refine tpu 2 (some 32) #[true, true, true, false, false, false, false, false, false, false, false, false] ?_
    refine tpu 3 (some 33) #[true, true, true, true, false, false, false, false, false, false, false, false] ?_
    refine tta 4 (some 34) #[true, true, true, true, true, false, false, false, false, false, false, false] hHeld ?_ (hy := by rintro w' ⟨s0, s1, s2⟩; go_simp; with_reducible rfl)
    refine tpu 5 (some 35) #[true, true, true, true, true, true, false, false, false, false, false, false] ?_
    refine tta 6 (some 36) #[true, true, true, true, true, true, true, false, false, false, false, false] hHeld ?_ (hy := by rintro w' ⟨s0, s1, s2⟩; go_simp; with_reducible rfl)
    refine one_ (i := 7) (N := some 37) #[true, true, true, true, true, true, true, true, false, false, false, false] rfl rfl (one_of HT_.out (by kernel_rfl)) (by decide) (fun K hK => ?_)
    refine event_step (w1 := w3.alloc (.cells #[.string g.f0, .int .i64 g.f1] 25)) (v := .slice (some ⟨w3.heap.size, 0, none⟩) 1 1) (by rfl) ?hr ?_
    case hr => first | (go_simp; done) | (go_simp; rfl)
    obtain ⟨vb, hvb⟩ : ∃ vb, vb = w3.heap.size := ⟨_, rfl⟩
    obtain ⟨w4, hw4⟩ : ∃ w4, w4 = w3.alloc (.cells #[.string g.f0, .int .i64 g.f1] 25) := ⟨_, rfl⟩
    rw [← hw4, ← hvb]
    subst hw3
    have H4 := Aside0.mk (show w4.heap[mb]? = some (.cells #[.int .i32 1, .int .u32 0, .slice A l.length c] 65 (0, 0)) from by rw [hw4]; exact blk_alloc (w := w2.drew) H2.out _)
    have G4 := Aside0.mk (show w4.heap[gb]? = some (.cells #[.string g.f0, .int .i64 g.f1] 25 (0, 0)) from by rw [hw4]; exact blk_alloc (w := w2.drew) G2.out _)
    have V4 := Aside0.mk (show w4.heap[vb]? = some (.cells #[.string g.f0, .int .i64 g.f1] 25 (0, 0)) from by
      rw [hw4, hvb]
      show (w2.drew.heap.push _)[w2.drew.heap.size]? = _
      exact Array.getElem?_push_size)
    have R4 := Aside0.mk (show Kd.R k25 25 w4 base (fun k => k ≠ mb) (.slice A l.length c) l from by rw [hw4]; exact Kd.R_alloc (Kd.R_drew R2.out) _)
    have B4 := Aside0.mk (show Below base W w4 from by rw [hw4]; exact Below.alloc B2.out.drew (Nat.le_trans hmb (Nat.le_of_lt L2.out)) _)
    have N4 := Aside0.mk (show some vb ≠ (Value.slice A l.length c).ownBlock from fun e => by
      obtain ⟨cs, hcs⟩ := Kd.R_typed R2.out vb e.symm
      have h9 := blk_lt hcs
      have h8 : vb = w2.heap.size := hvb
      omega)
    have L4 := Aside0.mk (show base ≤ w4.heap.size ∧ mb < w4.heap.size from ⟨Nat.le_trans hmb (Nat.le_of_lt (blk_lt H4.out)), blk_lt H4.out⟩)
    clear hw4 hvb
    refine hK.out _ _ ⟨(blk_cell G4.out 0).trans rfl, (blk_cell G4.out 1).trans rfl, (blk_cell H4.out 2).trans rfl⟩ (fun hHeld => ?_)
    clear hK K
    refine tnm (some 37) ?_
    refine one_ (i := 8) (N := some 38) #[true, true, true, true, true, true, true, true, true, false, false, false] rfl rfl (one_of HT_.out (by kernel_rfl)) (by decide) (fun K hK => ?_)
    refine goes_ Try.func49 (by kernel_rfl) rfl #[.slice A l.length c, .int .i64 i, .slice (some ⟨vb, 0, none⟩) 1 1] (by rfl) rfl rfl (by simp only [List.map_toArray, List.map_cons, List.map_nil]; rfl) ?_
    rw [show (Value.int .i64 i) = .int .i64 (i.toNat : Int) by rw [Int.toNat_of_nonneg hi0]]
    refine (ins_calls (base := base) (ok := fun k => k ≠ mb) i.toNat (by omega) g vb (by omega) R4.out V4.out N4.out L4.out.1 (fun k hk => by have := L4.out.2; omega)).mono ?_
    rintro e w5 ⟨v1, rfl, hr5, hg5⟩
    refine ⟨_, rfl, ?_⟩
    obtain ⟨A1, c1, rfl⟩ := Kd.R_slice hr5
    have hnb : ∀ k cs t, w4.heap[k]? = some (Obj.cells cs t (0, 0)) → t ≠ 25 → w5.heap[k]? = w4.heap[k]? := fun k cs t hk ht => hg5.block k (blk_lt hk) (fun e => by
      obtain ⟨cs', hcs'⟩ := Kd.R_typed R4.out k e.symm
      rw [hk] at hcs'
      injection hcs' with hcs'
      injection hcs' with _ hcs'
      exact ht hcs')
    have H5 := Aside0.mk (show w5.heap[mb]? = some (.cells #[.int .i32 1, .int .u32 0, .slice A l.length c] 65 (0, 0)) from (hnb mb _ _ H4.out (by decide)).trans H4.out)
    have G5 := Aside0.mk (show w5.heap[gb]? = some (.cells #[.string g.f0, .int .i64 g.f1] 25 (0, 0)) from (hg5.block gb (blk_lt G4.out) N1.out).trans G4.out)
    have R5 := Aside0.mk hr5
    have B5 := Aside0.mk (show Below base W w5 from Below.grown B4.out hg5 L4.out.1 (fun k hk => Kd.R_base R4.out k hk))
    clear hr5 hg5 hnb
    refine hK.out _ _ ⟨(blk_cell G5.out 0).trans rfl, (blk_cell G5.out 1).trans rfl, (blk_cell H5.out 2).trans rfl⟩ (fun hHeld => ?_)
    clear hK K
    refine tnm (some 38) ?_
    refine tpu 9 (some 39) #[true, true, true, true, true, true, true, true, true, true, false, false] ?_
    refine tpu 10 (some 40) #[true, true, true, true, true, true, true, true, true, true, true, false] ?_
    refine last_ (i := 11) (N := none) #[true, true, true, true, true, true, true, true, true, true, true, true] rfl rfl (one_of HT_.out (by kernel_rfl)) (by decide) (fun K hK => ?_)
    have hx5 : w5.cell? ⟨mb, 2, none⟩ = some (.slice A l.length c) := (blk_cell H5.out 2).trans rfl
    have hf5 : w5.frozen? ⟨mb, 2, none⟩ = false := blk_frozen H5.out 2
    refine skip_step (w1 := w5.setCell ⟨mb, 2, none⟩ (.slice A1 (insL l i.toNat g).length c1)) (by rfl) rfl ?hr ?_
    case hr => first | (go_simp; done) | (go_simp; rfl)
    have H6 := Aside0.mk (show (w5.setCell ⟨mb, 2, none⟩ (.slice A1 (insL l i.toNat g).length c1)).heap[mb]? = some (.cells #[.int .i32 1, .int .u32 0, .slice A1 (insL l i.toNat g).length c1] 65 (0, 0)) from blk_put H5.out 2 _ rfl)
    have G6 := Aside0.mk (show (w5.setCell ⟨mb, 2, none⟩ (.slice A1 (insL l i.toNat g).length c1)).heap[gb]? = some (.cells #[.string g.f0, .int .i64 g.f1] 25 (0, 0)) from (Below.heap_setCell _ _ _ _ L1.out.2.1).trans G5.out)
    have R6 := Aside0.mk (show Kd.R k25 25 (w5.setCell ⟨mb, 2, none⟩ (.slice A1 (insL l i.toNat g).length c1)) base (fun k => k ≠ mb) (.slice A1 (insL l i.toNat g).length c1) (insL l i.toNat g) from Kd.R_set R5.out H5.out (by decide) 2 _)
    have B6 := Aside0.mk (show Below base W (w5.setCell ⟨mb, 2, none⟩ (.slice A1 (insL l i.toNat g).length c1)) from Below.setCell (p := ⟨mb, 2, none⟩) B5.out hmb _)
    refine hK.out _ _ ?_
    clear hK K
    refine done_ (done_of HT_.out (by kernel_rfl)) ?_
    clear HT_ HW_ hHeld
    try go_wp2
    show Leaves _ _ _ _ _ _ _
    refine leaves_cons (f := 45) (args := #[.pointer (some ⟨mb, 0, none⟩)]) (by simp) (by simp [go_sem]) ?_
    refine (unlock_deferred muLib ⟨mb, 0, none⟩ .returning _ ((blk_cell H6.out 0).trans rfl) (blk_frozen H6.out 0)).mono ?_
    rintro e u' w'' ⟨rfl, rfl, rfl⟩
    refine ⟨_, results_none rfl _ _ _, rfl, _, blk_put H6.out 0 _ rfl, ?_, Below.setCell (p := ⟨mb, 0, none⟩) B6.out hmb _⟩
    exact Kd.R_set R6.out H6.out (by decide) 0 _
end Go.Proofs.Ytkihdohphddjaaa.G

