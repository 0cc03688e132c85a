/- A text of seat Ythlnbbehcpdnfaa: what the law FnMerge needs of this repo's texts (by pack.py). Not trusted: Lean checks it. -/
import Derived.Test.YthlnbbehcpdnfaaKFnMerge4
import Derived.Test.YthlnbbehcpdnfaaProg
import Derived.Below
import Derived.Deep.Draws
import Derived.Deep.AppendLies
import Derived.Maps.AppendAt
import Derived.OwnWalk
import Derived.Laws.BytesArg
import Derived.Laws.MakeOwn
import Derived.Laws.OwnMore
import Derived.Deep.OwnRows
import Derived.Tactics
import Derived.Lib.ConvBytes
import Derived.Laws.Slices
import Derived.WalkKit
import Derived.KernelRfl
import Derived.RowKit3
import Derived.Deep.LoopGhost
import Derived.Deep.QuietTactic
import Derived.BigQuiet
import Derived.WideLaws
import Derived.Deep.DeepCutAuto
import Derived.Deep.CutBlock
import Derived.Deep.RegionHeld3
import Derived.Laws.Rows
import Derived.Lib.AppendStr
import Derived.ArgAppend
import Derived.Laws.IdiomCopy
import Derived.OrdersHeld
import Derived.Laws.BitsLemmas
import Derived.RowKit
import Derived.WalkLawsBesides
namespace Go.Proofs.Ythlnbbehcpdnfaa.G
open Go.RowKit Go.Proofs.YthlnbbehcpdnfaaW.PrintWords Go.Proofs.YthlnbbehcpdnfaaW.PrintLast Go.Proofs.YthlnbbehcpdnfaaW.PrintMore
attribute [local go_sem] max2_int min2_int max_two min_two max_three min_three max_four min_four   -- for this text's walks alone
set_option linter.unusedVariables false
set_option linter.unusedSimpArgs false



def errW : Option Int → Value
 | none => .nilIface
 | some c => .iface 0 (.int .i64 c)
theorem errW_none : errW none = .nilIface := rfl
theorem errW_some (c : Int) : errW (some c) = .iface 0 (.int .i64 c) := rfl

theorem info3 : (Try.prog.info? 3).map (fun i => (i.zero, i.size, i.bytes)) = some (some (.int .i64 0), 1, 8) := by kernel_rfl
theorem info5 : (Try.prog.info? 5).map (fun i => (i.zero, i.size, i.bytes)) = some (some (.int .u8 0), 1, 1) := by kernel_rfl
theorem info41 : (Try.prog.info? 41).map (fun i => (i.zero, i.size, i.bytes)) = some (some (.agg #[(.int .i64 0), (.int .i64 0), (.bool false), (.slice none 0 0), (.bool false), (.slice none 0 0)]), 6, 80) := by kernel_rfl
structure S41 where
 f0 : Int
 f1 : Int
 f2 : Bool
 f3 : (List Int)
 f4 : Bool
 f5 : (List Int)
def z41 : S41 := ⟨(0 : Int), (0 : Int), false, ([] : List Int), false, ([] : List Int)⟩
def k41 : Kd S41 := Kd.iso (Kd.pair (Kd.int .i64) (Kd.pair (Kd.int .i64) (Kd.pair Kd.bool (Kd.pair (Kd.slice 3 (Kd.int .i64)) (Kd.pair Kd.bool (Kd.slice 3 (Kd.int .i64))))))) (fun x : S41 => (x.f0, x.f1, x.f2, x.f3, x.f4, x.f5))
theorem k41_open {w : World} {x : S41} {cs : List Value} (h : k41.K w x cs) : ∃ A3 c3 A5 c5, cs = [.int .i64 x.f0, .int .i64 x.f1, .bool x.f2, .slice A3 x.f3.length c3, .bool x.f4, .slice A5 x.f5.length c5] ∧ x.f3.length ≤ c3 ∧ (Kd.int .i64).C w A3 x.f3.length x.f3 ∧ x.f5.length ≤ c5 ∧ (Kd.int .i64).C w A5 x.f5.length x.f5 := by
 obtain ⟨_, _, rfl, rfl, ⟨_, _, rfl, rfl, ⟨_, _, rfl, rfl, ⟨_, _, rfl, ⟨A3, c3, rfl, l3, g3⟩, ⟨_, _, rfl, rfl, ⟨A5, c5, rfl, l5, g5⟩⟩⟩⟩⟩⟩ := h
 exact ⟨A3, c3, A5, c5, rfl, l3, g3, l5, g5⟩
theorem k41_openM {w : World} {base : Nat} {ok : Nat → Prop} {x : S41} {cs : List Value} (h : k41.M w base ok x cs) : ∃ v3 v5, cs = [.int .i64 x.f0, .int .i64 x.f1, .bool x.f2, v3, .bool x.f4, v5] ∧ (Kd.int .i64).R 3 w base ok v3 x.f3 ∧ (Kd.int .i64).R 3 w base ok v5 x.f5 := by
 obtain ⟨_, _, rfl, rfl, ⟨_, _, rfl, rfl, ⟨_, _, rfl, rfl, ⟨_, _, rfl, ⟨v3, rfl, g3⟩, ⟨_, _, rfl, rfl, ⟨v5, rfl, g5⟩⟩⟩⟩⟩⟩ := h
 exact ⟨v3, v5, rfl, g3, g5⟩
theorem k41_mkM (w : World) (base : Nat) (ok : Nat → Prop) (x : S41) {v3 : Value} (g3 : (Kd.int .i64).R 3 w base ok v3 x.f3) {v5 : Value} (g5 : (Kd.int .i64).R 3 w base ok v5 x.f5) : k41.M w base ok x [.int .i64 x.f0, .int .i64 x.f1, .bool x.f2, v3, .bool x.f4, v5] := ⟨[.int .i64 x.f0], [.int .i64 x.f1, .bool x.f2, v3, .bool x.f4, v5], rfl, rfl, ⟨[.int .i64 x.f1], [.bool x.f2, v3, .bool x.f4, v5], rfl, rfl, ⟨[.bool x.f2], [v3, .bool x.f4, v5], rfl, rfl, ⟨[v3], [.bool x.f4, v5], rfl, ⟨v3, rfl, g3⟩, ⟨[.bool x.f4], [v5], rfl, rfl, ⟨v5, rfl, g5⟩⟩⟩⟩⟩⟩
theorem k41_openF {W : World} {ok : Nat → Prop} {x : S41} {cs : List Value} (h : Kd.FK k41 W ok x cs) : ∃ A3 c3 A5 c5, cs = [.int .i64 x.f0, .int .i64 x.f1, .bool x.f2, .slice A3 x.f3.length c3, .bool x.f4, .slice A5 x.f5.length c5] ∧ x.f3.length ≤ c3 ∧ Kd.F (Kd.int .i64) W ok A3 x.f3.length x.f3 ∧ x.f5.length ≤ c5 ∧ Kd.F (Kd.int .i64) W ok A5 x.f5.length x.f5 := by
 obtain ⟨A3, c3, A5, c5, rfl, l3, _, l5, _⟩ := k41_open (Kd.FK_now h)
 exact ⟨A3, c3, A5, c5, rfl, l3, (fun W' hW => by obtain ⟨A3_, c3_, A5_, c5_, he, l3_, g3_, l5_, g5_⟩ := k41_open (h W' hW); injection (Option.some.inj (show some (Value.slice A3 x.f3.length c3) = some (Value.slice A3_ x.f3.length c3_) from congrArg (fun l => l[3]?) he)) with ha_ _ _; rw [ha_]; exact g3_), l5, (fun W' hW => by obtain ⟨A3_, c3_, A5_, c5_, he, l3_, g3_, l5_, g5_⟩ := k41_open (h W' hW); injection (Option.some.inj (show some (Value.slice A5 x.f5.length c5) = some (Value.slice A5_ x.f5.length c5_) from congrArg (fun l => l[5]?) he)) with ha_ _ _; rw [ha_]; exact g5_)⟩
def rd_T41 (xs : List S41) (i : Int) : S41 := xs.getD i.toNat z41
theorem at_T41 {w : World} {A : Option Addr} {n : Nat} {xs : List S41} (h : Kd.C k41 w A n xs) (i : Int) (h0 : 0 ≤ i) (h1 : i < n) : ∃ ad A3 c3 A5 c5, A = some ad ∧ w.cell? (ad.add (i.toNat * 6)) = some (.int .i64 (rd_T41 xs i).f0) ∧ w.cell? ⟨(ad.add (i.toNat * 6)).block, (ad.add (i.toNat * 6)).off + 1, none⟩ = some (.int .i64 (rd_T41 xs i).f1) ∧ w.cell? ⟨(ad.add (i.toNat * 6)).block, (ad.add (i.toNat * 6)).off + 2, none⟩ = some (.bool (rd_T41 xs i).f2) ∧ w.cell? ⟨(ad.add (i.toNat * 6)).block, (ad.add (i.toNat * 6)).off + 3, none⟩ = some (.slice A3 (rd_T41 xs i).f3.length c3) ∧ w.cell? ⟨(ad.add (i.toNat * 6)).block, (ad.add (i.toNat * 6)).off + 4, none⟩ = some (.bool (rd_T41 xs i).f4) ∧ w.cell? ⟨(ad.add (i.toNat * 6)).block, (ad.add (i.toNat * 6)).off + 5, none⟩ = some (.slice A5 (rd_T41 xs i).f5.length c5) ∧ (rd_T41 xs i).f3.length ≤ c3 ∧ (Kd.int .i64).C w A3 (rd_T41 xs i).f3.length (rd_T41 xs i).f3 ∧ (rd_T41 xs i).f5.length ≤ c5 ∧ (Kd.int .i64).C w A5 (rd_T41 xs i).f5.length (rd_T41 xs i).f5 := by
 obtain ⟨ad, c, e, _, hK, hc0⟩ := Kd.C_get h z41 i h0 h1
 have hc : ∀ j u, c[j]? = some u → w.cell? (ad.add (i.toNat * 6 + j)) = some u := hc0
 obtain ⟨A3, c3, A5, c5, rfl, l3, g3, l5, g5⟩ := k41_open hK
 exact ⟨ad, A3, c3, A5, c5, e, hc 0 _ rfl, by rw [← add_field _ _ 1 (by omega)]; exact hc 1 _ rfl, by rw [← add_field _ _ 2 (by omega)]; exact hc 2 _ rfl, by rw [← add_field _ _ 3 (by omega)]; exact hc 3 _ rfl, by rw [← add_field _ _ 4 (by omega)]; exact hc 4 _ rfl, by rw [← add_field _ _ 5 (by omega)]; exact hc 5 _ rfl, l3, g3, l5, g5⟩

end Go.Proofs.Ythlnbbehcpdnfaa.G

namespace Go.Proofs.Ythlnbbehcpdnfaa.G
open Go.RowKit Go.Proofs.YthlnbbehcpdnfaaW.PrintWords Go.Proofs.YthlnbbehcpdnfaaW.PrintLast Go.Proofs.YthlnbbehcpdnfaaW.PrintMore
attribute [local go_sem] max2_int min2_int max_two min_two max_three min_three max_four min_four   -- for this text's walks alone
set_option linter.unusedVariables false
set_option linter.unusedSimpArgs false

def impl_within.f (a0 : Int) (a1 : Int) (a2 : Int) : Option (Bool) := if a0 ≥ a1 then (some (decide (a0 ≤ a2))) else (some false)
set_option maxHeartbeats 8000000 in
set_option maxRecDepth 100000 in
theorem impl_within.calls (a0 : Int) (a1 : Int) (a2 : Int) (r : Bool) (w : World) (h : impl_within.f a0 a1 a2 = some r) :
  Calls Try.prog 60 #[.int .i64 a0, .int .i64 a1, .int .i64 a2] w fun e w' => e = .returned (.bool r) ∧ Drawn0 w w' := by
 have H : (if a0 ≥ a1 then (some (decide (a0 ≤ a2))) else (some false)) = some r := h
 clear h
 by_cases c4 : a0 ≥ a1
 ·rw [if_pos c4] at H
  have c4b0 : decide (a1 ≤ a0) = true := decide_eq_true c4
  clear c4
  obtain rfl := Option.some.inj H
  go_enter Try.func60, Try.ntmps60
  go_wp2
  go_ret
  exact ⟨by first | rfl | (simp; done) | (simp [*]; done), by repeat (first | exact Drawn0.refl _ | apply Drawn0.step)⟩
 ·rw [if_neg c4] at H
  have c4b0 : decide (a1 ≤ a0) = false := decide_eq_false c4
  clear c4
  obtain rfl := Option.some.inj H
  go_enter Try.func60, Try.ntmps60
  go_wp2
  go_ret
  exact ⟨by first | rfl | (simp; done) | (simp [*]; done), by repeat (first | exact Drawn0.refl _ | apply Drawn0.step)⟩

def impl_baseValid.f (a0 : Int) (a1 : Int) : Option (Bool) := (impl_within.f a0 0 99999).bind fun t156 => (if t156 = true then ((impl_within.f a1 0 99999).bind fun t157 => (some t157)) else (some false))
set_option maxHeartbeats 8000000 in
set_option maxRecDepth 100000 in
theorem impl_baseValid.calls (a0 : Int) (a1 : Int) (r : Bool) (w : World) (h : impl_baseValid.f a0 a1 = some r) :
  Calls Try.prog 72 #[.int .i64 a0, .int .i64 a1] w fun e w' => e = .returned (.bool r) ∧ Drawn0 w w' := by
 have H : ((impl_within.f a0 0 99999).bind fun t156 => (if t156 = true then ((impl_within.f a1 0 99999).bind fun t157 => (some t157)) else (some false))) = some r := h
 clear h
 replace H := Option.bind_eq_some_iff.mp H
 obtain ⟨t156, A30, H⟩ := H
 replace H : (if t156 = true then ((impl_within.f a1 0 99999).bind fun t157 => (some t157)) else (some false)) = some r := H
 have A3 := Aside0.mk A30
 clear A30
 by_cases c4 : t156 = true
 ·subst c4
  have H1 : ((impl_within.f a1 0 99999).bind fun t157 => (some t157)) = some r := by rw [if_pos rfl] at H; exact H
  clear H
  have H := H1
  clear H1
  replace H := Option.bind_eq_some_iff.mp H
  obtain ⟨t157, A50, H⟩ := H
  replace H : (some t157) = some r := H
  have A5 := Aside0.mk A50
  clear A50
  obtain rfl := Option.some.inj H
  go_enter Try.func72, Try.ntmps72
  go_wp2_with (first | ((with_reducible refine gate_callee (f := 60) rfl ?_); refine goesL_ (some 6) rfl rfl Try.func60 (by kernel_rfl) rfl #[.int .i64 a0, .int .i64 0, .int .i64 99999] rfl (by (try simp only [List.map_toArray, List.map_cons, List.map_nil]); first | done | rfl | (simp only [List.length_drop, List.length_take]; rfl)) ?_; (with_reducible refine (impl_within.calls a0 0 99999 true _ A3.out).mono ?_); rintro e w' ⟨rfl, ⟨nd, rfl⟩⟩; refine ⟨_, rfl, ?_⟩) | (go_at_call 60; (with_reducible refine (impl_within.calls a1 0 99999 t157 _ A5.out).mono ?_); rintro e w' ⟨rfl, ⟨nd, rfl⟩⟩))
  go_ret
  exact ⟨by first | rfl | (simp; done) | (simp [*]; done), by repeat (first | exact Drawn0.refl _ | apply Drawn0.step)⟩
 ·replace c4 := Bool.eq_false_iff.mpr c4
  subst c4
  have H1 : (some false) = some r := by rw [if_neg (show ¬ (false = true) by decide)] at H; exact H
  clear H
  have H := H1
  clear H1
  obtain rfl := Option.some.inj H
  go_enter Try.func72, Try.ntmps72
  go_wp2_with (first | ((with_reducible refine gate_callee (f := 60) rfl ?_); refine goesL_ (some 6) rfl rfl Try.func60 (by kernel_rfl) rfl #[.int .i64 a0, .int .i64 0, .int .i64 99999] rfl (by (try simp only [List.map_toArray, List.map_cons, List.map_nil]); first | done | rfl | (simp only [List.length_drop, List.length_take]; rfl)) ?_; (with_reducible refine (impl_within.calls a0 0 99999 false _ A3.out).mono ?_); rintro e w' ⟨rfl, ⟨nd, rfl⟩⟩; refine ⟨_, rfl, ?_⟩))
  go_ret
  exact ⟨by first | rfl | (simp; done) | (simp [*]; done), by repeat (first | exact Drawn0.refl _ | apply Drawn0.step)⟩

def impl_isByte.f (a0 : Int) : Option (Bool) := if a0 ≥ 0 then (some (decide (a0 ≤ 255))) else (some false)
set_option maxHeartbeats 8000000 in
set_option maxRecDepth 100000 in
theorem impl_isByte.calls (a0 : Int) (r : Bool) (w : World) (h : impl_isByte.f a0 = some r) :
  Calls Try.prog 82 #[.int .i64 a0] w fun e w' => e = .returned (.bool r) ∧ Drawn0 w w' := by
 have H : (if a0 ≥ 0 then (some (decide (a0 ≤ 255))) else (some false)) = some r := h
 clear h
 by_cases c2 : a0 ≥ 0
 ·rw [if_pos c2] at H
  have c2b0 : decide (0 ≤ a0) = true := decide_eq_true c2
  clear c2
  obtain rfl := Option.some.inj H
  go_enter Try.func82, Try.ntmps82
  go_wp2
  go_ret
  exact ⟨by first | rfl | (simp; done) | (simp [*]; done), by repeat (first | exact Drawn0.refl _ | apply Drawn0.step)⟩
 ·rw [if_neg c2] at H
  have c2b0 : decide (0 ≤ a0) = false := decide_eq_false c2
  clear c2
  obtain rfl := Option.some.inj H
  go_enter Try.func82, Try.ntmps82
  go_wp2
  go_ret
  exact ⟨by first | rfl | (simp; done) | (simp [*]; done), by repeat (first | exact Drawn0.refl _ | apply Drawn0.step)⟩

def impl_allBytes.l0 : Nat → List Int → Int → Int → Option (Bool)
 | 0, _, _, _ => none
 | k + 1, x5, x6, x7 => if x7 < x6 then (if 0 ≤ x7 then (if x7 < (x5.length : Int) then ((impl_isByte.f (rd x5 x7)).bind fun t159 => (if t159 = true then (impl_allBytes.l0 k x5 x6 (wrap64 (x7 + 1))) else (some false))) else (none)) else (none)) else (some true)
def impl_allBytes.f (k : Nat) (l0 : List Int) : Option (Bool) := impl_allBytes.l0 k l0 (l0.length : Int) 0
set_option maxHeartbeats 8000000 in
set_option maxRecDepth 100000 in
theorem impl_allBytes.calls (k : Nat) (A0 : Option Addr) (c0 : Nat) (l0 : List Int) (r : Bool) (w : World) (hr0 : Kd.C (Kd.int .i64) w A0 l0.length l0) (hc0 : l0.length ≤ c0) (h : impl_allBytes.f k l0 = some r) :
  Calls Try.prog 78 #[.slice A0 l0.length c0] w fun e w' => e = .returned (.bool r) ∧ Drawn0 w w' := by
 have HR0 := Aside0.mk hr0
 have HC0 := Aside0.mk hc0
 clear hr0 hc0
 have H : (impl_allBytes.l0 k l0 (l0.length : Int) 0) = some r := h
 clear h
 have H' := Aside0.mk H
 clear H
 go_enter Try.func78, Try.ntmps78
 go_wp2
 go_loopg [7] k (fun kq v7 w' => ∃ (x7_1 : Int), v7 = .int .i64 x7_1 ∧ Aside0 (impl_allBytes.l0 kq l0 (l0.length : Int) x7_1 = some r) ∧ Aside0 (kq ≤ k) ∧ Drawn0 w w')
 case atStart => exact ⟨(0), (by first | rfl | (simp; done) | (simp [*]; done)), H', ⟨Nat.le_refl _⟩, by repeat (first | exact Drawn0.refl _ | apply Drawn0.step)⟩
 case round =>
  clear H'
  obtain ⟨x7_1, rfl, HA, HK1, ⟨m1, rfl⟩⟩ := hrel
  cases gk with
  | zero => exact absurd HA.out (by simp [impl_allBytes.l0])
  | succ k1 =>
   have H := HA.out
   clear HA
   simp only [impl_allBytes.l0] at H
   by_cases c2 : x7_1 < (l0.length : Int)
   ·rw [if_pos c2] at H
    have c2b0 : decide (x7_1 < (l0.length : Int)) = true := decide_eq_true c2
    clear c2
    by_cases c3 : 0 ≤ x7_1
    ·rw [if_pos c3] at H
     have c3b0 : decide (0 ≤ x7_1) = true := decide_eq_true c3
     clear c3
     by_cases c4 : x7_1 < (l0.length : Int)
     ·rw [if_pos c4] at H
      have c4b0 : decide (x7_1 < (l0.length : Int)) = true := decide_eq_true c4
      clear c4
      replace H := Option.bind_eq_some_iff.mp H
      obtain ⟨t159, A50, H⟩ := H
      replace H : (if t159 = true then (impl_allBytes.l0 k1 l0 (l0.length : Int) (wrap64 (x7_1 + 1))) else (some false)) = some r := H
      have A5 := Aside0.mk A50
      clear A50
      by_cases c6 : t159 = true
      ·subst c6
       have H1 : (impl_allBytes.l0 k1 l0 (l0.length : Int) (wrap64 (x7_1 + 1))) = some r := by rw [if_pos rfl] at H; exact H
       clear H
       have H := H1
       clear H1
       have H' := Aside0.mk H
       clear H
       have p158 : 0 ≤ (x7_1 : Int) := of_decide_eq_true (by first | (with_reducible assumption) | assumption)
       have q158 : x7_1 < (l0.length : Int) := of_decide_eq_true (by first | (with_reducible assumption) | assumption)
       obtain ⟨ad158, e158, hx158_0⟩ := Kd.at_int HR0.out x7_1 p158 q158
       cases e158
       replace p158 := eq_true p158
       replace q158 := eq_true q158
       go_wp2_with (first | ((with_reducible refine gate_callee (f := 82) rfl ?_); refine goesL_ (some 12) rfl rfl Try.func82 (by kernel_rfl) rfl #[.int .i64 (rd l0 x7_1)] rfl (by (try simp only [List.map_toArray, List.map_cons, List.map_nil]); first | done | rfl | (simp only [List.length_drop, List.length_take]; rfl)) ?_; (with_reducible refine (impl_isByte.calls (rd l0 x7_1) true _ A5.out).mono ?_); rintro e w' ⟨rfl, ⟨nd, rfl⟩⟩; refine ⟨_, rfl, ?_⟩))
       go_roundg k1
       case measure => have := HK1.out; omega
       case rel => exact ⟨(wrap64 (x7_1 + 1)), (by first | rfl | (simp; done) | (simp [*]; done)), H', ⟨by have := HK1.out; omega⟩, by repeat (first | exact Drawn0.refl _ | apply Drawn0.step)⟩
      ·replace c6 := Bool.eq_false_iff.mpr c6
       subst c6
       have H1 : (some false) = some r := by rw [if_neg (show ¬ (false = true) by decide)] at H; exact H
       clear H
       have H := H1
       clear H1
       obtain rfl := Option.some.inj H
       have p158 : 0 ≤ (x7_1 : Int) := of_decide_eq_true (by first | (with_reducible assumption) | assumption)
       have q158 : x7_1 < (l0.length : Int) := of_decide_eq_true (by first | (with_reducible assumption) | assumption)
       obtain ⟨ad158, e158, hx158_0⟩ := Kd.at_int HR0.out x7_1 p158 q158
       cases e158
       replace p158 := eq_true p158
       replace q158 := eq_true q158
       go_wp2_with (first | ((with_reducible refine gate_callee (f := 82) rfl ?_); refine goesL_ (some 12) rfl rfl Try.func82 (by kernel_rfl) rfl #[.int .i64 (rd l0 x7_1)] rfl (by (try simp only [List.map_toArray, List.map_cons, List.map_nil]); first | done | rfl | (simp only [List.length_drop, List.length_take]; rfl)) ?_; (with_reducible refine (impl_isByte.calls (rd l0 x7_1) false _ A5.out).mono ?_); rintro e w' ⟨rfl, ⟨nd, rfl⟩⟩; refine ⟨_, rfl, ?_⟩))
       go_ret
       exact ⟨by first | rfl | (simp; done) | (simp [*]; done), by repeat (first | exact Drawn0.refl _ | apply Drawn0.step)⟩
     ·rw [if_neg c4] at H
      exact absurd H (by simp)
    ·rw [if_neg c3] at H
     exact absurd H (by simp)
   ·rw [if_neg c2] at H
    have c2b0 : decide (x7_1 < (l0.length : Int)) = false := decide_eq_false c2
    clear c2
    obtain rfl := Option.some.inj H
    go_wp2
    go_ret
    exact ⟨by first | rfl | (simp; done) | (simp [*]; done), by repeat (first | exact Drawn0.refl _ | apply Drawn0.step)⟩

def impl_partValid.f (k : Nat) (a0 : Bool) (l1 : List Int) : Option (Bool) := if a0 = true then (if (l1.length : Int) ≤ 12 then ((impl_allBytes.f k l1).bind fun t160 => (some t160)) else (some false)) else (some ((l1.length : Int) == 0))
set_option maxHeartbeats 8000000 in
set_option maxRecDepth 100000 in
theorem impl_partValid.calls (k : Nat) (a0 : Bool) (A1 : Option Addr) (c1 : Nat) (l1 : List Int) (r : Bool) (w : World) (hr1 : Kd.C (Kd.int .i64) w A1 l1.length l1) (hc1 : l1.length ≤ c1) (h : impl_partValid.f k a0 l1 = some r) :
  Calls Try.prog 73 #[.bool a0, .slice A1 l1.length c1] w fun e w' => e = .returned (.bool r) ∧ Drawn0 w w' := by
 have HR1 := Aside0.mk hr1
 have HC1 := Aside0.mk hc1
 clear hr1 hc1
 have H : (if a0 = true then (if (l1.length : Int) ≤ 12 then ((impl_allBytes.f k l1).bind fun t160 => (some t160)) else (some false)) else (some ((l1.length : Int) == 0))) = some r := h
 clear h
 by_cases c3 : a0 = true
 ·subst c3
  have H1 : (if (l1.length : Int) ≤ 12 then ((impl_allBytes.f k l1).bind fun t160 => (some t160)) else (some false)) = some r := by rw [if_pos rfl] at H; exact H
  clear H
  have H := H1
  clear H1
  by_cases c4 : (l1.length : Int) ≤ 12
  ·rw [if_pos c4] at H
   have c4b0 : decide ((l1.length : Int) ≤ 12) = true := decide_eq_true c4
   have c4b1 : decide (l1.length ≤ 12) = true := decide_eq_true (by omega)
   clear c4
   replace H := Option.bind_eq_some_iff.mp H
   obtain ⟨t160, A50, H⟩ := H
   replace H : (some t160) = some r := H
   have A5 := Aside0.mk A50
   clear A50
   obtain rfl := Option.some.inj H
   go_enter Try.func73, Try.ntmps73
   go_wp2_with (first | (go_at_call 78; (with_reducible refine (impl_allBytes.calls k _ _ l1 t160 _ ?side1 ?side2 A5.out).mono ?_); (case side1 => repeat (first | exact HR1.out | (with_reducible refine Kd.C_alloc ?_ _) | (with_reducible refine Kd.C_drewN ?_ _) | (with_reducible refine Kd.C_drew ?_))); (case side2 => exact HC1.out); rintro e w' ⟨rfl, ⟨nd, rfl⟩⟩))
   go_ret
   exact ⟨by first | rfl | (simp; done) | (simp [*]; done), by repeat (first | exact Drawn0.refl _ | apply Drawn0.step)⟩
  ·rw [if_neg c4] at H
   have c4b0 : decide ((l1.length : Int) ≤ 12) = false := decide_eq_false c4
   have c4b1 : decide (l1.length ≤ 12) = false := decide_eq_false (by omega)
   clear c4
   obtain rfl := Option.some.inj H
   go_enter Try.func73, Try.ntmps73
   go_wp2
   go_ret
   exact ⟨by first | rfl | (simp; done) | (simp [*]; done), by repeat (first | exact Drawn0.refl _ | apply Drawn0.step)⟩
 ·replace c3 := Bool.eq_false_iff.mpr c3
  subst c3
  have H1 : (some ((l1.length : Int) == 0)) = some r := by rw [if_neg (show ¬ (false = true) by decide)] at H; exact H
  clear H
  have H := H1
  clear H1
  obtain rfl := Option.some.inj H
  go_enter Try.func73, Try.ntmps73
  go_wp2
  go_ret
  exact ⟨by first | rfl | (simp; done) | (simp [*]; done), by repeat (first | exact Drawn0.refl _ | apply Drawn0.step)⟩

def impl_RecordValid.f (k : Nat) (a0_0 : Int) (a0_1 : Int) (a0_2 : Bool) (l0_3 : List Int) (a0_4 : Bool) (l0_5 : List Int) : Option (Bool) := (impl_baseValid.f a0_0 a0_1).bind fun t162 => (if t162 = true then ((impl_partValid.f k a0_2 l0_3).bind fun t163 => (if t163 = true then ((impl_partValid.f k a0_4 l0_5).bind fun t164 => (some t164)) else (some false))) else (some false))
set_option maxHeartbeats 8000000 in
set_option maxRecDepth 100000 in
theorem impl_RecordValid.calls (k : Nat) (a0_0 : Int) (a0_1 : Int) (a0_2 : Bool) (A0_3 : Option Addr) (c0_3 : Nat) (l0_3 : List Int) (a0_4 : Bool) (A0_5 : Option Addr) (c0_5 : Nat) (l0_5 : List Int) (r : Bool) (w : World) (hr0_3 : Kd.C (Kd.int .i64) w A0_3 l0_3.length l0_3) (hc0_3 : l0_3.length ≤ c0_3) (hr0_5 : Kd.C (Kd.int .i64) w A0_5 l0_5.length l0_5) (hc0_5 : l0_5.length ≤ c0_5) (h : impl_RecordValid.f k a0_0 a0_1 a0_2 l0_3 a0_4 l0_5 = some r) :
  Calls Try.prog 64 #[.agg #[.int .i64 a0_0, .int .i64 a0_1, .bool a0_2, .slice A0_3 l0_3.length c0_3, .bool a0_4, .slice A0_5 l0_5.length c0_5]] w fun e w' => e = .returned (.bool r) ∧ Below w.heap.size w w' := by
 have hu41 := Try.underlying41
 have HR0_3 := Aside0.mk hr0_3
 have HC0_3 := Aside0.mk hc0_3
 clear hr0_3 hc0_3
 have HR0_5 := Aside0.mk hr0_5
 have HC0_5 := Aside0.mk hc0_5
 clear hr0_5 hc0_5
 have HB := Aside0.mk (Below.refl w.heap.size w)
 have H : ((impl_baseValid.f a0_0 a0_1).bind fun t162 => (if t162 = true then ((impl_partValid.f k a0_2 l0_3).bind fun t163 => (if t163 = true then ((impl_partValid.f k a0_4 l0_5).bind fun t164 => (some t164)) else (some false))) else (some false))) = some r := h
 clear h
 replace H := Option.bind_eq_some_iff.mp H
 obtain ⟨t162, A20, H⟩ := H
 replace H : (if t162 = true then ((impl_partValid.f k a0_2 l0_3).bind fun t163 => (if t163 = true then ((impl_partValid.f k a0_4 l0_5).bind fun t164 => (some t164)) else (some false))) else (some false)) = some r := H
 have A2 := Aside0.mk A20
 clear A20
 by_cases c3 : t162 = true
 ·subst c3
  have H1 : ((impl_partValid.f k a0_2 l0_3).bind fun t163 => (if t163 = true then ((impl_partValid.f k a0_4 l0_5).bind fun t164 => (some t164)) else (some false))) = some r := by rw [if_pos rfl] at H; exact H
  clear H
  have H := H1
  clear H1
  replace H := Option.bind_eq_some_iff.mp H
  obtain ⟨t163, A40, H⟩ := H
  replace H : (if t163 = true then ((impl_partValid.f k a0_4 l0_5).bind fun t164 => (some t164)) else (some false)) = some r := H
  have A4 := Aside0.mk A40
  clear A40
  by_cases c5 : t163 = true
  ·subst c5
   have H1 : ((impl_partValid.f k a0_4 l0_5).bind fun t164 => (some t164)) = some r := by rw [if_pos rfl] at H; exact H
   clear H
   have H := H1
   clear H1
   replace H := Option.bind_eq_some_iff.mp H
   obtain ⟨t164, A60, H⟩ := H
   replace H : (some t164) = some r := H
   have A6 := Aside0.mk A60
   clear A60
   obtain rfl := Option.some.inj H
   go_enter Try.func64, Try.ntmps64
   go_wp2_with (first | ((with_reducible refine gate_dst (N := 1) rfl ?_); refine box_event ?hg (N := 1) ?hd (cs := #[.int .i64 a0_0, .int .i64 a0_1, .bool a0_2, .slice A0_3 l0_3.length c0_3, .bool a0_4, .slice A0_5 l0_5.length c0_5]) (t := 41) ?hr ?_; (case hd => rfl); (case hg => rfl); (case hr => first | (go_simp; done) | (go_simp; rfl)); intro gb161 hg w7 hbox hb; have n0_ := Aside0.mk (below_step (by repeat (first | (with_reducible first | exact HB.out | apply below_alloc | apply pw_below_drewN | apply below_drew1) | exact HB.out)) hb); have n1_ := Aside0.mk (hbox); have n2_ := Aside0.mk ((by rw [hg]; exact (below_size (by repeat (first | (with_reducible first | exact HB.out | apply below_alloc | apply pw_below_drewN | apply below_drew1) | exact HB.out))) : w.heap.size ≤ gb161)); have n3_ := Aside0.mk ((by rw [hg]; exact (below_size (by repeat (first | (with_reducible first | exact HB.out | apply below_alloc | apply pw_below_drewN | apply below_drew1) | exact HB.out))) : w.heap.size ≤ gb161)); clear HB; have HB := n0_; have BK161 := n1_; have GW161 := n2_; have GE161 := n3_; clear n0_ n1_ n2_ n3_; clear hb hbox hg; have hcz8_0 : w7.cell? ⟨gb161, 0, none⟩ = some (.int .i64 a0_0) := (blk_cell BK161.out 0).trans rfl; have hcz8_1 : w7.cell? ⟨gb161, 1, none⟩ = some (.int .i64 a0_1) := (blk_cell BK161.out 1).trans rfl; have hcz8_2 : w7.cell? ⟨gb161, 2, none⟩ = some (.bool a0_2) := (blk_cell BK161.out 2).trans rfl; have hcz8_3 : w7.cell? ⟨gb161, 3, none⟩ = some (.slice A0_3 l0_3.length c0_3) := (blk_cell BK161.out 3).trans rfl; have hcz8_4 : w7.cell? ⟨gb161, 4, none⟩ = some (.bool a0_4) := (blk_cell BK161.out 4).trans rfl; have hcz8_5 : w7.cell? ⟨gb161, 5, none⟩ = some (.slice A0_5 l0_5.length c0_5) := (blk_cell BK161.out 5).trans rfl; have hfz8_0 := blk_frozen BK161.out 0; have hfz8_1 := blk_frozen BK161.out 1; have hfz8_2 := blk_frozen BK161.out 2; have hfz8_3 := blk_frozen BK161.out 3; have hfz8_4 := blk_frozen BK161.out 4; have hfz8_5 := blk_frozen BK161.out 5) | ((with_reducible refine gate_callee (f := 72) rfl ?_); refine goesL_ (some 7) rfl rfl Try.func72 (by kernel_rfl) rfl #[.int .i64 a0_0, .int .i64 a0_1] rfl (by (try simp only [List.map_toArray, List.map_cons, List.map_nil]); first | done | rfl | (simp only [List.length_drop, List.length_take]; rfl)) ?_; (with_reducible refine (impl_baseValid.calls a0_0 a0_1 true _ A2.out).mono ?_); rintro e w' ⟨rfl, ⟨nd, rfl⟩⟩; refine ⟨_, rfl, ?_⟩) | (go_at_call 73; (with_reducible refine (impl_partValid.calls k a0_2 _ _ l0_3 true _ ?side1 ?side2 A4.out).mono ?_); (case side1 => repeat (first | exact (Kd.C_below HR0_3.out (by repeat (first | (with_reducible first | exact HB.out | apply below_alloc | apply pw_below_drewN | apply below_drew1 | refine below_set ?_ GE161.out) | exact HB.out))) | (with_reducible refine Kd.C_alloc ?_ _) | (with_reducible refine Kd.C_drewN ?_ _) | (with_reducible refine Kd.C_drew ?_))); (case side2 => exact HC0_3.out); rintro e w' ⟨rfl, ⟨nd, rfl⟩⟩) | (go_at_call 73; (with_reducible refine (impl_partValid.calls k a0_4 _ _ l0_5 t164 _ ?side1 ?side2 A6.out).mono ?_); (case side1 => repeat (first | exact (Kd.C_below HR0_5.out (by repeat (first | (with_reducible first | exact HB.out | apply below_alloc | apply pw_below_drewN | apply below_drew1 | refine below_set ?_ GE161.out) | exact HB.out))) | (with_reducible refine Kd.C_alloc ?_ _) | (with_reducible refine Kd.C_drewN ?_ _) | (with_reducible refine Kd.C_drew ?_))); (case side2 => exact HC0_5.out); rintro e w' ⟨rfl, ⟨nd, rfl⟩⟩))
   go_ret
   exact ⟨by first | rfl | (simp [errW_none, errW_some] <;> rfl) | (simp [*, errW_none, errW_some] <;> rfl), by repeat (first | (with_reducible first | exact HB.out | apply below_alloc | apply pw_below_drewN | apply below_drew1 | refine below_set ?_ GE161.out) | exact HB.out)⟩
  ·replace c5 := Bool.eq_false_iff.mpr c5
   subst c5
   have H1 : (some false) = some r := by rw [if_neg (show ¬ (false = true) by decide)] at H; exact H
   clear H
   have H := H1
   clear H1
   obtain rfl := Option.some.inj H
   go_enter Try.func64, Try.ntmps64
   go_wp2_with (first | ((with_reducible refine gate_dst (N := 1) rfl ?_); refine box_event ?hg (N := 1) ?hd (cs := #[.int .i64 a0_0, .int .i64 a0_1, .bool a0_2, .slice A0_3 l0_3.length c0_3, .bool a0_4, .slice A0_5 l0_5.length c0_5]) (t := 41) ?hr ?_; (case hd => rfl); (case hg => rfl); (case hr => first | (go_simp; done) | (go_simp; rfl)); intro gb161 hg w9 hbox hb; have n0_ := Aside0.mk (below_step (by repeat (first | (with_reducible first | exact HB.out | apply below_alloc | apply pw_below_drewN | apply below_drew1) | exact HB.out)) hb); have n1_ := Aside0.mk (hbox); have n2_ := Aside0.mk ((by rw [hg]; exact (below_size (by repeat (first | (with_reducible first | exact HB.out | apply below_alloc | apply pw_below_drewN | apply below_drew1) | exact HB.out))) : w.heap.size ≤ gb161)); have n3_ := Aside0.mk ((by rw [hg]; exact (below_size (by repeat (first | (with_reducible first | exact HB.out | apply below_alloc | apply pw_below_drewN | apply below_drew1) | exact HB.out))) : w.heap.size ≤ gb161)); clear HB; have HB := n0_; have BK161 := n1_; have GW161 := n2_; have GE161 := n3_; clear n0_ n1_ n2_ n3_; clear hb hbox hg; have hcz10_0 : w9.cell? ⟨gb161, 0, none⟩ = some (.int .i64 a0_0) := (blk_cell BK161.out 0).trans rfl; have hcz10_1 : w9.cell? ⟨gb161, 1, none⟩ = some (.int .i64 a0_1) := (blk_cell BK161.out 1).trans rfl; have hcz10_2 : w9.cell? ⟨gb161, 2, none⟩ = some (.bool a0_2) := (blk_cell BK161.out 2).trans rfl; have hcz10_3 : w9.cell? ⟨gb161, 3, none⟩ = some (.slice A0_3 l0_3.length c0_3) := (blk_cell BK161.out 3).trans rfl; have hcz10_4 : w9.cell? ⟨gb161, 4, none⟩ = some (.bool a0_4) := (blk_cell BK161.out 4).trans rfl; have hcz10_5 : w9.cell? ⟨gb161, 5, none⟩ = some (.slice A0_5 l0_5.length c0_5) := (blk_cell BK161.out 5).trans rfl; have hfz10_0 := blk_frozen BK161.out 0; have hfz10_1 := blk_frozen BK161.out 1; have hfz10_2 := blk_frozen BK161.out 2; have hfz10_3 := blk_frozen BK161.out 3; have hfz10_4 := blk_frozen BK161.out 4; have hfz10_5 := blk_frozen BK161.out 5) | ((with_reducible refine gate_callee (f := 72) rfl ?_); refine goesL_ (some 7) rfl rfl Try.func72 (by kernel_rfl) rfl #[.int .i64 a0_0, .int .i64 a0_1] rfl (by (try simp only [List.map_toArray, List.map_cons, List.map_nil]); first | done | rfl | (simp only [List.length_drop, List.length_take]; rfl)) ?_; (with_reducible refine (impl_baseValid.calls a0_0 a0_1 true _ A2.out).mono ?_); rintro e w' ⟨rfl, ⟨nd, rfl⟩⟩; refine ⟨_, rfl, ?_⟩) | (go_at_call 73; (with_reducible refine (impl_partValid.calls k a0_2 _ _ l0_3 false _ ?side1 ?side2 A4.out).mono ?_); (case side1 => repeat (first | exact (Kd.C_below HR0_3.out (by repeat (first | (with_reducible first | exact HB.out | apply below_alloc | apply pw_below_drewN | apply below_drew1 | refine below_set ?_ GE161.out) | exact HB.out))) | (with_reducible refine Kd.C_alloc ?_ _) | (with_reducible refine Kd.C_drewN ?_ _) | (with_reducible refine Kd.C_drew ?_))); (case side2 => exact HC0_3.out); rintro e w' ⟨rfl, ⟨nd, rfl⟩⟩))
   go_ret
   exact ⟨by first | rfl | (simp [errW_none, errW_some] <;> rfl) | (simp [*, errW_none, errW_some] <;> rfl), by repeat (first | (with_reducible first | exact HB.out | apply below_alloc | apply pw_below_drewN | apply below_drew1 | refine below_set ?_ GE161.out) | exact HB.out)⟩
 ·replace c3 := Bool.eq_false_iff.mpr c3
  subst c3
  have H1 : (some false) = some r := by rw [if_neg (show ¬ (false = true) by decide)] at H; exact H
  clear H
  have H := H1
  clear H1
  obtain rfl := Option.some.inj H
  go_enter Try.func64, Try.ntmps64
  go_wp2_with (first | ((with_reducible refine gate_dst (N := 1) rfl ?_); refine box_event ?hg (N := 1) ?hd (cs := #[.int .i64 a0_0, .int .i64 a0_1, .bool a0_2, .slice A0_3 l0_3.length c0_3, .bool a0_4, .slice A0_5 l0_5.length c0_5]) (t := 41) ?hr ?_; (case hd => rfl); (case hg => rfl); (case hr => first | (go_simp; done) | (go_simp; rfl)); intro gb161 hg w11 hbox hb; have n0_ := Aside0.mk (below_step (by repeat (first | (with_reducible first | exact HB.out | apply below_alloc | apply pw_below_drewN | apply below_drew1) | exact HB.out)) hb); have n1_ := Aside0.mk (hbox); have n2_ := Aside0.mk ((by rw [hg]; exact (below_size (by repeat (first | (with_reducible first | exact HB.out | apply below_alloc | apply pw_below_drewN | apply below_drew1) | exact HB.out))) : w.heap.size ≤ gb161)); have n3_ := Aside0.mk ((by rw [hg]; exact (below_size (by repeat (first | (with_reducible first | exact HB.out | apply below_alloc | apply pw_below_drewN | apply below_drew1) | exact HB.out))) : w.heap.size ≤ gb161)); clear HB; have HB := n0_; have BK161 := n1_; have GW161 := n2_; have GE161 := n3_; clear n0_ n1_ n2_ n3_; clear hb hbox hg; have hcz12_0 : w11.cell? ⟨gb161, 0, none⟩ = some (.int .i64 a0_0) := (blk_cell BK161.out 0).trans rfl; have hcz12_1 : w11.cell? ⟨gb161, 1, none⟩ = some (.int .i64 a0_1) := (blk_cell BK161.out 1).trans rfl; have hcz12_2 : w11.cell? ⟨gb161, 2, none⟩ = some (.bool a0_2) := (blk_cell BK161.out 2).trans rfl; have hcz12_3 : w11.cell? ⟨gb161, 3, none⟩ = some (.slice A0_3 l0_3.length c0_3) := (blk_cell BK161.out 3).trans rfl; have hcz12_4 : w11.cell? ⟨gb161, 4, none⟩ = some (.bool a0_4) := (blk_cell BK161.out 4).trans rfl; have hcz12_5 : w11.cell? ⟨gb161, 5, none⟩ = some (.slice A0_5 l0_5.length c0_5) := (blk_cell BK161.out 5).trans rfl; have hfz12_0 := blk_frozen BK161.out 0; have hfz12_1 := blk_frozen BK161.out 1; have hfz12_2 := blk_frozen BK161.out 2; have hfz12_3 := blk_frozen BK161.out 3; have hfz12_4 := blk_frozen BK161.out 4; have hfz12_5 := blk_frozen BK161.out 5) | ((with_reducible refine gate_callee (f := 72) rfl ?_); refine goesL_ (some 7) rfl rfl Try.func72 (by kernel_rfl) rfl #[.int .i64 a0_0, .int .i64 a0_1] rfl (by (try simp only [List.map_toArray, List.map_cons, List.map_nil]); first | done | rfl | (simp only [List.length_drop, List.length_take]; rfl)) ?_; (with_reducible refine (impl_baseValid.calls a0_0 a0_1 false _ A2.out).mono ?_); rintro e w' ⟨rfl, ⟨nd, rfl⟩⟩; refine ⟨_, rfl, ?_⟩))
  go_ret
  exact ⟨by first | rfl | (simp [errW_none, errW_some] <;> rfl) | (simp [*, errW_none, errW_some] <;> rfl), by repeat (first | (with_reducible first | exact HB.out | apply below_alloc | apply pw_below_drewN | apply below_drew1 | refine below_set ?_ GE161.out) | exact HB.out)⟩

end Go.Proofs.Ythlnbbehcpdnfaa.G

namespace Go.Proofs.Ythlnbbehcpdnfaa.G
open Go.RowKit Go.Proofs.YthlnbbehcpdnfaaW.PrintWords Go.Proofs.YthlnbbehcpdnfaaW.PrintLast Go.Proofs.YthlnbbehcpdnfaaW.PrintMore
attribute [local go_sem] max2_int min2_int max_two min_two max_three min_three max_four min_four   -- for this text's walks alone
set_option linter.unusedVariables false
set_option linter.unusedSimpArgs false

def impl_rowValid.l0 : Nat → List (S41) → Int → Int → Option (Bool)
 | 0, _, _, _ => none
 | k + 1, x8, x9, x10 => if x10 < x9 then (if 0 ≤ x10 then (if x10 < (x8.length : Int) then ((impl_RecordValid.f k ((rd_T41 x8 x10).f0) ((rd_T41 x8 x10).f1) ((rd_T41 x8 x10).f2) ((rd_T41 x8 x10).f3) ((rd_T41 x8 x10).f4) ((rd_T41 x8 x10).f5)).bind fun t167 => (if t167 = true then (impl_rowValid.l0 k x8 x9 (wrap64 (x10 + 1))) else (some false))) else (none)) else (none)) else (some true)
def impl_rowValid.f (k : Nat) (l0 : List (S41)) : Option (Bool) := if (l0.length : Int) > 30 then (some false) else (impl_rowValid.l0 k l0 (l0.length : Int) 0)
set_option maxHeartbeats 8000000 in
set_option maxRecDepth 100000 in
theorem impl_rowValid.calls (k : Nat) (A0 : Option Addr) (c0 : Nat) (l0 : List (S41)) (r : Bool) (w : World) (hr0 : Kd.C k41 w A0 l0.length l0) (hc0 : l0.length ≤ c0) (h : impl_rowValid.f k l0 = some r) :
  Calls Try.prog 45 #[.slice A0 l0.length c0] w fun e w' => e = .returned (.bool r) ∧ Below w.heap.size w w' := by
 have hu41 := Try.underlying41
 have HR0 := Aside0.mk hr0
 have HC0 := Aside0.mk hc0
 clear hr0 hc0
 have HB := Aside0.mk (Below.refl w.heap.size w)
 have H : (if (l0.length : Int) > 30 then (some false) else (impl_rowValid.l0 k l0 (l0.length : Int) 0)) = some r := h
 clear h
 by_cases c2 : (l0.length : Int) > 30
 ·rw [if_pos c2] at H
  have c2b0 : decide (30 < (l0.length : Int)) = true := decide_eq_true c2
  have c2b1 : decide (30 < l0.length) = true := decide_eq_true (by omega)
  clear c2
  obtain rfl := Option.some.inj H
  go_enter Try.func45, Try.ntmps45
  go_wp2
  go_ret
  exact ⟨by first | rfl | (simp [errW_none, errW_some] <;> rfl) | (simp [*, errW_none, errW_some] <;> rfl), by repeat (first | (with_reducible first | exact HB.out | apply below_alloc | apply pw_below_drewN | apply below_drew1) | exact HB.out)⟩
 ·rw [if_neg c2] at H
  have c2b0 : decide (30 < (l0.length : Int)) = false := decide_eq_false c2
  have c2b1 : decide (30 < l0.length) = false := decide_eq_false (by omega)
  clear c2
  have H' := Aside0.mk H
  clear H
  go_enter Try.func45, Try.ntmps45
  go_wp2
  go_loopg [10] k (fun kq v10 w' => ∃ (x10_1 : Int), v10 = .int .i64 x10_1 ∧ Aside0 (impl_rowValid.l0 kq l0 (l0.length : Int) x10_1 = some r) ∧ Aside0 (kq ≤ k) ∧ Aside0 (Below w.heap.size w w'))
  case atStart => exact ⟨(0), (by first | rfl | (simp; done) | (simp [*]; done)), H', ⟨Nat.le_refl _⟩, ⟨by repeat (first | (with_reducible first | exact HB.out | apply below_alloc | apply pw_below_drewN | apply below_drew1) | exact HB.out)⟩⟩
  case round =>
   clear H'
   try clear c2
   try clear c2b0
   try clear c2b1
   try clear p2
   obtain ⟨x10_1, rfl, HA, HK1, HB⟩ := hrel
   cases gk with
   | zero => exact absurd HA.out (by simp [impl_rowValid.l0])
   | succ k1 =>
    have H := HA.out
    clear HA
    simp only [impl_rowValid.l0] at H
    by_cases c3 : x10_1 < (l0.length : Int)
    ·rw [if_pos c3] at H
     have c3b0 : decide (x10_1 < (l0.length : Int)) = true := decide_eq_true c3
     clear c3
     by_cases c4 : 0 ≤ x10_1
     ·rw [if_pos c4] at H
      have c4b0 : decide (0 ≤ x10_1) = true := decide_eq_true c4
      clear c4
      by_cases c5 : x10_1 < (l0.length : Int)
      ·rw [if_pos c5] at H
       have c5b0 : decide (x10_1 < (l0.length : Int)) = true := decide_eq_true c5
       clear c5
       replace H := Option.bind_eq_some_iff.mp H
       obtain ⟨t167, A60, H⟩ := H
       replace H : (if t167 = true then (impl_rowValid.l0 k1 l0 (l0.length : Int) (wrap64 (x10_1 + 1))) else (some false)) = some r := H
       have A6 := Aside0.mk A60
       clear A60
       by_cases c7 : t167 = true
       ·subst c7
        have H1 : (impl_rowValid.l0 k1 l0 (l0.length : Int) (wrap64 (x10_1 + 1))) = some r := by rw [if_pos rfl] at H; exact H
        clear H
        have H := H1
        clear H1
        have H' := Aside0.mk H
        clear H
        have p165 : 0 ≤ (x10_1 : Int) := of_decide_eq_true (by first | (with_reducible assumption) | assumption)
        have q165 : x10_1 < (l0.length : Int) := of_decide_eq_true (by first | (with_reducible assumption) | assumption)
        obtain ⟨ad165, A165_3, c165_3, A165_5, c165_5, e165, hx165_0, hx165_1, hx165_2, hx165_3, hx165_4, hx165_5, hl165_3, hi165_3, hl165_5, hi165_5⟩ := at_T41 HR0.out x10_1 p165 q165
        cases e165
        replace hx165_0 := (HB.out.cell (World.block_lt_of_cell? w _ hx165_0)).trans hx165_0
        replace hx165_1 := (HB.out.cell (World.block_lt_of_cell? w _ hx165_1)).trans hx165_1
        replace hx165_2 := (HB.out.cell (World.block_lt_of_cell? w _ hx165_2)).trans hx165_2
        replace hx165_3 := (HB.out.cell (World.block_lt_of_cell? w _ hx165_3)).trans hx165_3
        replace hx165_4 := (HB.out.cell (World.block_lt_of_cell? w _ hx165_4)).trans hx165_4
        replace hx165_5 := (HB.out.cell (World.block_lt_of_cell? w _ hx165_5)).trans hx165_5
        have HR165_3 := Aside0.mk hi165_3
        have HC165_3 := Aside0.mk hl165_3
        clear hi165_3 hl165_3
        have HR165_5 := Aside0.mk hi165_5
        have HC165_5 := Aside0.mk hl165_5
        clear hi165_5 hl165_5
        replace p165 := eq_true p165
        replace q165 := eq_true q165
        go_wp2_with (first | ((with_reducible refine gate_dst (N := 4) rfl ?_); refine box_event ?hg (N := 4) ?hd (cs := #[.int .i64 0, .int .i64 0, .bool false, .slice none 0 0, .bool false, .slice none 0 0]) (t := 41) ?hr ?_; (case hd => rfl); (case hg => rfl); (case hr => first | (go_simp; done) | (go_simp; rfl)); intro gb166 hg w8 hbox hb; have n0_ := Aside0.mk (below_step (by repeat (first | (with_reducible first | exact HB.out | apply below_alloc | apply pw_below_drewN | apply below_drew1) | exact HB.out)) hb); have n1_ := Aside0.mk (hbox); have n2_ := Aside0.mk ((by rw [hg]; exact (below_size (by repeat (first | (with_reducible first | exact HB.out | apply below_alloc | apply pw_below_drewN | apply below_drew1) | exact HB.out))) : w.heap.size ≤ gb166)); have n3_ := Aside0.mk ((by rw [hg]; exact (below_size (by repeat (first | (with_reducible first | exact HB.out | apply below_alloc | apply pw_below_drewN | apply below_drew1) | exact HB.out))) : w.heap.size ≤ gb166)); clear HB; have HB := n0_; have BK166 := n1_; have GW166 := n2_; have GE166 := n3_; clear n0_ n1_ n2_ n3_; clear hb hbox hg; have hcz9_0 : w8.cell? ⟨gb166, 0, none⟩ = some (.int .i64 0) := (blk_cell BK166.out 0).trans rfl; have hcz9_1 : w8.cell? ⟨gb166, 1, none⟩ = some (.int .i64 0) := (blk_cell BK166.out 1).trans rfl; have hcz9_2 : w8.cell? ⟨gb166, 2, none⟩ = some (.bool false) := (blk_cell BK166.out 2).trans rfl; have hcz9_3 : w8.cell? ⟨gb166, 3, none⟩ = some (.slice none 0 0) := (blk_cell BK166.out 3).trans rfl; have hcz9_4 : w8.cell? ⟨gb166, 4, none⟩ = some (.bool false) := (blk_cell BK166.out 4).trans rfl; have hcz9_5 : w8.cell? ⟨gb166, 5, none⟩ = some (.slice none 0 0) := (blk_cell BK166.out 5).trans rfl; have hfz9_0 := blk_frozen BK166.out 0; have hfz9_1 := blk_frozen BK166.out 1; have hfz9_2 := blk_frozen BK166.out 2; have hfz9_3 := blk_frozen BK166.out 3; have hfz9_4 := blk_frozen BK166.out 4; have hfz9_5 := blk_frozen BK166.out 5) | ((with_reducible refine gate_callee (f := 64) rfl ?_); refine goesL_ (some 15) rfl rfl Try.func64 (by kernel_rfl) rfl #[.agg #[.int .i64 ((rd_T41 l0 x10_1).f0), .int .i64 ((rd_T41 l0 x10_1).f1), .bool ((rd_T41 l0 x10_1).f2), .slice A165_3 ((rd_T41 l0 x10_1).f3).length c165_3, .bool ((rd_T41 l0 x10_1).f4), .slice A165_5 ((rd_T41 l0 x10_1).f5).length c165_5]] rfl (by (try simp only [List.map_toArray, List.map_cons, List.map_nil]); first | done | rfl | (simp only [List.length_drop, List.length_take]; rfl)) ?_; (with_reducible refine (impl_RecordValid.calls k1 ((rd_T41 l0 x10_1).f0) ((rd_T41 l0 x10_1).f1) ((rd_T41 l0 x10_1).f2) _ _ ((rd_T41 l0 x10_1).f3) ((rd_T41 l0 x10_1).f4) _ _ ((rd_T41 l0 x10_1).f5) true _ ?side1 ?side2 ?side3 ?side4 A6.out).mono ?_); (case side1 => exact Kd.C_below HR165_3.out (by repeat (first | (with_reducible first | exact HB.out | apply below_alloc | apply pw_below_drewN | apply below_drew1 | refine below_set ?_ GE166.out) | exact HB.out))); (case side2 => exact HC165_3.out); (case side3 => exact Kd.C_below HR165_5.out (by repeat (first | (with_reducible first | exact HB.out | apply below_alloc | apply pw_below_drewN | apply below_drew1 | refine below_set ?_ GE166.out) | exact HB.out))); (case side4 => exact HC165_5.out); rintro e w10 ⟨rfl, hb⟩; refine ⟨_, rfl, ?_⟩; have n0_ := Aside0.mk (blk_below (g := gb166) (o := .cells #[.int .i64 ((rd_T41 l0 x10_1).f0), .int .i64 ((rd_T41 l0 x10_1).f1), .bool ((rd_T41 l0 x10_1).f2), .slice A165_3 ((rd_T41 l0 x10_1).f3).length c165_3, .bool ((rd_T41 l0 x10_1).f4), .slice A165_5 ((rd_T41 l0 x10_1).f5).length c165_5] 41 (0, 0)) (by (with_reducible repeat (first | refine blk_drewN ?_ _ | refine blk_drew ?_ | refine blk_alloc ?_ _)); refine blk_put (cs := #[.int .i64 ((rd_T41 l0 x10_1).f0), .int .i64 ((rd_T41 l0 x10_1).f1), .bool ((rd_T41 l0 x10_1).f2), .slice A165_3 ((rd_T41 l0 x10_1).f3).length c165_3, .bool ((rd_T41 l0 x10_1).f4), .slice none 0 0]) ?_ 5 _ rfl; (with_reducible repeat (first | refine blk_drewN ?_ _ | refine blk_drew ?_ | refine blk_alloc ?_ _)); refine blk_put (cs := #[.int .i64 ((rd_T41 l0 x10_1).f0), .int .i64 ((rd_T41 l0 x10_1).f1), .bool ((rd_T41 l0 x10_1).f2), .slice A165_3 ((rd_T41 l0 x10_1).f3).length c165_3, .bool false, .slice none 0 0]) ?_ 4 _ rfl; (with_reducible repeat (first | refine blk_drewN ?_ _ | refine blk_drew ?_ | refine blk_alloc ?_ _)); refine blk_put (cs := #[.int .i64 ((rd_T41 l0 x10_1).f0), .int .i64 ((rd_T41 l0 x10_1).f1), .bool ((rd_T41 l0 x10_1).f2), .slice none 0 0, .bool false, .slice none 0 0]) ?_ 3 _ rfl; (with_reducible repeat (first | refine blk_drewN ?_ _ | refine blk_drew ?_ | refine blk_alloc ?_ _)); refine blk_put (cs := #[.int .i64 ((rd_T41 l0 x10_1).f0), .int .i64 ((rd_T41 l0 x10_1).f1), .bool false, .slice none 0 0, .bool false, .slice none 0 0]) ?_ 2 _ rfl; (with_reducible repeat (first | refine blk_drewN ?_ _ | refine blk_drew ?_ | refine blk_alloc ?_ _)); refine blk_put (cs := #[.int .i64 ((rd_T41 l0 x10_1).f0), .int .i64 0, .bool false, .slice none 0 0, .bool false, .slice none 0 0]) ?_ 1 _ rfl; (with_reducible repeat (first | refine blk_drewN ?_ _ | refine blk_drew ?_ | refine blk_alloc ?_ _)); refine blk_put (cs := #[.int .i64 0, .int .i64 0, .bool false, .slice none 0 0, .bool false, .slice none 0 0]) ?_ 0 _ rfl; (with_reducible repeat (first | refine blk_drewN ?_ _ | refine blk_drew ?_ | refine blk_alloc ?_ _)); exact BK166.out) hb); have n1_ := Aside0.mk (below_step (by repeat (first | (with_reducible first | exact HB.out | apply below_alloc | apply pw_below_drewN | apply below_drew1 | refine below_set ?_ GE166.out) | exact HB.out)) hb); clear BK166; clear HB; have BK166 := n0_; have HB := n1_; clear n0_ n1_; (try clear hb); (try clear hb2); (try clear hk); (try clear hi)))
        go_roundg k1
        case measure => have := HK1.out; omega
        case rel => exact ⟨(wrap64 (x10_1 + 1)), (by first | rfl | (simp; done) | (simp [*]; done)), H', ⟨by have := HK1.out; omega⟩, ⟨by repeat (first | (with_reducible first | exact HB.out | apply below_alloc | apply pw_below_drewN | apply below_drew1 | refine below_set ?_ GE166.out) | exact HB.out)⟩⟩
       ·replace c7 := Bool.eq_false_iff.mpr c7
        subst c7
        have H1 : (some false) = some r := by rw [if_neg (show ¬ (false = true) by decide)] at H; exact H
        clear H
        have H := H1
        clear H1
        obtain rfl := Option.some.inj H
        have p165 : 0 ≤ (x10_1 : Int) := of_decide_eq_true (by first | (with_reducible assumption) | assumption)
        have q165 : x10_1 < (l0.length : Int) := of_decide_eq_true (by first | (with_reducible assumption) | assumption)
        obtain ⟨ad165, A165_3, c165_3, A165_5, c165_5, e165, hx165_0, hx165_1, hx165_2, hx165_3, hx165_4, hx165_5, hl165_3, hi165_3, hl165_5, hi165_5⟩ := at_T41 HR0.out x10_1 p165 q165
        cases e165
        replace hx165_0 := (HB.out.cell (World.block_lt_of_cell? w _ hx165_0)).trans hx165_0
        replace hx165_1 := (HB.out.cell (World.block_lt_of_cell? w _ hx165_1)).trans hx165_1
        replace hx165_2 := (HB.out.cell (World.block_lt_of_cell? w _ hx165_2)).trans hx165_2
        replace hx165_3 := (HB.out.cell (World.block_lt_of_cell? w _ hx165_3)).trans hx165_3
        replace hx165_4 := (HB.out.cell (World.block_lt_of_cell? w _ hx165_4)).trans hx165_4
        replace hx165_5 := (HB.out.cell (World.block_lt_of_cell? w _ hx165_5)).trans hx165_5
        have HR165_3 := Aside0.mk hi165_3
        have HC165_3 := Aside0.mk hl165_3
        clear hi165_3 hl165_3
        have HR165_5 := Aside0.mk hi165_5
        have HC165_5 := Aside0.mk hl165_5
        clear hi165_5 hl165_5
        replace p165 := eq_true p165
        replace q165 := eq_true q165
        go_wp2_with (first | ((with_reducible refine gate_dst (N := 4) rfl ?_); refine box_event ?hg (N := 4) ?hd (cs := #[.int .i64 0, .int .i64 0, .bool false, .slice none 0 0, .bool false, .slice none 0 0]) (t := 41) ?hr ?_; (case hd => rfl); (case hg => rfl); (case hr => first | (go_simp; done) | (go_simp; rfl)); intro gb166 hg w11 hbox hb; have n0_ := Aside0.mk (below_step (by repeat (first | (with_reducible first | exact HB.out | apply below_alloc | apply pw_below_drewN | apply below_drew1) | exact HB.out)) hb); have n1_ := Aside0.mk (hbox); have n2_ := Aside0.mk ((by rw [hg]; exact (below_size (by repeat (first | (with_reducible first | exact HB.out | apply below_alloc | apply pw_below_drewN | apply below_drew1) | exact HB.out))) : w.heap.size ≤ gb166)); have n3_ := Aside0.mk ((by rw [hg]; exact (below_size (by repeat (first | (with_reducible first | exact HB.out | apply below_alloc | apply pw_below_drewN | apply below_drew1) | exact HB.out))) : w.heap.size ≤ gb166)); clear HB; have HB := n0_; have BK166 := n1_; have GW166 := n2_; have GE166 := n3_; clear n0_ n1_ n2_ n3_; clear hb hbox hg; have hcz12_0 : w11.cell? ⟨gb166, 0, none⟩ = some (.int .i64 0) := (blk_cell BK166.out 0).trans rfl; have hcz12_1 : w11.cell? ⟨gb166, 1, none⟩ = some (.int .i64 0) := (blk_cell BK166.out 1).trans rfl; have hcz12_2 : w11.cell? ⟨gb166, 2, none⟩ = some (.bool false) := (blk_cell BK166.out 2).trans rfl; have hcz12_3 : w11.cell? ⟨gb166, 3, none⟩ = some (.slice none 0 0) := (blk_cell BK166.out 3).trans rfl; have hcz12_4 : w11.cell? ⟨gb166, 4, none⟩ = some (.bool false) := (blk_cell BK166.out 4).trans rfl; have hcz12_5 : w11.cell? ⟨gb166, 5, none⟩ = some (.slice none 0 0) := (blk_cell BK166.out 5).trans rfl; have hfz12_0 := blk_frozen BK166.out 0; have hfz12_1 := blk_frozen BK166.out 1; have hfz12_2 := blk_frozen BK166.out 2; have hfz12_3 := blk_frozen BK166.out 3; have hfz12_4 := blk_frozen BK166.out 4; have hfz12_5 := blk_frozen BK166.out 5) | ((with_reducible refine gate_callee (f := 64) rfl ?_); refine goesL_ (some 15) rfl rfl Try.func64 (by kernel_rfl) rfl #[.agg #[.int .i64 ((rd_T41 l0 x10_1).f0), .int .i64 ((rd_T41 l0 x10_1).f1), .bool ((rd_T41 l0 x10_1).f2), .slice A165_3 ((rd_T41 l0 x10_1).f3).length c165_3, .bool ((rd_T41 l0 x10_1).f4), .slice A165_5 ((rd_T41 l0 x10_1).f5).length c165_5]] rfl (by (try simp only [List.map_toArray, List.map_cons, List.map_nil]); first | done | rfl | (simp only [List.length_drop, List.length_take]; rfl)) ?_; (with_reducible refine (impl_RecordValid.calls k1 ((rd_T41 l0 x10_1).f0) ((rd_T41 l0 x10_1).f1) ((rd_T41 l0 x10_1).f2) _ _ ((rd_T41 l0 x10_1).f3) ((rd_T41 l0 x10_1).f4) _ _ ((rd_T41 l0 x10_1).f5) false _ ?side1 ?side2 ?side3 ?side4 A6.out).mono ?_); (case side1 => exact Kd.C_below HR165_3.out (by repeat (first | (with_reducible first | exact HB.out | apply below_alloc | apply pw_below_drewN | apply below_drew1 | refine below_set ?_ GE166.out) | exact HB.out))); (case side2 => exact HC165_3.out); (case side3 => exact Kd.C_below HR165_5.out (by repeat (first | (with_reducible first | exact HB.out | apply below_alloc | apply pw_below_drewN | apply below_drew1 | refine below_set ?_ GE166.out) | exact HB.out))); (case side4 => exact HC165_5.out); rintro e w13 ⟨rfl, hb⟩; refine ⟨_, rfl, ?_⟩; have n0_ := Aside0.mk (blk_below (g := gb166) (o := .cells #[.int .i64 ((rd_T41 l0 x10_1).f0), .int .i64 ((rd_T41 l0 x10_1).f1), .bool ((rd_T41 l0 x10_1).f2), .slice A165_3 ((rd_T41 l0 x10_1).f3).length c165_3, .bool ((rd_T41 l0 x10_1).f4), .slice A165_5 ((rd_T41 l0 x10_1).f5).length c165_5] 41 (0, 0)) (by (with_reducible repeat (first | refine blk_drewN ?_ _ | refine blk_drew ?_ | refine blk_alloc ?_ _)); refine blk_put (cs := #[.int .i64 ((rd_T41 l0 x10_1).f0), .int .i64 ((rd_T41 l0 x10_1).f1), .bool ((rd_T41 l0 x10_1).f2), .slice A165_3 ((rd_T41 l0 x10_1).f3).length c165_3, .bool ((rd_T41 l0 x10_1).f4), .slice none 0 0]) ?_ 5 _ rfl; (with_reducible repeat (first | refine blk_drewN ?_ _ | refine blk_drew ?_ | refine blk_alloc ?_ _)); refine blk_put (cs := #[.int .i64 ((rd_T41 l0 x10_1).f0), .int .i64 ((rd_T41 l0 x10_1).f1), .bool ((rd_T41 l0 x10_1).f2), .slice A165_3 ((rd_T41 l0 x10_1).f3).length c165_3, .bool false, .slice none 0 0]) ?_ 4 _ rfl; (with_reducible repeat (first | refine blk_drewN ?_ _ | refine blk_drew ?_ | refine blk_alloc ?_ _)); refine blk_put (cs := #[.int .i64 ((rd_T41 l0 x10_1).f0), .int .i64 ((rd_T41 l0 x10_1).f1), .bool ((rd_T41 l0 x10_1).f2), .slice none 0 0, .bool false, .slice none 0 0]) ?_ 3 _ rfl; (with_reducible repeat (first | refine blk_drewN ?_ _ | refine blk_drew ?_ | refine blk_alloc ?_ _)); refine blk_put (cs := #[.int .i64 ((rd_T41 l0 x10_1).f0), .int .i64 ((rd_T41 l0 x10_1).f1), .bool false, .slice none 0 0, .bool false, .slice none 0 0]) ?_ 2 _ rfl; (with_reducible repeat (first | refine blk_drewN ?_ _ | refine blk_drew ?_ | refine blk_alloc ?_ _)); refine blk_put (cs := #[.int .i64 ((rd_T41 l0 x10_1).f0), .int .i64 0, .bool false, .slice none 0 0, .bool false, .slice none 0 0]) ?_ 1 _ rfl; (with_reducible repeat (first | refine blk_drewN ?_ _ | refine blk_drew ?_ | refine blk_alloc ?_ _)); refine blk_put (cs := #[.int .i64 0, .int .i64 0, .bool false, .slice none 0 0, .bool false, .slice none 0 0]) ?_ 0 _ rfl; (with_reducible repeat (first | refine blk_drewN ?_ _ | refine blk_drew ?_ | refine blk_alloc ?_ _)); exact BK166.out) hb); have n1_ := Aside0.mk (below_step (by repeat (first | (with_reducible first | exact HB.out | apply below_alloc | apply pw_below_drewN | apply below_drew1 | refine below_set ?_ GE166.out) | exact HB.out)) hb); clear BK166; clear HB; have BK166 := n0_; have HB := n1_; clear n0_ n1_; (try clear hb); (try clear hb2); (try clear hk); (try clear hi)))
        go_ret
        exact ⟨by first | rfl | (simp [errW_none, errW_some] <;> rfl) | (simp [*, errW_none, errW_some] <;> rfl), by repeat (first | (with_reducible first | exact HB.out | apply below_alloc | apply pw_below_drewN | apply below_drew1 | refine below_set ?_ GE166.out) | exact HB.out)⟩
      ·rw [if_neg c5] at H
       exact absurd H (by simp)
     ·rw [if_neg c4] at H
      exact absurd H (by simp)
    ·rw [if_neg c3] at H
     have c3b0 : decide (x10_1 < (l0.length : Int)) = false := decide_eq_false c3
     clear c3
     obtain rfl := Option.some.inj H
     go_wp2
     go_ret
     exact ⟨by first | rfl | (simp [errW_none, errW_some] <;> rfl) | (simp [*, errW_none, errW_some] <;> rfl), by repeat (first | (with_reducible first | exact HB.out | apply below_alloc | apply pw_below_drewN | apply below_drew1) | exact HB.out)⟩

end Go.Proofs.Ythlnbbehcpdnfaa.G

namespace Go.Proofs.Ythlnbbehcpdnfaa.G
open Go.RowKit Go.Proofs.YthlnbbehcpdnfaaW.PrintWords Go.Proofs.YthlnbbehcpdnfaaW.PrintLast Go.Proofs.YthlnbbehcpdnfaaW.PrintMore
attribute [local go_sem] max2_int min2_int max_two min_two max_three min_three max_four min_four   -- for this text's walks alone
set_option linter.unusedVariables false
set_option linter.unusedSimpArgs false

def impl_Record_copyOf.f (a0_0 : Int) (a0_1 : Int) (a0_2 : Bool) (l0_3 : List Int) (a0_4 : Bool) (l0_5 : List Int) : Option (Int × Int × Bool × List Int × Bool × List Int) := (slices_Clone_int_int.f l0_3).bind fun t170 => ((slices_Clone_int_int.f l0_5).bind fun t173 => (some (a0_0, a0_1, a0_2, t170, a0_4, t173)))
set_option maxHeartbeats 8000000 in
set_option maxRecDepth 100000 in
theorem impl_Record_copyOf.calls (a0_0 : Int) (a0_1 : Int) (a0_2 : Bool) (A0_3 : Option Addr) (c0_3 : Nat) (l0_3 : List Int) (a0_4 : Bool) (A0_5 : Option Addr) (c0_5 : Nat) (l0_5 : List Int) (r1 : Int) (r2 : Int) (r3 : Bool) (r4 : List Int) (r5 : Bool) (r6 : List Int) (w : World) (hr0_3 : Kd.C (Kd.int .i64) w A0_3 l0_3.length l0_3) (hc0_3 : l0_3.length ≤ c0_3) (hr0_5 : Kd.C (Kd.int .i64) w A0_5 l0_5.length l0_5) (hc0_5 : l0_5.length ≤ c0_5) (h : impl_Record_copyOf.f a0_0 a0_1 a0_2 l0_3 a0_4 l0_5 = some (r1, r2, r3, r4, r5, r6)) :
  Calls Try.prog 71 #[.agg #[.int .i64 a0_0, .int .i64 a0_1, .bool a0_2, .slice A0_3 l0_3.length c0_3, .bool a0_4, .slice A0_5 l0_5.length c0_5]] w fun e w' => ∃ v3_ v5_ : Value, e = .returned (.agg #[.int .i64 r1, .int .i64 r2, .bool r3, v3_, .bool r5, v5_]) ∧ Kd.R (Kd.int .i64) 3 w' w.heap.size (fun k_ => some k_ ≠ (v5_ : Value).ownBlock) v3_ r4 ∧ Kd.R (Kd.int .i64) 3 w' w.heap.size (fun k_ => some k_ ≠ (v3_ : Value).ownBlock) v5_ r6 ∧ Below w.heap.size w w' := by
 have hu41 := Try.underlying41
 have HR0_3 := Aside0.mk hr0_3
 have HC0_3 := Aside0.mk hc0_3
 clear hr0_3 hc0_3
 have HR0_5 := Aside0.mk hr0_5
 have HC0_5 := Aside0.mk hc0_5
 clear hr0_5 hc0_5
 have HB := Aside0.mk (Below.refl w.heap.size w)
 have H : ((slices_Clone_int_int.f l0_3).bind fun t170 => ((slices_Clone_int_int.f l0_5).bind fun t173 => (some (a0_0, a0_1, a0_2, t170, a0_4, t173)))) = some (r1, r2, r3, r4, r5, r6) := h
 clear h
 replace H := Option.bind_eq_some_iff.mp H
 obtain ⟨t170, A20, H⟩ := H
 replace H : ((slices_Clone_int_int.f l0_5).bind fun t173 => (some (a0_0, a0_1, a0_2, t170, a0_4, t173))) = some (r1, r2, r3, r4, r5, r6) := H
 have A2 := Aside0.mk A20
 clear A20
 replace H := Option.bind_eq_some_iff.mp H
 obtain ⟨t173, A30, H⟩ := H
 replace H : (some (a0_0, a0_1, a0_2, t170, a0_4, t173)) = some (r1, r2, r3, r4, r5, r6) := H
 have A3 := Aside0.mk A30
 clear A30
 simp only [Option.some.injEq, Prod.mk.injEq] at H
 obtain ⟨rfl, rfl, rfl, rfl, rfl, rfl⟩ := H
 go_enter Try.func71, Try.ntmps71
 go_wp2_with (first | ((with_reducible refine gate_dst (N := 1) rfl ?_); refine box_event ?hg (N := 1) ?hd (cs := #[.int .i64 a0_0, .int .i64 a0_1, .bool a0_2, .slice A0_3 l0_3.length c0_3, .bool a0_4, .slice A0_5 l0_5.length c0_5]) (t := 41) ?hr ?_; (case hd => rfl); (case hg => rfl); (case hr => first | (go_simp; done) | (go_simp; rfl)); intro gb168 hg w4 hbox hb; have n0_ := Aside0.mk (below_step (by repeat (first | (with_reducible first | exact HB.out | apply below_alloc | apply pw_below_drewN | apply below_drew1) | exact HB.out)) hb); have n1_ := Aside0.mk (hbox); have n2_ := Aside0.mk ((by rw [hg]; exact (below_size (by repeat (first | (with_reducible first | exact HB.out | apply below_alloc | apply pw_below_drewN | apply below_drew1) | exact HB.out))) : w.heap.size ≤ gb168)); have n3_ := Aside0.mk ((by rw [hg]; exact (below_size (by repeat (first | (with_reducible first | exact HB.out | apply below_alloc | apply pw_below_drewN | apply below_drew1) | exact HB.out))) : w.heap.size ≤ gb168)); clear HB; have HB := n0_; have BK168 := n1_; have GW168 := n2_; have GE168 := n3_; clear n0_ n1_ n2_ n3_; clear hb hbox hg) | ((with_reducible refine gate_dst (N := 2) rfl ?_); refine box_event ?hg (N := 2) ?hd (cs := #[.int .i64 0, .int .i64 0, .bool false, .slice none 0 0, .bool false, .slice none 0 0]) (t := 41) ?hr ?_; (case hd => rfl); (case hg => rfl); (case hr => first | (go_simp; done) | (go_simp; rfl)); intro gb169 hg w5 hbox hb; have n0_ := Aside0.mk (blk_below (g := gb168) (o := .cells #[.int .i64 a0_0, .int .i64 a0_1, .bool a0_2, .slice A0_3 l0_3.length c0_3, .bool a0_4, .slice A0_5 l0_5.length c0_5] 41 (0, 0)) (by (with_reducible repeat (first | refine blk_drewN ?_ _ | refine blk_drew ?_ | refine blk_alloc ?_ _)); exact BK168.out) hb); have n1_ := Aside0.mk (below_step (by repeat (first | (with_reducible first | exact HB.out | apply below_alloc | apply pw_below_drewN | apply below_drew1 | refine below_set ?_ GE168.out) | exact HB.out)) hb); have n2_ := Aside0.mk (hbox); have n3_ := Aside0.mk ((by rw [hg]; exact (below_size (by repeat (first | (with_reducible first | exact HB.out | apply below_alloc | apply pw_below_drewN | apply below_drew1 | refine below_set ?_ GE168.out) | exact HB.out))) : w.heap.size ≤ gb169)); have n4_ := Aside0.mk ((by rw [hg]; exact (below_size (by repeat (first | (with_reducible first | exact HB.out | apply below_alloc | apply pw_below_drewN | apply below_drew1 | refine below_set ?_ GE168.out) | exact HB.out))) : w.heap.size ≤ gb169)); have n5_ := Aside0.mk ((by rw [hg]; exact Nat.ne_of_lt (blk_lt (g := gb168) (o := .cells #[.int .i64 a0_0, .int .i64 a0_1, .bool a0_2, .slice A0_3 l0_3.length c0_3, .bool a0_4, .slice A0_5 l0_5.length c0_5] 41 (0, 0)) (by (with_reducible repeat (first | refine blk_drewN ?_ _ | refine blk_drew ?_ | refine blk_alloc ?_ _)); exact BK168.out)) : gb168 ≠ gb169)); have n6_ := Aside0.mk ((by rw [hg]; exact Nat.ne_of_gt (blk_lt (g := gb168) (o := .cells #[.int .i64 a0_0, .int .i64 a0_1, .bool a0_2, .slice A0_3 l0_3.length c0_3, .bool a0_4, .slice A0_5 l0_5.length c0_5] 41 (0, 0)) (by (with_reducible repeat (first | refine blk_drewN ?_ _ | refine blk_drew ?_ | refine blk_alloc ?_ _)); exact BK168.out)) : gb169 ≠ gb168)); clear BK168; clear HB; have BK168 := n0_; have HB := n1_; have BK169 := n2_; have GW169 := n3_; have GE169 := n4_; have NB168_169 := n5_; have NB169_168 := n6_; clear n0_ n1_ n2_ n3_ n4_ n5_ n6_; clear hb hbox hg; have hnb6 := NB168_169.out; have hnc6 := NB169_168.out; have hcz7_0 : w5.cell? ⟨gb168, 0, none⟩ = some (.int .i64 a0_0) := (blk_cell BK168.out 0).trans rfl; have hcz7_1 : w5.cell? ⟨gb168, 1, none⟩ = some (.int .i64 a0_1) := (blk_cell BK168.out 1).trans rfl; have hcz7_2 : w5.cell? ⟨gb168, 2, none⟩ = some (.bool a0_2) := (blk_cell BK168.out 2).trans rfl; have hcz7_3 : w5.cell? ⟨gb168, 3, none⟩ = some (.slice A0_3 l0_3.length c0_3) := (blk_cell BK168.out 3).trans rfl; have hcz7_4 : w5.cell? ⟨gb168, 4, none⟩ = some (.bool a0_4) := (blk_cell BK168.out 4).trans rfl; have hcz7_5 : w5.cell? ⟨gb168, 5, none⟩ = some (.slice A0_5 l0_5.length c0_5) := (blk_cell BK168.out 5).trans rfl; have hfz7_0 := blk_frozen BK168.out 0; have hfz7_1 := blk_frozen BK168.out 1; have hfz7_2 := blk_frozen BK168.out 2; have hfz7_3 := blk_frozen BK168.out 3; have hfz7_4 := blk_frozen BK168.out 4; have hfz7_5 := blk_frozen BK168.out 5) | ((with_reducible refine gate_callee (f := 77) rfl ?_); refine goesL_ (some 5) rfl rfl Try.func77 (by kernel_rfl) rfl #[.slice A0_3 l0_3.length c0_3] rfl (by (try simp only [List.map_toArray, List.map_cons, List.map_nil]); first | done | rfl | (simp only [List.length_drop, List.length_take]; rfl)) ?_; (with_reducible refine (slices_Clone_int_int.calls _ _ l0_3 t170 _ ?side1 ?side2 A2.out).mono ?_); (case side1 => repeat (first | exact (Kd.C_below HR0_3.out HB.out) | (with_reducible refine Kd.C_alloc ?_ _) | (with_reducible refine Kd.C_drewN ?_ _) | (with_reducible refine Kd.C_drew ?_))); (case side2 => exact HC0_3.out); rintro e w8 ⟨v171, rfl, ho0, hb⟩; have u_v171 : ∀ (a_ : Addr) (m_ : Mode) (W_ : World), (store a_ v171 m_).run Try.prog W_ = stored Try.prog W_ a_ v171 m_ := fun a_ m_ W_ => run_store _ W_ a_ _ m_ (by first | (obtain ⟨_, _, e_⟩ := Kd.R_slice ho0; rw [e_]; rfl) | (obtain ⟨_, _, e_⟩ := Kd.S_slice ho0; rw [e_]; rfl) | (obtain ⟨_, _, e_, _⟩ := Kd.Q_slice ho0; rw [e_]; rfl) | (obtain ⟨_, _, e_⟩ := Kd.N_slice ho0; rw [e_]; rfl) | (obtain ⟨_, _, e_⟩ := Kd.V_slice ho0; rw [e_]; rfl)); refine ⟨_, rfl, ?_⟩; have n0_ := Aside0.mk (Kd.R_lower ho0 (below_size (by repeat (first | (with_reducible first | exact HB.out | apply below_alloc | apply pw_below_drewN | apply below_drew1 | refine below_set ?_ GE168.out | refine below_set ?_ GE169.out) | exact HB.out)))); have n1_ := Aside0.mk (blk_below (g := gb168) (o := .cells #[.int .i64 a0_0, .int .i64 a0_1, .bool a0_2, .slice A0_3 l0_3.length c0_3, .bool a0_4, .slice A0_5 l0_5.length c0_5] 41 (0, 0)) (by (with_reducible repeat (first | refine blk_drewN ?_ _ | refine blk_drew ?_ | refine blk_alloc ?_ _)); exact BK168.out) hb); have n2_ := Aside0.mk (blk_below (g := gb169) (o := .cells #[.int .i64 0, .int .i64 0, .bool false, .slice none 0 0, .bool false, .slice none 0 0] 41 (0, 0)) (by (with_reducible repeat (first | refine blk_drewN ?_ _ | refine blk_drew ?_ | refine blk_alloc ?_ _)); exact BK169.out) hb); have n3_ := Aside0.mk (below_step (by repeat (first | (with_reducible first | exact HB.out | apply below_alloc | apply pw_below_drewN | apply below_drew1 | refine below_set ?_ GE168.out | refine below_set ?_ GE169.out) | exact HB.out)) hb); clear BK168; clear BK169; clear HB; have HO172 := n0_; have BK168 := n1_; have BK169 := n2_; have HB := n3_; clear n0_ n1_ n2_ n3_; (try clear hb); (try clear hb2); (try clear hk); (try clear hi); (try clear ho0); obtain ⟨Ao9, co9, eo9⟩ := Kd.R_slice HO172.out; subst eo9; have hcz10_0 : w8.cell? ⟨gb168, 0, none⟩ = some (.int .i64 a0_0) := (blk_cell BK168.out 0).trans rfl; have hcz10_1 : w8.cell? ⟨gb168, 1, none⟩ = some (.int .i64 a0_1) := (blk_cell BK168.out 1).trans rfl; have hcz10_2 : w8.cell? ⟨gb168, 2, none⟩ = some (.bool a0_2) := (blk_cell BK168.out 2).trans rfl; have hcz10_3 : w8.cell? ⟨gb168, 3, none⟩ = some (.slice A0_3 l0_3.length c0_3) := (blk_cell BK168.out 3).trans rfl; have hcz10_4 : w8.cell? ⟨gb168, 4, none⟩ = some (.bool a0_4) := (blk_cell BK168.out 4).trans rfl; have hcz10_5 : w8.cell? ⟨gb168, 5, none⟩ = some (.slice A0_5 l0_5.length c0_5) := (blk_cell BK168.out 5).trans rfl; have hfz10_0 := blk_frozen BK168.out 0; have hfz10_1 := blk_frozen BK168.out 1; have hfz10_2 := blk_frozen BK168.out 2; have hfz10_3 := blk_frozen BK168.out 3; have hfz10_4 := blk_frozen BK168.out 4; have hfz10_5 := blk_frozen BK168.out 5) | ((with_reducible refine gate_callee (f := 77) rfl ?_); refine goesL_ (some 9) rfl rfl Try.func77 (by kernel_rfl) rfl #[.slice A0_5 l0_5.length c0_5] rfl (by (try simp only [List.map_toArray, List.map_cons, List.map_nil]); first | done | rfl | (simp only [List.length_drop, List.length_take]; rfl)) ?_; (with_reducible refine (slices_Clone_int_int.calls _ _ l0_5 t173 _ ?side1 ?side2 A3.out).mono ?_); (case side1 => exact Kd.C_below HR0_5.out (by repeat (first | (with_reducible first | exact HB.out | apply below_alloc | apply pw_below_drewN | apply below_drew1 | refine below_set ?_ GE168.out | refine below_set ?_ GE169.out) | exact HB.out))); (case side2 => exact HC0_5.out); rintro e w11 ⟨v174, rfl, ho0, hb⟩; have u_v174 : ∀ (a_ : Addr) (m_ : Mode) (W_ : World), (store a_ v174 m_).run Try.prog W_ = stored Try.prog W_ a_ v174 m_ := fun a_ m_ W_ => run_store _ W_ a_ _ m_ (by first | (obtain ⟨_, _, e_⟩ := Kd.R_slice ho0; rw [e_]; rfl) | (obtain ⟨_, _, e_⟩ := Kd.S_slice ho0; rw [e_]; rfl) | (obtain ⟨_, _, e_, _⟩ := Kd.Q_slice ho0; rw [e_]; rfl) | (obtain ⟨_, _, e_⟩ := Kd.N_slice ho0; rw [e_]; rfl) | (obtain ⟨_, _, e_⟩ := Kd.V_slice ho0; rw [e_]; rfl)); refine ⟨_, rfl, ?_⟩; have n0_ := Aside0.mk (Kd.R_elder' (by (with_reducible repeat (first | apply Kd.R_alloc | apply Kd.R_drewN | apply Kd.R_drew)); exact (Kd.R_mono (Kd.R_far (p := ⟨gb168, 3, none⟩) (Kd.R_types HO172.out BK168.out (by decide)) (fun _ hk => hk.2) (.slice Ao9 t170.length co9)) (fun _ h_ => h_.1))) (Kd.R_base ho0) hb); have n1_ := Aside0.mk (Kd.R_lower (Kd.R_new' ho0 (Kd.R_lt (by (with_reducible repeat (first | apply Kd.R_alloc | apply Kd.R_drewN | apply Kd.R_drew)); exact (Kd.R_mono (Kd.R_far (p := ⟨gb168, 3, none⟩) (Kd.R_types HO172.out BK168.out (by decide)) (fun _ hk => hk.2) (.slice Ao9 t170.length co9)) (fun _ h_ => h_.1))))) (below_size (by repeat (first | (with_reducible first | exact HB.out | apply below_alloc | apply pw_below_drewN | apply below_drew1 | refine below_set ?_ GE168.out | refine below_set ?_ GE169.out) | exact HB.out)))); have n2_ := Aside0.mk (blk_below (g := gb168) (o := .cells #[.int .i64 a0_0, .int .i64 a0_1, .bool a0_2, .slice Ao9 t170.length co9, .bool a0_4, .slice A0_5 l0_5.length c0_5] 41 (0, 0)) (by (with_reducible repeat (first | refine blk_drewN ?_ _ | refine blk_drew ?_ | refine blk_alloc ?_ _)); refine blk_put (cs := #[.int .i64 a0_0, .int .i64 a0_1, .bool a0_2, .slice A0_3 l0_3.length c0_3, .bool a0_4, .slice A0_5 l0_5.length c0_5]) ?_ 3 _ rfl; (with_reducible repeat (first | refine blk_drewN ?_ _ | refine blk_drew ?_ | refine blk_alloc ?_ _)); exact BK168.out) hb); have n3_ := Aside0.mk (blk_below (g := gb169) (o := .cells #[.int .i64 0, .int .i64 0, .bool false, .slice none 0 0, .bool false, .slice none 0 0] 41 (0, 0)) (by (with_reducible repeat (first | refine blk_drewN ?_ _ | refine blk_drew ?_ | refine blk_alloc ?_ _)); refine blk_far ?_ NB169_168.out _; (with_reducible repeat (first | refine blk_drewN ?_ _ | refine blk_drew ?_ | refine blk_alloc ?_ _)); exact BK169.out) hb); have n4_ := Aside0.mk (below_step (by repeat (first | (with_reducible first | exact HB.out | apply below_alloc | apply pw_below_drewN | apply below_drew1 | refine below_set ?_ GE168.out | refine below_set ?_ GE169.out) | exact HB.out)) hb); clear HO172; clear BK168; clear BK169; clear HB; have HO172 := n0_; have HO175 := n1_; have BK168 := n2_; have BK169 := n3_; have HB := n4_; clear n0_ n1_ n2_ n3_ n4_; (try clear hb); (try clear hb2); (try clear hk); (try clear hi); (try clear ho0); obtain ⟨Ao12, co12, eo12⟩ := Kd.R_slice HO175.out; subst eo12; have hcz13_0 : w11.cell? ⟨gb168, 0, none⟩ = some (.int .i64 a0_0) := (blk_cell BK168.out 0).trans rfl; have hcz13_1 : w11.cell? ⟨gb168, 1, none⟩ = some (.int .i64 a0_1) := (blk_cell BK168.out 1).trans rfl; have hcz13_2 : w11.cell? ⟨gb168, 2, none⟩ = some (.bool a0_2) := (blk_cell BK168.out 2).trans rfl; have hcz13_3 : w11.cell? ⟨gb168, 3, none⟩ = some (.slice Ao9 t170.length co9) := (blk_cell BK168.out 3).trans rfl; have hcz13_4 : w11.cell? ⟨gb168, 4, none⟩ = some (.bool a0_4) := (blk_cell BK168.out 4).trans rfl; have hcz13_5 : w11.cell? ⟨gb168, 5, none⟩ = some (.slice A0_5 l0_5.length c0_5) := (blk_cell BK168.out 5).trans rfl; have hfz13_0 := blk_frozen BK168.out 0; have hfz13_1 := blk_frozen BK168.out 1; have hfz13_2 := blk_frozen BK168.out 2; have hfz13_3 := blk_frozen BK168.out 3; have hfz13_4 := blk_frozen BK168.out 4; have hfz13_5 := blk_frozen BK168.out 5; have hcz14_0 : w11.cell? ⟨gb169, 0, none⟩ = some (.int .i64 0) := (blk_cell BK169.out 0).trans rfl; have hcz14_1 : w11.cell? ⟨gb169, 1, none⟩ = some (.int .i64 0) := (blk_cell BK169.out 1).trans rfl; have hcz14_2 : w11.cell? ⟨gb169, 2, none⟩ = some (.bool false) := (blk_cell BK169.out 2).trans rfl; have hcz14_3 : w11.cell? ⟨gb169, 3, none⟩ = some (.slice none 0 0) := (blk_cell BK169.out 3).trans rfl; have hcz14_4 : w11.cell? ⟨gb169, 4, none⟩ = some (.bool false) := (blk_cell BK169.out 4).trans rfl; have hcz14_5 : w11.cell? ⟨gb169, 5, none⟩ = some (.slice none 0 0) := (blk_cell BK169.out 5).trans rfl; have hfz14_0 := blk_frozen BK169.out 0; have hfz14_1 := blk_frozen BK169.out 1; have hfz14_2 := blk_frozen BK169.out 2; have hfz14_3 := blk_frozen BK169.out 3; have hfz14_4 := blk_frozen BK169.out 4; have hfz14_5 := blk_frozen BK169.out 5))
 refine bodyPost_ret (results_cell_row rfl _ _ gb169 41 #[.int .i64 a0_0, .int .i64 a0_1, .bool a0_2, .slice Ao9 t170.length co9, .bool a0_4, .slice Ao12 t173.length co12] (0, 0) _ rfl (by (with_reducible repeat (first | refine blk_drewN ?_ _ | refine blk_drew ?_ | refine blk_alloc ?_ _)); refine blk_put (cs := #[.int .i64 a0_0, .int .i64 a0_1, .bool a0_2, .slice Ao9 t170.length co9, .bool a0_4, .slice none 0 0]) ?_ 5 _ rfl; (with_reducible repeat (first | refine blk_drewN ?_ _ | refine blk_drew ?_ | refine blk_alloc ?_ _)); refine blk_put (cs := #[.int .i64 a0_0, .int .i64 a0_1, .bool a0_2, .slice Ao9 t170.length co9, .bool false, .slice none 0 0]) ?_ 4 _ rfl; (with_reducible repeat (first | refine blk_drewN ?_ _ | refine blk_drew ?_ | refine blk_alloc ?_ _)); refine blk_put (cs := #[.int .i64 a0_0, .int .i64 a0_1, .bool a0_2, .slice none 0 0, .bool false, .slice none 0 0]) ?_ 3 _ rfl; (with_reducible repeat (first | refine blk_drewN ?_ _ | refine blk_drew ?_ | refine blk_alloc ?_ _)); refine blk_put (cs := #[.int .i64 a0_0, .int .i64 a0_1, .bool false, .slice none 0 0, .bool false, .slice none 0 0]) ?_ 2 _ rfl; (with_reducible repeat (first | refine blk_drewN ?_ _ | refine blk_drew ?_ | refine blk_alloc ?_ _)); refine blk_put (cs := #[.int .i64 a0_0, .int .i64 0, .bool false, .slice none 0 0, .bool false, .slice none 0 0]) ?_ 1 _ rfl; (with_reducible repeat (first | refine blk_drewN ?_ _ | refine blk_drew ?_ | refine blk_alloc ?_ _)); refine blk_put (cs := #[.int .i64 0, .int .i64 0, .bool false, .slice none 0 0, .bool false, .slice none 0 0]) ?_ 0 _ rfl; (with_reducible repeat (first | refine blk_drewN ?_ _ | refine blk_drew ?_ | refine blk_alloc ?_ _)); refine blk_far ?_ NB169_168.out _; (with_reducible repeat (first | refine blk_drewN ?_ _ | refine blk_drew ?_ | refine blk_alloc ?_ _)); exact BK169.out) Try.underlying41 rfl (by kernel_rfl)) rfl ?_
 exact ⟨_, _, by first | rfl | (simp [errW_none, errW_some] <;> rfl) | (simp [*, errW_none, errW_some] <;> rfl), by (with_reducible repeat (first | apply Kd.R_alloc | apply Kd.R_drewN | apply Kd.R_drew)); exact Kd.R_mono (Kd.R_far (p := ⟨gb169, 5, none⟩) (Kd.R_far (p := ⟨gb169, 4, none⟩) (Kd.R_far (p := ⟨gb169, 3, none⟩) (Kd.R_far (p := ⟨gb169, 2, none⟩) (Kd.R_far (p := ⟨gb169, 1, none⟩) (Kd.R_far (p := ⟨gb169, 0, none⟩) (Kd.R_far (p := ⟨gb168, 5, none⟩) (Kd.R_types (Kd.R_types HO172.out BK168.out (by decide)) BK169.out (by decide)) (fun _ hk => hk.1.2) (.slice Ao12 t173.length co12)) (fun _ hk => hk.2) (.int .i64 a0_0)) (fun _ hk => hk.2) (.int .i64 a0_1)) (fun _ hk => hk.2) (.bool a0_2)) (fun _ hk => hk.2) (.slice Ao9 t170.length co9)) (fun _ hk => hk.2) (.bool a0_4)) (fun _ hk => hk.2) (.slice Ao12 t173.length co12)) (fun _ hk => hk.1.1.2), by (with_reducible repeat (first | apply Kd.R_alloc | apply Kd.R_drewN | apply Kd.R_drew)); exact Kd.R_mono (Kd.R_far (p := ⟨gb169, 5, none⟩) (Kd.R_far (p := ⟨gb169, 4, none⟩) (Kd.R_far (p := ⟨gb169, 3, none⟩) (Kd.R_far (p := ⟨gb169, 2, none⟩) (Kd.R_far (p := ⟨gb169, 1, none⟩) (Kd.R_far (p := ⟨gb169, 0, none⟩) (Kd.R_far (p := ⟨gb168, 5, none⟩) (Kd.R_types (Kd.R_types HO175.out BK168.out (by decide)) BK169.out (by decide)) (fun _ hk => hk.1.2) (.slice Ao12 t173.length co12)) (fun _ hk => hk.2) (.int .i64 a0_0)) (fun _ hk => hk.2) (.int .i64 a0_1)) (fun _ hk => hk.2) (.bool a0_2)) (fun _ hk => hk.2) (.slice Ao9 t170.length co9)) (fun _ hk => hk.2) (.bool a0_4)) (fun _ hk => hk.2) (.slice Ao12 t173.length co12)) (fun _ hk => hk.1.1.2), by repeat (first | (with_reducible first | exact HB.out | apply below_alloc | apply pw_below_drewN | apply below_drew1 | refine below_set ?_ GE168.out | refine below_set ?_ GE169.out) | exact HB.out)⟩

end Go.Proofs.Ythlnbbehcpdnfaa.G

namespace Go.Proofs.Ythlnbbehcpdnfaa.G
open Go.RowKit Go.Conc Go.Proofs.YthlnbbehcpdnfaaW.PrintWords Go.Proofs.YthlnbbehcpdnfaaW.PrintLast Go.Proofs.YthlnbbehcpdnfaaW.PrintMore
set_option linter.unusedVariables false
set_option linter.unusedSimpArgs false
/-- What keeps every block of whole numbers. -/
def Kp3 (W W1 : World) : Prop := ∀ (k : Nat) (cells : Array Value), W.heap[k]? = some (Obj.cells cells 3 (0, 0)) → W1.heap[k]? = W.heap[k]?
theorem Kp3.refl (W : World) : Kp3 W W := fun _ _ _ => rfl
theorem Kp3.trans {W W1 W2 : World} (h : Kp3 W W1) (h' : Kp3 W1 W2) : Kp3 W W2 := fun k cells hk => (h' k cells ((h k cells hk).trans hk)).trans (h k cells hk)
theorem Kp3.below {W W1 : World} (h : Below W.heap.size W W1) : Kp3 W W1 := fun k cells hk => h.block k (Array.getElem?_eq_some_iff.1 hk).1
theorem Kp3.chan {W : World} {c cap s r : Nat} {buf : Array Value} {cl tm : Bool} (hc : W.heap[c]? = some (.chan cap buf cl s r tm)) (cap' : Nat) (buf' : Array Value) (cl' : Bool) (s' r' : Nat) (tm' : Bool) : Kp3 W (W.setChan c cap' buf' cl' s' r' tm') := by
  intro k cells hk
  have : k ≠ c := by
    rintro rfl
    rw [hc] at hk
    cases hk
  simp only [World.setChan]
  rw [Array.getElem?_setIfInBounds_ne (by omega)]
theorem Kp3.cell {W : World} {b t : Nat} {cs : Array Value} (hb : W.heap[b]? = some (.cells cs t (0, 0))) (ht : t ≠ 3) (j : Nat) (v : Value) : Kp3 W (W.setCell ⟨b, j, none⟩ v) := by
  intro k cells hk
  have : k ≠ b := by
    rintro rfl
    rw [hb] at hk
    injection hk with hk
    injection hk with _ hk
    exact ht hk
  exact Below.heap_setCell W ⟨b, j, none⟩ v k this
/-- A record's value whose rows are one's own. -/
def RV (W : World) (base : Nat) (x : S41) (v : Value) : Prop :=
  ∃ A3 c3 A5 c5, v = .agg #[.int .i64 x.f0, .int .i64 x.f1, .bool x.f2, .slice A3 x.f3.length c3, .bool x.f4, .slice A5 x.f5.length c5] ∧ Kd.R (Kd.int .i64) 3 W base (fun k => some k = (Value.slice A3 x.f3.length c3).ownBlock) (.slice A3 x.f3.length c3) x.f3 ∧ Kd.R (Kd.int .i64) 3 W base (fun k => some k = (Value.slice A5 x.f5.length c5).ownBlock) (.slice A5 x.f5.length c5) x.f5
theorem R_kp {W W1 : World} {base : Nat} {v : Value} {l : List Int} (h : Kp3 W W1) (hr : Kd.R (Kd.int .i64) 3 W base (fun k => some k = v.ownBlock) v l) : Kd.R (Kd.int .i64) 3 W1 base (fun k => some k = v.ownBlock) v l :=
  Kd.R_move hr (fun k hk => by
    obtain ⟨cells, hc⟩ := Kd.R_typed hr k hk.symm
    exact h k cells hc)
theorem RV.kp {W W1 : World} {base : Nat} {x : S41} {v : Value} (h : Kp3 W W1) (hr : RV W base x v) : RV W1 base x v := by
  obtain ⟨A3, c3, A5, c5, rfl, h3, h5⟩ := hr
  exact ⟨A3, c3, A5, c5, rfl, R_kp h h3, R_kp h h5⟩
theorem RV.lower {W : World} {base base' : Nat} {x : S41} {v : Value} (hb : base' ≤ base) (hr : RV W base x v) : RV W base' x v := by
  obtain ⟨A3, c3, A5, c5, rfl, h3, h5⟩ := hr
  exact ⟨A3, c3, A5, c5, rfl, Kd.R_lower h3 hb, Kd.R_lower h5 hb⟩
def Buf (W : World) (base : Nat) (buf : Array Value) (l : List S41) : Prop := buf.size = l.length ∧ ∀ (j : Nat) (x : S41), l[j]? = some x → ∃ v, buf[j]? = some v ∧ RV W base x v
theorem Buf.kp {W W1 : World} {base : Nat} {buf : Array Value} {l : List S41} (h : Kp3 W W1) (hb : Buf W base buf l) : Buf W1 base buf l :=
  ⟨hb.1, fun j x hx => let ⟨v, h1, h2⟩ := hb.2 j x hx; ⟨v, h1, h2.kp h⟩⟩
theorem Buf.lower {W : World} {base base' : Nat} {buf : Array Value} {l : List S41} (h : base' ≤ base) (hb : Buf W base buf l) : Buf W base' buf l :=
  ⟨hb.1, fun j x hx => let ⟨v, h1, h2⟩ := hb.2 j x hx; ⟨v, h1, h2.lower h⟩⟩
theorem Buf.push {W : World} {base : Nat} {buf : Array Value} {l : List S41} (hb : Buf W base buf l) {x : S41} {v : Value} (hv : RV W base x v) : Buf W base (buf.push v) (l ++ [x]) := by
  refine ⟨by rw [Array.size_push, List.length_append, hb.1]; rfl, fun j y hy => ?_⟩
  by_cases hj : j < l.length
  · rw [List.getElem?_append_left hj] at hy
    obtain ⟨u, h1, h2⟩ := hb.2 j y hy
    exact ⟨u, by rw [Array.getElem?_push_lt (by rw [hb.1]; exact hj)]; rw [← h1, Array.getElem?_eq_getElem (by rw [hb.1]; exact hj)], h2⟩
  · have hlt := (List.getElem?_eq_some_iff.1 hy).1
    rw [List.length_append, List.length_singleton] at hlt
    obtain rfl : j = l.length := by omega
    rw [List.getElem?_append_right (Nat.le_refl _), Nat.sub_self] at hy
    obtain rfl := Option.some.inj hy
    exact ⟨v, by rw [← hb.1]; exact Array.getElem?_push_size, hv⟩
theorem Buf.pop {W : World} {base : Nat} {buf : Array Value} {x : S41} {l : List S41} (hb : Buf W base buf (x :: l)) : 0 < buf.size ∧ RV W base x (buf.getD 0 undef) ∧ Buf W base (buf.extract 1 buf.size) l := by
  have h0 : 0 < buf.size := by rw [hb.1]; simp
  refine ⟨h0, ?_, ?_, fun j y hy => ?_⟩
  · obtain ⟨v, h1, h2⟩ := hb.2 0 x rfl
    rw [Array.getD_eq_getD_getElem?, h1]
    exact h2
  · rw [Array.size_extract, hb.1]
    simp
  · obtain ⟨v, h1, h2⟩ := hb.2 (j + 1) y (by simpa using hy)
    refine ⟨v, ?_, h2⟩
    have := (Array.getElem?_eq_some_iff.1 h1).1
    rw [Array.getElem?_extract, if_pos (by omega), Nat.add_comm]
    exact h1
theorem copyOf_ev (x : S41) (h : x.f3.length < 17592186044416 ∧ x.f5.length < 17592186044416) : impl_Record_copyOf.f x.f0 x.f1 x.f2 x.f3 x.f4 x.f5 = some (x.f0, x.f1, x.f2, x.f3, x.f4, x.f5) := by
  simp [impl_Record_copyOf.f, slices_Clone_int_int.f, h.1, h.2]
set_option maxRecDepth 100000 in
set_option maxHeartbeats 4000000 in
theorem impl_flow.calls (A0 : Option Addr) (c0 : Nat) (l0 : List S41) (w : World) (hr0 : Kd.C k41 w A0 l0.length l0) (hc0 : l0.length ≤ c0) (hlen : l0.length ≤ 30) (hpart : ∀ x ∈ l0, x.f3.length < 17592186044416 ∧ x.f5.length < 17592186044416) :
    Calls Try.prog 54 #[.slice A0 l0.length c0] w fun e w' => ∃ c s r buf, e = .returned (.chan (some c)) ∧ w'.heap[c]? = some (.chan l0.length buf true s r false) ∧ w.heap.size ≤ c ∧ Buf w' w.heap.size buf l0 ∧ Below w.heap.size w w' := by
  have HR := Aside0.mk hr0
  clear hr0
  have hmk : ∀ W : World, (Instr.makeChan 82 (.int .i64 (l0.length : Int))).run Try.prog W = .ok (.chan (some W.heap.size)) (W.alloc (.chan l0.length #[] false 0 0 false)) := by
    intro W
    have h : (Try.prog.info? 41).map (·.bytes) = some 80 := by kernel_rfl
    obtain ⟨i, hi, hb⟩ := Option.map_eq_some_iff.1 h
    exact run_makeChan (P := Try.prog) (w := W) Try.underlying82 hi .i64 l0.length (by omega) (by rw [hb]; omega)
  refine calls_of_wpN Try.func54 rfl ?_
  simp only [Try.ntmps54, List.size_toArray, List.length_cons, List.length_nil, Nat.reduceAdd, Nat.reduceSub, Array.replicate_succ, Array.replicate_zero, List.push_toArray, List.append_toArray, List.nil_append, List.cons_append]
  refine wpN_seq (WpN.of_wp ?_)
  go_wp2
  refine wpN_seq (WpN.of_wp ?_)
  go_wp2
  refine wpN_seq (wpN_seq (WpN.of_wp ?_))
  go_wp2
  have hC0 := heap_alloc_new w (.chan l0.length #[] false 0 0 false)
  have hB0 := below_alloc (Below.refl w.heap.size w) (.chan l0.length #[] false 0 0 false)
  generalize w.alloc _ = W0 at hC0 hB0 ⊢
  refine wpN_block (wpN_loop (fun a W => ∃ (i : Nat) (buf : Array Value) (u5 u12 u13 u14 u15 u16 u17 u18 : Value), i ≤ l0.length ∧ a = ⟨#[.slice A0 l0.length c0, undef, .chan none, .chan (some w.heap.size), undef, u5, .slice A0 l0.length c0, .int .i64 l0.length, .chan (some w.heap.size), .slice A0 l0.length c0, .int .i64 l0.length, .int .i64 i, u12, u13, u14, u15, u16, u17, u18, undef, undef], []⟩ ∧
    W.heap[w.heap.size]? = some (.chan l0.length buf false i 0 false) ∧ Buf W w.heap.size buf (l0.take i) ∧ Below w.heap.size w W) (fun a _ => l0.length - (intOf (a.tmps.getD 11 undef)).toNat) ?_ ?_)
  · exact ⟨0, #[], _, _, _, _, _, _, _, _, Nat.zero_le _, rfl, hC0, ⟨rfl, fun j x hx => by simp at hx⟩, hB0⟩
  · rintro _ W ⟨i, buf, u5, u12, u13, u14, u15, u16, u17, u18, hi, rfl, hC, hBuf, hB⟩
    refine wpN_seq (WpN.of_wp ?_)
    go_wp2
    by_cases hlt : i < l0.length
    · refine wpN_seq (wpN_cond (t := true) (by simp [go_sem, hlt]) (WpN.of_wp ?_))
      simp only [if_true]
      go_wp2
      obtain ⟨ad, A3, c3, A5, c5, rfl, e0, e1, e2, e3, e4, e5, l3, g3, l5, g5⟩ := at_T41 (Kd.C_below HR.out hB) (i : Int) (by omega) (by omega)
      rw [show ((i : Int)).toNat = i from rfl] at e0 e1 e2 e3 e4 e5
      have hri : rd_T41 l0 (i : Int) = l0[i] := by simp [rd_T41, List.getD_eq_getElem?_getD, hlt]
      rw [hri] at e0 e1 e2 e3 e4 e5 l3 g3 l5 g5
      have hp := hpart l0[i] (List.getElem_mem hlt)
      have htk : l0.take (i + 1) = l0.take i ++ [l0[i]] := (List.take_append_getElem hlt).symm
      generalize l0[i] = ri at *
      refine wpN_seq (wpN_block (wpN_seq (WpN.of_wp ?_)))
      go_wp2
      have bX := heap_alloc_new W (.cells #[.int .i64 ri.f0, .int .i64 ri.f1, .bool ri.f2, .slice A3 ri.f3.length c3, .bool ri.f4, .slice A5 ri.f5.length c5] 41)
      have hb1 := below_alloc (Below.refl W.heap.size W) (.cells #[.int .i64 ri.f0, .int .i64 ri.f1, .bool ri.f2, .slice A3 ri.f3.length c3, .bool ri.f4, .slice A5 ri.f5.length c5] 41)
      have hC1 := (hb1.block _ (Array.getElem?_eq_some_iff.1 hC).1).trans hC
      have hB1 := below_alloc hB (.cells #[.int .i64 ri.f0, .int .i64 ri.f1, .bool ri.f2, .slice A3 ri.f3.length c3, .bool ri.f4, .slice A5 ri.f5.length c5] 41)
      generalize hX : W.heap.size = X at bX hb1 ⊢
      generalize W.alloc _ = W1 at bX hb1 hC1 hB1 ⊢
      refine wpN_region ?_
      have d0 := blk_cell bX 0
      have d1 := blk_cell bX 1
      have d2 := blk_cell bX 2
      have d3 := blk_cell bX 3
      have d4 := blk_cell bX 4
      have d5 := blk_cell bX 5
      refine regN_val (rest := [1, 2, 3]) (v := .chan (some w.heap.size)) (w' := W1) rfl rfl (by go_simp) ?_
      simp only [Act.put, List.setIfInBounds_toArray, List.set_cons_zero, List.set_cons_succ]
      refine regN_val (rest := [2, 3]) (v := .agg #[.int .i64 ri.f0, .int .i64 ri.f1, .bool ri.f2, .slice A3 ri.f3.length c3, .bool ri.f4, .slice A5 ri.f5.length c5]) (w' := W1) rfl rfl (by go_simp) ?_
      simp only [Act.put, List.setIfInBounds_toArray, List.set_cons_zero, List.set_cons_succ]
      refine regN_call (rest := [3]) (f := 71) (args := #[.agg #[.int .i64 ri.f0, .int .i64 ri.f1, .bool ri.f2, .slice A3 ri.f3.length c3, .bool ri.f4, .slice A5 ri.f5.length c5]]) (w' := W1) rfl rfl (by go_simp) ?_
      refine (impl_Record_copyOf.calls _ _ _ A3 c3 ri.f3 _ A5 c5 ri.f5 _ _ _ _ _ _ W1 (Kd.C_below g3 (hX ▸ hb1)) l3 (Kd.C_below g5 (hX ▸ hb1)) l5 (copyOf_ev ri hp)).mono ?_
      rintro e W2 ⟨v3, v5, rfl, r3, r5, hb2⟩
      obtain ⟨B3, d3', rfl⟩ := Kd.R_slice r3
      obtain ⟨B5, d5', rfl⟩ := Kd.R_slice r5
      refine ⟨_, rfl, ?_⟩
      simp only [Act.put, List.setIfInBounds_toArray, List.set_cons_zero, List.set_cons_succ]
      have hC2 := (hb2.block _ (Array.getElem?_eq_some_iff.1 hC1).1).trans hC1
      refine regN_send (rest := []) (c := w.heap.size) (v := .agg #[.int .i64 ri.f0, .int .i64 ri.f1, .bool ri.f2, .slice B3 ri.f3.length d3', .bool ri.f4, .slice B5 ri.f5.length d5']) (z' := .tuple #[]) (w' := W2) rfl rfl (by simp [execOp, scase, Act.eval]) hC2 (by rw [hBuf.1, List.length_take]; omega) ?_
      simp only [Act.put, List.setIfInBounds_toArray, List.set_cons_zero, List.set_cons_succ]
      refine regN_nil ?_
      simp only [Exit.inBlock, Exit.then]
      refine WpN.of_wp ?_
      have hC3 := heap_setChan W2 w.heap.size l0.length (buf.push (.agg #[.int .i64 ri.f0, .int .i64 ri.f1, .bool ri.f2, .slice B3 ri.f3.length d3', .bool ri.f4, .slice B5 ri.f5.length d5'])) false (i + 1) 0 false (Array.getElem?_eq_some_iff.1 hC2).1
      have hB3 := below_setChan (below_step hB1 hb2) (Nat.le_refl _) l0.length (buf.push (.agg #[.int .i64 ri.f0, .int .i64 ri.f1, .bool ri.f2, .slice B3 ri.f3.length d3', .bool ri.f4, .slice B5 ri.f5.length d5'])) false (i + 1) 0 false
      have hk3 := Kp3.chan hC2 l0.length (buf.push (.agg #[.int .i64 ri.f0, .int .i64 ri.f1, .bool ri.f2, .slice B3 ri.f3.length d3', .bool ri.f4, .slice B5 ri.f5.length d5'])) false (i + 1) 0 false
      have hbuf3 : Buf (W2.setChan w.heap.size l0.length (buf.push (.agg #[.int .i64 ri.f0, .int .i64 ri.f1, .bool ri.f2, .slice B3 ri.f3.length d3', .bool ri.f4, .slice B5 ri.f5.length d5'])) false (i + 1) 0 false) w.heap.size (buf.push (.agg #[.int .i64 ri.f0, .int .i64 ri.f1, .bool ri.f2, .slice B3 ri.f3.length d3', .bool ri.f4, .slice B5 ri.f5.length d5'])) (l0.take (i + 1)) := by
        rw [htk]
        refine Buf.kp hk3 (Buf.push (hBuf.kp ((Kp3.below (hX ▸ hb1)).trans (Kp3.below hb2))) ⟨B3, d3', B5, d5', rfl, ?_, ?_⟩)
        · exact Kd.R_lower (Kd.R_tight rfl r3) (below_size hB1)
        · exact Kd.R_lower (Kd.R_tight rfl r5) (below_size hB1)
      generalize W2.setChan _ _ _ _ _ _ _ = W3 at hC3 hB3 hbuf3 ⊢
      clear hk3
      have hw1 : IntKind.i64.wrap ((i : Int) + 1) = ((i + 1 : Nat) : Int) := by rw [IntKind.wrap_i64]; omega
      go_wp2
      refine ⟨⟨i + 1, _, _, _, _, _, _, _, _, _, hlt, rfl, hC3, hbuf3, hB3⟩, ?_⟩
      simp [intOf]
      omega
    · refine wpN_seq (wpN_cond (t := false) (by simp [go_sem, hlt]) (WpN.of_wp ?_))
      simp only [if_false, Bool.false_eq_true]
      go_wp2
      obtain rfl : i = l0.length := by omega
      rw [List.take_length] at hBuf
      have hcl := fun ats ty => run_close_open (P := Try.prog) (w := W) ats ty hC
      have hC3 := heap_setChan W w.heap.size l0.length buf true l0.length 0 false (Array.getElem?_eq_some_iff.1 hC).1
      have hB3 := below_setChan hB (Nat.le_refl _) l0.length buf true l0.length 0 false
      have hbuf3 := hBuf.kp (Kp3.chan hC l0.length buf true l0.length 0 false)
      simp only [World.setChan] at hC3 hB3 hbuf3
      refine WpN.of_wp ?_
      go_wp2
      go_ret
      exact ⟨_, _, _, _, rfl, hC3, Nat.le_refl _, hbuf3, hB3⟩
end Go.Proofs.Ythlnbbehcpdnfaa.G

namespace Go.Proofs.YthlnbbehcpdnfaaW.PrintWords
open Go.RowKit
namespace Kd
section
variable {P : Program} {ops : Array Oper} {rest : List Oper} {o : Oper} {a : Act} {W : World} {α : Type} {Q : Exit → Act → World → Prop} {Kc : Act → World → Prop}
theorem own_room (W : World) (base e size m : Nat) (cs : Array Value) (hb : base ≤ W.heap.size) (hm : m ≤ maxLen) (hs : cs.size = m * size) :
    (W.alloc (.cells cs e)).ownsRow base e size (.slice (some ⟨W.heap.size, 0, none⟩) 0 m) 0 [] :=
  ⟨by simp, .inr ⟨W.heap.size, m, cs, rfl, hb, heap_alloc_new W _, Nat.zero_le _, hm, hs, by simp⟩⟩
theorem R_room (d : Kd α) (W : World) (base e m : Nat) (cs : Array Value) {ok : Nat → Prop} (hfresh : ok W.heap.size) (hb : base ≤ W.heap.size) (hm : m ≤ maxLen) (hs : cs.size = m * d.sz) :
    d.R e (W.alloc (.cells cs e)) base ok (.slice (some ⟨W.heap.size, 0, none⟩) 0 m) [] :=
  ⟨fun k hk => by
    have : W.heap.size = k := by simpa [Value.ownBlock] using hk
    subst this
    exact hfresh, [], own_room W base e d.sz m cs hb hm hs, ⟨by simp, fun j p hj => by simp at hj⟩⟩
theorem makec_run {d : Kd α} (t e : TypeId) (x y : Operand) (ho : o.op = .makeSlice t x y) (n : Nat) (hx : a.eval x = .int .i64 0) (hy : a.eval y = .int .i64 (n : Int))
    (ht : P.underlying t = some (.slice e)) (z : Value) (bytes : Nat) (hinfo : (P.info? e).map (fun i => (i.zero, i.size, i.bytes)) = some (some z, d.sz, bytes)) (hb0 : 0 < bytes) (hl : n * bytes ≤ 281474976710656) :
    (execOp a.eval o).run P W = .ok (.value (.slice (some ⟨W.heap.size, 0, none⟩) 0 n)) (W.alloc (.cells (madeCells z.cells (n * d.sz)) e)) := by
  obtain ⟨i0, hi, hzz⟩ := Option.map_eq_some_iff.1 hinfo
  simp only [Prod.mk.injEq] at hzz
  obtain ⟨hz0, hz1, hz2⟩ := hzz
  have hm : n ≤ 281474976710656 := Nat.le_trans (Nat.le_mul_of_pos_right _ hb0) hl
  have hr := run_make (P := P) (w := W) t e i0 z ht hi hz0 .i64 .i64 0 (n : Int) (by omega) (by omega)
    (by
      have h3 : ((i0.bytes * n : Nat) : Int) ≤ 281474976710656 := by rw [hz2, Nat.mul_comm]; omega
      rwa [Int.natCast_mul] at h3) (by omega)
  simp only [Int.toNat_natCast] at hr
  rw [hz1] at hr
  have e0 : (0 : Int).toNat = 0 := rfl
  rw [e0] at hr
  simp [execOp, ho, hx, hy, hr]
theorem makec_max {n bytes : Nat} (hb0 : 0 < bytes) (hl : n * bytes ≤ 281474976710656) : n ≤ maxLen := by
  have : n ≤ 281474976710656 := Nat.le_trans (Nat.le_mul_of_pos_right _ hb0) hl
  simp only [maxLen]
  omega
theorem R_makec (d : Kd α) {w0 : World} (base e : Nat) (hgd : o.guard = none) {N : Tmp} (_hd : o.dst = some N) (t : TypeId) (x y : Operand) (ho : o.op = .makeSlice t x y) (n : Int) (hx : a.eval x = .int .i64 0) (hy : a.eval y = .int .i64 n)
    (ht : P.underlying t = some (.slice e)) (z : Value) (bytes : Nat) (hinfo : (P.info? e).map (fun i => (i.zero, i.size, i.bytes)) = some (some z, d.sz, bytes)) (_hz : z.cells.size = d.sz) (_hs0 : 0 < d.sz) (hb0 : 0 < bytes)
    {ok : Nat → Prop} (hfresh : ok W.heap.size) (h0 : 0 ≤ n) (hl : n.toNat * bytes ≤ 281474976710656) (HB : Below base w0 W) (hbase : base ≤ W.heap.size)
    (h : ∀ v1 w1, d.R e w1 base ok v1 [] → Below base w0 w1 → W.grownBy w1 none → (∃ b, v1.ownBlock = some b ∧ W.heap.size ≤ b) → wpList P ops Q rest (a.put o.dst v1) w1) : wpList P ops Q (o :: rest) a W := by
  obtain ⟨m, rfl⟩ := Int.eq_ofNat_of_zero_le h0
  simp only [Int.toNat_natCast] at hl
  exact event_run hgd (makec_run (d := d) t e x y ho m hx hy ht z bytes hinfo hb0 hl) (h _ _ (R_room d W base e m _ hfresh hbase (makec_max hb0 hl) (by simp [size_madeCells])) (HB.alloc hbase _) (World.grownBy_alloc W _ none) ⟨W.heap.size, by simp [Value.ownBlock], Nat.le_refl _⟩)
end
end Kd
end Go.Proofs.YthlnbbehcpdnfaaW.PrintWords

namespace Go.Proofs.Ythlnbbehcpdnfaa.G
open Go.RowKit Go.Conc Go.Proofs.YthlnbbehcpdnfaaW.PrintWords Go.Proofs.YthlnbbehcpdnfaaW.PrintLast Go.Proofs.YthlnbbehcpdnfaaW.PrintMore
set_option linter.unusedVariables false
set_option linter.unusedSimpArgs false
def leR (x y : S41) : Bool := decide (x.f1 ≤ y.f1)
def mgR (a b : List S41) : List S41 := List.merge a b leR
def smallR (l : List S41) : Bool := l.all fun x => decide (x.f3.length < 17592186044416) && decide (x.f5.length < 17592186044416)
theorem small_of {l : List S41} (h : smallR l = true) : ∀ x ∈ l, x.f3.length < 17592186044416 ∧ x.f5.length < 17592186044416 := fun x hx => by
  have := List.all_eq_true.1 h x hx
  simpa using this
def impl_RecordsMerge.f (k : Nat) (l0 l1 : List S41) : Option (List S41 × Bool) :=
  (impl_rowValid.f k l0).bind fun u => if u = true then (impl_rowValid.f k l1).bind fun v => if v = true then (if 30 < l0.length + l1.length then some ([], false) else if (smallR l0 && smallR l1) = true then some (mgR l0 l1, true) else none) else some ([], false) else some ([], false)
/-- A box that holds a record. -/
def BoxR (W : World) (b : Nat) (y : S41) (A3 : Option Addr) (c3 : Nat) (A5 : Option Addr) (c5 : Nat) : Prop := W.heap[b]? = some (Obj.cells #[.int .i64 y.f0, .int .i64 y.f1, .bool y.f2, .slice A3 y.f3.length c3, .bool y.f4, .slice A5 y.f5.length c5] 41 (0, 0))
/-- A source: a closed channel that holds what is left, and a box that holds the next one, if there is one. -/
def Src (W : World) (base g b : Nat) (one : Bool) (l : List S41) : Prop :=
  ∃ cap buf s r y A3 c3 A5 c5, W.heap[g]? = some (Obj.chan cap buf true s r false) ∧ BoxR W b y A3 c3 A5 c5 ∧ ((one = false ∧ l = [] ∧ buf = #[]) ∨
    (one = true ∧ ∃ l', l = y :: l' ∧ (Kd.R (Kd.int .i64) 3 W base (fun k => some k = (Value.slice A3 y.f3.length c3).ownBlock) (.slice A3 y.f3.length c3) y.f3 ∧ Kd.R (Kd.int .i64) 3 W base (fun k => some k = (Value.slice A5 y.f5.length c5).ownBlock) (.slice A5 y.f5.length c5) y.f5) ∧ Buf W base buf l'))
theorem Src.move {W W1 : World} {base g b : Nat} {one : Bool} {l : List S41} (h : Src W base g b one l) (hg : W1.heap[g]? = W.heap[g]?) (hb : W1.heap[b]? = W.heap[b]?) (hk : Kp3 W W1) : Src W1 base g b one l := by
  obtain ⟨cap, buf, s, r, y, A3, c3, A5, c5, h1, h2, h3⟩ := h
  refine ⟨cap, buf, s, r, y, A3, c3, A5, c5, hg.trans h1, hb.trans h2, ?_⟩
  rcases h3 with h3 | ⟨h3, l', h4, h5, h6⟩
  · exact .inl h3
  · exact .inr ⟨h3, l', h4, ⟨R_kp hk h5.1, R_kp hk h5.2⟩, h6.kp hk⟩
theorem Src.below {W W1 : World} {base g b : Nat} {one : Bool} {l : List S41} (h : Src W base g b one l) (hb : Below W.heap.size W W1) : Src W1 base g b one l := by
  have h0 := h
  obtain ⟨cap, buf, s, r, y, A3, c3, A5, c5, h1, h2, h3⟩ := h0
  exact h.move (hb.block _ (Array.getElem?_eq_some_iff.1 h1).1) (hb.block _ (Array.getElem?_eq_some_iff.1 h2).1) (Kp3.below hb)
def Slots (a : Act) (A0 : Option Addr) (n0 d0 : Nat) (A1 : Option Addr) (n1 d1 g1 g2 : Nat) (v6 v9 v10 v11 v12 : Value) : Prop :=
  a.defers = [] ∧ a.tmps.size = 84 ∧ a.tmps.getD 0 undef = Value.slice A0 n0 d0 ∧ a.tmps.getD 1 undef = Value.slice A1 n1 d1 ∧ a.tmps.getD 4 undef = Value.slice none 0 0 ∧ a.tmps.getD 5 undef = Value.bool false ∧ a.tmps.getD 6 undef = v6 ∧ a.tmps.getD 7 undef = Value.chan (some g1) ∧ a.tmps.getD 8 undef = Value.chan (some g2) ∧ a.tmps.getD 9 undef = v9 ∧ a.tmps.getD 10 undef = v10 ∧ a.tmps.getD 11 undef = v11 ∧ a.tmps.getD 12 undef = v12
theorem Slots.open {a : Act} {A0 : Option Addr} {n0 d0 : Nat} {A1 : Option Addr} {n1 d1 g1 g2 : Nat} {v6 v9 v10 v11 v12 : Value} (h : Slots a A0 n0 d0 A1 n1 d1 g1 g2 v6 v9 v10 v11 v12) :
    ∃ u : Nat → Value, a = ⟨#[Value.slice A0 n0 d0, Value.slice A1 n1 d1, u 2, u 3, Value.slice none 0 0, Value.bool false, v6, Value.chan (some g1), Value.chan (some g2), v9, v10, v11, v12, u 13, u 14, u 15, u 16, u 17, u 18, u 19, u 20, u 21, u 22, u 23, u 24, u 25, u 26, u 27, u 28, u 29, u 30, u 31, u 32, u 33, u 34, u 35, u 36, u 37, u 38, u 39, u 40, u 41, u 42, u 43, u 44, u 45, u 46, u 47, u 48, u 49, u 50, u 51, u 52, u 53, u 54, u 55, u 56, u 57, u 58, u 59, u 60, u 61, u 62, u 63, u 64, u 65, u 66, u 67, u 68, u 69, u 70, u 71, u 72, u 73, u 74, u 75, u 76, u 77, u 78, u 79, u 80, u 81, u 82, u 83], []⟩ := by
  obtain ⟨hd, hs, h0, h1, h4, h5, h6, h7, h8, h9, h10, h11, h12⟩ := h
  refine ⟨fun i => a.tmps.getD i undef, ?_⟩
  have e : a.tmps = ((List.range 84).map fun i => a.tmps.getD i undef).toArray := by
    apply Array.ext
    · simp [hs]
    · intro i h1 h2
      simp only [List.getElem_toArray, List.getElem_map, List.getElem_range]
      rw [Array.getD_eq_getD_getElem?, Array.getElem?_eq_getElem h1]
      rfl
  have e2 : ∀ u : Nat → Value, ((List.range 84).map u).toArray = #[u 0, u 1, u 2, u 3, u 4, u 5, u 6, u 7, u 8, u 9, u 10, u 11, u 12, u 13, u 14, u 15, u 16, u 17, u 18, u 19, u 20, u 21, u 22, u 23, u 24, u 25, u 26, u 27, u 28, u 29, u 30, u 31, u 32, u 33, u 34, u 35, u 36, u 37, u 38, u 39, u 40, u 41, u 42, u 43, u 44, u 45, u 46, u 47, u 48, u 49, u 50, u 51, u 52, u 53, u 54, u 55, u 56, u 57, u 58, u 59, u 60, u 61, u 62, u 63, u 64, u 65, u 66, u 67, u 68, u 69, u 70, u 71, u 72, u 73, u 74, u 75, u 76, u 77, u 78, u 79, u 80, u 81, u 82, u 83] := fun u => rfl
  rw [e2] at e
  rw [h0, h1, h4, h5, h6, h7, h8, h9, h10, h11, h12] at e
  obtain ⟨t, d⟩ := a
  simp only at hd e ⊢
  rw [hd, ← e]
theorem grown3 {W W2 : World} {base b1 b2 : Nat} {v6 : Value} {xs : List S41} (hO : Kd.R k41 41 W base (fun k => k ≠ b1 ∧ k ≠ b2) v6 xs) (hg : W.grownBy W2 v6.ownBlock) :
    (∀ (g cap : Nat) (buf : Array Value) (cl : Bool) (s r : Nat) (tm : Bool), W.heap[g]? = some (Obj.chan cap buf cl s r tm) → W2.heap[g]? = W.heap[g]?) ∧ (∀ (b : Nat), b = b1 ∨ b = b2 → b < W.heap.size → W2.heap[b]? = W.heap[b]?) ∧ Kp3 W W2 := by
  refine ⟨fun g cap buf cl s r tm h1 => hg.block _ (blk_lt h1) fun he => ?_, fun b hb hl => hg.block _ hl fun he => ?_, fun k cells hk => hg.block _ (blk_lt hk) fun he => ?_⟩
  · obtain ⟨cs, hc⟩ := Kd.R_typed hO g he.symm
    rw [h1] at hc
    cases hc
  · have := hO.1 b he.symm
    omega
  · obtain ⟨cs, hc⟩ := Kd.R_typed hO k he.symm
    rw [hk] at hc
    injection hc with hc
    injection hc with _ hc
    exact absurd hc (by decide)
theorem Src.grown {W W2 : World} {base b1 b2 g b : Nat} {v6 : Value} {xs : List S41} {one : Bool} {l : List S41} (h : Src W base g b one l) (hO : Kd.R k41 41 W base (fun k => k ≠ b1 ∧ k ≠ b2) v6 xs) (hg : W.grownBy W2 v6.ownBlock) (hb : b = b1 ∨ b = b2) : Src W2 base g b one l := by
  have h0 := h
  obtain ⟨cap, buf, s, r, y, A3, c3, A5, c5, h1, h2, h3⟩ := h0
  obtain ⟨p1, p2, p3⟩ := grown3 hO hg
  exact h.move (p1 _ _ _ _ _ _ _ h1) (p2 _ hb (blk_lt h2)) p3
theorem okp_of {W : World} {base b1 b2 : Nat} {v6 : Value} {xs : List S41} {y1 y2 : S41} {A31 A51 A32 A52 : Option Addr} {c31 c51 c32 c52 : Nat} (h1 : BoxR W b1 y1 A31 c31 A51 c51) (h2 : BoxR W b2 y2 A32 c32 A52 c52) (hO : Kd.R k41 41 W base (fun k => k ≠ b1 ∧ k ≠ b2) v6 xs) :
    ∀ k, (∃ cells, W.heap[k]? = some (Obj.cells cells 3 (0, 0))) → (k ≠ b1 ∧ k ≠ b2) ∧ some k ≠ v6.ownBlock := by
  rintro k ⟨cs, hk⟩
  have hn : ∀ cs', W.heap[k]? ≠ some (Obj.cells cs' 41 (0, 0)) := by
    intro cs' hc
    rw [hk] at hc
    injection hc with hc
    injection hc with _ hc
    exact absurd hc (by decide)
  refine ⟨⟨?_, ?_⟩, fun he => ?_⟩
  · rintro rfl
    exact hn _ h1
  · rintro rfl
    exact hn _ h2
  · obtain ⟨cs', hc⟩ := Kd.R_typed hO k he.symm
    exact hn _ hc
theorem fresh_of {W : World} {b1 b2 : Nat} {y1 y2 : S41} {A31 A51 A32 A52 : Option Addr} {c31 c51 c32 c52 : Nat} (h1 : BoxR W b1 y1 A31 c31 A51 c51) (h2 : BoxR W b2 y2 A32 c32 A52 c52) : ∀ k, W.heap.size ≤ k → k ≠ b1 ∧ k ≠ b2 := by
  intro k hk
  have := blk_lt h1
  have := blk_lt h2
  omega
theorem ne_cb {W : World} {g b cap s r : Nat} {buf : Array Value} {cl tm : Bool} {y : S41} {A3 : Option Addr} {c3 : Nat} {A5 : Option Addr} {c5 : Nat} (hc : W.heap[g]? = some (Obj.chan cap buf cl s r tm)) (hb : BoxR W b y A3 c3 A5 c5) : g ≠ b := by
  rintro rfl
  rw [BoxR, hc] at hb
  cases hb
/-- Where a box of another source changes. -/
theorem Src.other {W W3 : World} {base g b b' : Nat} {one : Bool} {l : List S41} {y : S41} {A3 : Option Addr} {c3 : Nat} {A5 : Option Addr} {c5 : Nat} (h : Src W base g b one l) (hot : ∀ k, k ≠ b' → W3.heap[k]? = W.heap[k]?) (hx : BoxR W b' y A3 c3 A5 c5) (hb : b ≠ b') (hk : Kp3 W W3) : Src W3 base g b one l := by
  have h0 := h
  obtain ⟨cap, buf, s, r, y, A3, c3, A5, c5, h1, h2, h3⟩ := h0
  exact h.move (hot _ (ne_cb h1 hx)) (hot _ hb) hk
theorem Src.other2 {W W3 : World} {base g b g' b' : Nat} {one : Bool} {l : List S41} {y : S41} {A3 : Option Addr} {c3 : Nat} {A5 : Option Addr} {c5 : Nat} {cap s r : Nat} {buf : Array Value} {cl tm : Bool} (h : Src W base g b one l) (hot : ∀ k, k ≠ g' → k ≠ b' → W3.heap[k]? = W.heap[k]?) (hc : W.heap[g']? = some (Obj.chan cap buf cl s r tm)) (hx : BoxR W b' y A3 c3 A5 c5) (hb : b ≠ b') (hg : g ≠ g') (hk : Kp3 W W3) : Src W3 base g b one l := by
  have h0 := h
  obtain ⟨cap, buf, s, r, y, A3, c3, A5, c5, h1, h2, h3⟩ := h0
  exact h.move (hot _ hg (ne_cb h1 hx)) (hot _ (ne_cb hc h2).symm hb) hk
/-- A row stays where a channel and a box change. -/
theorem R_cb {W W1 : World} {base b1 b2 g : Nat} {v : Value} {xs : List S41} {cap s r : Nat} {buf : Array Value} {cl tm : Bool} (hO : Kd.R k41 41 W base (fun k => k ≠ b1 ∧ k ≠ b2) v xs) (hc : W.heap[g]? = some (Obj.chan cap buf cl s r tm)) {b : Nat} (hb : b = b1 ∨ b = b2) (h : ∀ k, k ≠ g → k ≠ b → W1.heap[k]? = W.heap[k]?) : Kd.R k41 41 W1 base (fun k => k ≠ b1 ∧ k ≠ b2) v xs :=
  Kd.R_mono (Kd.R_move (Kd.R_bound hO) (fun k hk => h k (by
    rintro rfl
    obtain ⟨_, _, _, q, _, cs, hcs⟩ := hk
    rw [hc] at hcs
    cases hcs) (by
    have := hk.1
    omega))) (fun _ hk => hk.1)
theorem BoxR.set {W : World} {b : Nat} {y : S41} {A3 : Option Addr} {c3 : Nat} {A5 : Option Addr} {c5 : Nat} (h : BoxR W b y A3 c3 A5 c5) (v0 v1 v2 v3 v4 v5 : Value) :
    ∃ W' : World, W' = (((((W.setCell ⟨b, 0, none⟩ v0).setCell ⟨b, 1, none⟩ v1).setCell ⟨b, 2, none⟩ v2).setCell ⟨b, 3, none⟩ v3).setCell ⟨b, 4, none⟩ v4).setCell ⟨b, 5, none⟩ v5 ∧ W'.heap[b]? = some (Obj.cells #[v0, v1, v2, v3, v4, v5] 41 (0, 0)) ∧ (∀ k, k ≠ b → W'.heap[k]? = W.heap[k]?) ∧ Kp3 W W' ∧ (∀ (base : Nat) (w : World), base ≤ b → Below base w W → Below base w W') := by
  refine ⟨_, rfl, ?_, fun k hk => ?_, ?_, fun base w hb hB => ?_⟩
  · exact blk_put (blk_put (blk_put (blk_put (blk_put (blk_put h 0 v0 rfl) 1 v1 rfl) 2 v2 rfl) 3 v3 rfl) 4 v4 rfl) 5 v5 rfl
  · rw [Below.heap_setCell _ _ _ _ hk, Below.heap_setCell _ _ _ _ hk, Below.heap_setCell _ _ _ _ hk, Below.heap_setCell _ _ _ _ hk, Below.heap_setCell _ _ _ _ hk, Below.heap_setCell _ _ _ _ hk]
  · have k1 := blk_set h 0 v0
    have k2 := blk_set k1 1 v1
    have k3 := blk_set k2 2 v2
    have k4 := blk_set k3 3 v3
    have k5 := blk_set k4 4 v4
    exact (Kp3.cell h (by decide) 0 v0).trans ((Kp3.cell k1 (by decide) 1 v1).trans ((Kp3.cell k2 (by decide) 2 v2).trans ((Kp3.cell k3 (by decide) 3 v3).trans ((Kp3.cell k4 (by decide) 4 v4).trans (Kp3.cell k5 (by decide) 5 v5)))))
  · exact (((((hB.setCell (p := ⟨b, 0, none⟩) hb v0).setCell (p := ⟨b, 1, none⟩) hb v1).setCell (p := ⟨b, 2, none⟩) hb v2).setCell (p := ⟨b, 3, none⟩) hb v3).setCell (p := ⟨b, 4, none⟩) hb v4).setCell (p := ⟨b, 5, none⟩) hb v5
theorem list_cases {α : Type} (l : List α) : l = [] ∨ ∃ x l', l = x :: l' := by cases l <;> simp
theorem rowValid_len {k : Nat} {l : List S41} (h : impl_rowValid.f k l = some true) : l.length ≤ 30 := by
  unfold impl_rowValid.f at h
  by_cases hl : (l.length : Int) > 30
  · rw [if_pos hl] at h
    simp at h
  · omega
theorem mg_nil (l : List S41) : mgR [] l = l := by simp [mgR]
theorem mg_nil' (l : List S41) : mgR l [] = l := by simp [mgR]
theorem mg_cons (x y : S41) (a b : List S41) : mgR (x :: a) (y :: b) = if x.f1 ≤ y.f1 then x :: mgR a (y :: b) else y :: mgR (x :: a) b := by
  simp [mgR, List.cons_merge_cons, leR]
set_option maxRecDepth 100000 in
set_option maxHeartbeats 400000 in
theorem impl_RecordsMerge.callsR (k : Nat) (A0 : Option Addr) (c0 : Nat) (l0 : List S41) (A1 : Option Addr) (c1 : Nat) (l1 : List S41) (r1 : List S41) (r2 : Bool) (w : World) (hr0 : Kd.C k41 w A0 l0.length l0) (hc0 : l0.length ≤ c0) (hr1 : Kd.C k41 w A1 l1.length l1) (hc1 : l1.length ≤ c1) (h : impl_RecordsMerge.f k l0 l1 = some (r1, r2)) :
    Calls Try.prog 33 #[.slice A0 l0.length c0, .slice A1 l1.length c1] w fun e w' => ∃ v0_ : Value, e = .returned (.tuple #[v0_, .bool r2]) ∧ Kd.R k41 41 w' w.heap.size (fun _ => True) v0_ r1 ∧ Below w.heap.size w w' := by
  have hl0 := hr0.2.1
  have hl1 := hr1.2.1
  have HR0 := Aside0.mk hr0
  have HR1 := Aside0.mk hr1
  clear hr0 hr1
  unfold impl_RecordsMerge.f at h
  obtain ⟨u, hu, h⟩ := Option.bind_eq_some_iff.mp h
  cases u
  · simp only [Bool.false_eq_true, if_false, Option.some.injEq, Prod.mk.injEq] at h
    obtain ⟨rfl, rfl⟩ := h
    go_enter Try.func33, Try.ntmps33
    go_wp2_with (go_at_call 45; with_reducible refine (impl_rowValid.calls k A0 c0 l0 false _ HR0.out hc0 hu).mono ?_; rintro e w1 ⟨rfl, hb1⟩)
    go_ret2
    exact ⟨_, rfl, Kd.R_nil _ _ _ _ _, hb1⟩
  simp only [if_true] at h
  obtain ⟨v, hv, h⟩ := Option.bind_eq_some_iff.mp h
  cases v
  · simp only [Bool.false_eq_true, if_false, Option.some.injEq, Prod.mk.injEq] at h
    obtain ⟨rfl, rfl⟩ := h
    go_enter Try.func33, Try.ntmps33
    go_wp2_with (first | (go_at_call 45; with_reducible refine (impl_rowValid.calls k A0 c0 l0 true _ HR0.out hc0 hu).mono ?_; rintro e w1 ⟨rfl, hb1⟩) | (go_at_call 45; with_reducible refine (impl_rowValid.calls k A1 c1 l1 false _ (Kd.C_below HR1.out hb1) hc1 hv).mono ?_; rintro e w2 ⟨rfl, hb2⟩))
    go_ret2
    exact ⟨_, rfl, Kd.R_nil _ _ _ _ _, below_step hb1 hb2⟩
  simp only [if_true] at h
  have hn0 := rowValid_len hu
  have hn1 := rowValid_len hv
  have hw1 : IntKind.i64.wrap ((l0.length : Int) + (l1.length : Int)) = (l0.length : Int) + (l1.length : Int) := by rw [IntKind.wrap_i64]; omega
  by_cases hbig : 30 < l0.length + l1.length
  · rw [if_pos hbig] at h
    simp only [Option.some.injEq, Prod.mk.injEq] at h
    obtain ⟨rfl, rfl⟩ := h
    go_enter Try.func33, Try.ntmps33
    have hbig' : 30 < (l0.length : Int) + (l1.length : Int) := by omega
    go_wp2_with (first | (go_at_call 45; with_reducible refine (impl_rowValid.calls k A0 c0 l0 true _ HR0.out hc0 hu).mono ?_; rintro e w1 ⟨rfl, hb1⟩) | (go_at_call 45; with_reducible refine (impl_rowValid.calls k A1 c1 l1 true _ (Kd.C_below HR1.out hb1) hc1 hv).mono ?_; rintro e w2 ⟨rfl, hb2⟩))
    go_ret2
    exact ⟨_, rfl, Kd.R_nil _ _ _ _ _, below_step hb1 hb2⟩
  rw [if_neg hbig] at h
  by_cases hsm : (smallR l0 && smallR l1) = true
  case neg => rw [if_neg hsm] at h; exact absurd h (by simp)
  rw [if_pos hsm] at h
  simp only [Option.some.injEq, Prod.mk.injEq] at h
  obtain ⟨rfl, rfl⟩ := h
  rw [Bool.and_eq_true] at hsm
  have hs0 := small_of hsm.1
  have hs1 := small_of hsm.2
  clear hsm
  refine calls_of_wpN Try.func33 rfl ?_
  simp only [Try.ntmps33, List.size_toArray, List.length_cons, List.length_nil, Nat.reduceAdd, Nat.reduceSub, Array.replicate_succ, Array.replicate_zero, List.push_toArray, List.append_toArray, List.nil_append, List.cons_append]
  refine wpN_seq (WpN.of_wp ?_)
  go_wp2
  refine wpN_seq (wpN_seq (WpN.of_wp ?_))
  go_wp2_with (first | (go_at_call 45; with_reducible refine (impl_rowValid.calls k A0 c0 l0 true _ HR0.out hc0 hu).mono ?_; rintro e w1 ⟨rfl, hb1⟩) | (go_at_call 45; with_reducible refine (impl_rowValid.calls k A1 c1 l1 true _ (Kd.C_below HR1.out hb1) hc1 hv).mono ?_; rintro e w2 ⟨rfl, hb2⟩))
  refine wpN_cond (t := false) (by go_simp; try omega) (WpN.of_wp ?_)
  simp only [if_false, Bool.false_eq_true]
  go_wp2
  have hB2 := below_step hb1 hb2
  refine wpN_seq (WpN.of_wp ?_)
  go_wp2_with (first | ((with_reducible refine gate_dst (N := 34) rfl ?_); refine Kd.R_makec k41 _ 41 rfl (N := 34) rfl 32 _ _ rfl ((l0.length : Int) + (l1.length : Int)) rfl rfl Try.underlying32 (.agg #[.int .i64 0, .int .i64 0, .bool false, .slice none 0 0, .bool false, .slice none 0 0]) 80 (by kernel_rfl) rfl (by decide) (by omega) (ok := fun _ => True) trivial (by omega) (by omega) (Below.refl _ _) (Nat.le_refl _) ?_; intro v6 w3 ho3 hb3 hg3 hn3))
  have HO3 := Aside0.mk (Kd.R_lower ho3 (below_size hB2))
  clear ho3 hg3 hn3
  have hB3 := below_step hB2 hb3
  refine wpN_seq (WpN.of_wp ?_)
  go_wp2_with (first | (go_at_call 54; with_reducible refine (impl_flow.calls A0 c0 l0 _ (Kd.C_below HR0.out hB3) hc0 hn0 hs0).mono ?_; rintro e w4 ⟨g1, s1, q1, buf1, rfl, hg1, hs1', hbuf1, hb4⟩; have hB4 := below_step hB3 hb4) | (go_at_call 54; with_reducible refine (impl_flow.calls A1 c1 l1 _ (Kd.C_below HR1.out hB4) hc1 hn1 hs1).mono ?_; rintro e w5 ⟨g2, s2, q2, buf2, rfl, hg2, hs2', hbuf2, hb5⟩; have hB5 := below_step hB4 hb5))
  have hB35 := hB3.size
  have hlt12 : g1 < g2 := by have := (Array.getElem?_eq_some_iff.1 hg1).1; omega
  have HGE := Aside0.mk (And.intro hs1' (show w3.heap.size ≤ g2 by have := hb4.size; omega))
  have HLT := Aside0.mk hlt12
  have hL5 := below_step hb4 hb5
  replace hg1 := (hb5.block _ (Array.getElem?_eq_some_iff.1 hg1).1).trans hg1
  replace hbuf1 := (hbuf1.kp (Kp3.below hb5)).lower hB3.size
  replace hbuf2 := hbuf2.lower hB4.size
  have HBUF := Aside0.mk (And.intro hbuf1 hbuf2)
  have HG1 := Aside0.mk hg1
  have HG2' := Aside0.mk hg2
  have HBL1 := Aside0.mk hL5
  have HB3 := Aside0.mk hB3
  clear hbuf1 hbuf2 hg1 hg2 hL5 hB3 hB35 hs1' hs2' hlt12 hb1 hb2 hb3 hb4 hb5 hB2 hB4 hB5 hu hv hw1 hbig hs0 hs1
  clear hl0 hl1 hc0 hc1 HR0 HR1
  refine wpN_via (fun a W => ∃ (one : Bool) (v11 v12 : Value), Slots a A0 l0.length c0 A1 l1.length c1 g1 g2 v6 (.pointer (some ⟨w5.heap.size, 0, none⟩)) (.bool one) v11 v12 ∧ Src W w.heap.size g1 w5.heap.size one l0 ∧ (∀ k, k < w5.heap.size → k ≠ g1 → W.heap[k]? = w5.heap[k]?) ∧ Kp3 w5 W ∧ Below w3.heap.size w3 W ∧ w5.heap.size < W.heap.size) ?_ ?_
  · intro K hK
    refine wpN_region ?_
    refine regN_val (rest := [1, 2, 3, 4, 5, 6, 7]) (v := .chan (some g1)) (w' := w5) rfl rfl (by simp [go_sem]) ?_
    simp only [Act.put, List.setIfInBounds_toArray, List.set_cons_zero, List.set_cons_succ]
    have hge : w3.heap.size ≤ g1 := HGE.out.1
    have hgl := (Array.getElem?_eq_some_iff.1 HG1.out).1
    obtain hl | ⟨x, l', hl⟩ := list_cases l0
    · have hbuf' := HBUF.out.1
      rw [hl] at hbuf'
      obtain rfl : buf1 = #[] := Array.eq_empty_of_size_eq_zero (by rw [hbuf'.1]; rfl)
      have HL := Aside0.mk hl
      have HG := Aside0.mk (And.intro hge hgl)
      clear hl hge hgl hbuf'
      refine regN_shut (ok := true) (rest := [2, 3, 4, 5, 6, 7]) (c := g1) (z := .agg #[.int .i64 0, .int .i64 0, .bool false, .slice none 0 0, .bool false, .slice none 0 0]) (w' := w5) rfl rfl (by simp [go_sem, rcase]) HG1.out ?_
      simp only [Act.put, List.setIfInBounds_toArray, List.set_cons_zero, List.set_cons_succ, got, if_true]
      refine regN_drop (n := 2) rfl ?_
      simp only [List.drop_succ_cons, List.drop_zero]
      go_wp2
      have hb9 := below_alloc (Below.refl w5.heap.size w5) (.cells #[.int .i64 0, .int .i64 0, .bool false, .slice none 0 0, .bool false, .slice none 0 0] 41)
      exact hK.out _ _ ⟨false, _, _, ⟨rfl, rfl, rfl, rfl, rfl, rfl, rfl, rfl, rfl, rfl, rfl, rfl, rfl⟩, ⟨_, _, _, _, z41, none, 0, none, 0, (hb9.block _ HG.out.2).trans HG1.out, heap_alloc_new w5 _, .inl ⟨rfl, HL.out, rfl⟩⟩, fun k hk _ => hb9.block k hk, Kp3.below hb9, below_step HBL1.out hb9, by rw [World.size_alloc]; omega⟩
    · have hbuf' := HBUF.out.1
      rw [hl] at hbuf'
      obtain ⟨h0, hx, hrest⟩ := hbuf'.pop
      have hk := Kp3.chan HG1.out l0.length (buf1.extract 1 buf1.size) true s1 (q1 + 1) false
      have hcc := heap_setChan w5 g1 l0.length (buf1.extract 1 buf1.size) true s1 (q1 + 1) false hgl
      have hsz := size_setChan w5 g1 l0.length (buf1.extract 1 buf1.size) true s1 (q1 + 1) false
      have hbl := below_setChan HBL1.out hge l0.length (buf1.extract 1 buf1.size) true s1 (q1 + 1) false
      have hot : ∀ k, k ≠ g1 → (w5.setChan g1 l0.length (buf1.extract 1 buf1.size) true s1 (q1 + 1) false).heap[k]? = w5.heap[k]? := fun k hk => by simp only [World.setChan]; rw [Array.getElem?_setIfInBounds_ne (by omega)]
      refine regN_recv (ok := true) (rest := [2, 3, 4, 5, 6, 7]) (c := g1) (z := .agg #[.int .i64 0, .int .i64 0, .bool false, .slice none 0 0, .bool false, .slice none 0 0]) (w' := w5) rfl rfl (by simp [go_sem, rcase]) HG1.out h0 ?_
      simp only [Act.put, List.setIfInBounds_toArray, List.set_cons_zero, List.set_cons_succ, got, if_true]
      obtain ⟨A3, c3, A5, c5, hval, h3, h5⟩ := hx
      rw [hval]
      generalize w5.setChan _ _ _ _ _ _ _ = W1 at hk hcc hsz hbl hot ⊢
      have HX := Aside0.mk (And.intro (And.intro h3 h5) (And.intro hl hrest))
      have HW := Aside0.mk (And.intro (And.intro hk hcc) (And.intro hbl hot))
      have HS := Aside0.mk hsz
      have HG := Aside0.mk (And.intro hge hgl)
      clear h3 h5 hl hrest hk hcc hbl hot hsz hge hgl hbuf' h0 hval
      refine regN_drop (n := 2) rfl ?_
      simp only [List.drop_succ_cons, List.drop_zero]
      go_wp2
      have hsz := HS.out
      have hgl := HG.out.2
      obtain ⟨⟨h3, h5⟩, hl, hrest⟩ := HX.out
      obtain ⟨⟨hk, hcc⟩, hbl, hot⟩ := HW.out
      rw [hsz]
      have hb9 := below_alloc (Below.refl W1.heap.size W1) (.cells #[.int .i64 x.f0, .int .i64 x.f1, .bool x.f2, .slice A3 x.f3.length c3, .bool x.f4, .slice A5 x.f5.length c5] 41)
      have hkk := hk.trans (Kp3.below hb9)
      exact hK.out _ _ ⟨true, _, _, ⟨rfl, rfl, rfl, rfl, rfl, rfl, rfl, rfl, rfl, rfl, rfl, rfl, rfl⟩, ⟨_, _, _, _, x, A3, c3, A5, c5, (hb9.block _ (by rw [hsz]; exact hgl)).trans hcc, hsz ▸ heap_alloc_new W1 _, .inr ⟨rfl, l', hl, ⟨R_kp hkk h3, R_kp hkk h5⟩, hrest.kp hkk⟩⟩, fun k hk hne => (hb9.block k (by rw [hsz]; exact hk)).trans (hot k hne), hkk, below_step hbl hb9, by rw [World.size_alloc, hsz]; omega⟩
  rintro _ w6 ⟨one1, v11, v12, hslots, hsrc1, hot6, hk6, hL6, hsz6⟩
  obtain ⟨u, rfl⟩ := hslots.open
  clear hslots
  generalize hb1 : w5.heap.size = b1 at hsrc1 hot6 hsz6 ⊢
  have hgl2 := (Array.getElem?_eq_some_iff.1 HG2'.out).1
  have HG2 := Aside0.mk ((hot6 g2 (by omega) (by have := HLT.out; omega)).trans HG2'.out)
  have HBUF6 := HBUF
  clear HBUF
  have HBUF := Aside0.mk (And.intro HBUF6.out.1 (HBUF6.out.2.kp hk6))
  have HBL2 := Aside0.mk hL6
  have HF6 := Aside0.mk (And.intro (And.intro hsrc1 hot6) (And.intro hk6 hsz6))
  have HB1 := Aside0.mk hb1
  clear hsrc1 hot6 hk6 hsz6 hb1 hgl2 hL6
  refine wpN_via (fun a W => ∃ (one : Bool), Slots a A0 l0.length c0 A1 l1.length c1 g1 g2 v6 (.pointer (some ⟨b1, 0, none⟩)) (.bool one1) (.pointer (some ⟨w6.heap.size, 0, none⟩)) (.bool one) ∧ Src W w.heap.size g2 w6.heap.size one l1 ∧ (∀ k, k < w6.heap.size → k ≠ g2 → W.heap[k]? = w6.heap[k]?) ∧ Kp3 w6 W ∧ Below w3.heap.size w3 W ∧ w6.heap.size < W.heap.size) ?_ ?_
  · intro K hK
    refine wpN_region ?_
    refine regN_val (rest := [1, 2, 3, 4, 5, 6, 7]) (v := .chan (some g2)) (w' := w6) rfl rfl (by simp [go_sem]) ?_
    simp only [Act.put, List.setIfInBounds_toArray, List.set_cons_zero, List.set_cons_succ]
    have hge : w3.heap.size ≤ g2 := HGE.out.2
    have hgl := (Array.getElem?_eq_some_iff.1 HG2.out).1
    obtain hl | ⟨x, l', hl⟩ := list_cases l1
    · have hbuf' := HBUF.out.2
      rw [hl] at hbuf'
      obtain rfl : buf2 = #[] := Array.eq_empty_of_size_eq_zero (by rw [hbuf'.1]; rfl)
      have HL := Aside0.mk hl
      have HG := Aside0.mk (And.intro hge hgl)
      clear hl hge hgl hbuf'
      refine regN_shut (ok := true) (rest := [2, 3, 4, 5, 6, 7]) (c := g2) (z := .agg #[.int .i64 0, .int .i64 0, .bool false, .slice none 0 0, .bool false, .slice none 0 0]) (w' := w6) rfl rfl (by simp [go_sem, rcase]) HG2.out ?_
      simp only [Act.put, List.setIfInBounds_toArray, List.set_cons_zero, List.set_cons_succ, got, if_true]
      refine regN_drop (n := 2) rfl ?_
      simp only [List.drop_succ_cons, List.drop_zero]
      go_wp2
      have hb9 := below_alloc (Below.refl w6.heap.size w6) (.cells #[.int .i64 0, .int .i64 0, .bool false, .slice none 0 0, .bool false, .slice none 0 0] 41)
      exact hK.out _ _ ⟨false, ⟨rfl, rfl, rfl, rfl, rfl, rfl, rfl, rfl, rfl, rfl, rfl, rfl, rfl⟩, ⟨_, _, _, _, z41, none, 0, none, 0, (hb9.block _ HG.out.2).trans HG2.out, heap_alloc_new w6 _, .inl ⟨rfl, HL.out, rfl⟩⟩, fun k hk _ => hb9.block k hk, Kp3.below hb9, below_step HBL2.out hb9, by rw [World.size_alloc]; omega⟩
    · have hbuf' := HBUF.out.2
      rw [hl] at hbuf'
      obtain ⟨h0, hx, hrest⟩ := hbuf'.pop
      have hk := Kp3.chan HG2.out l1.length (buf2.extract 1 buf2.size) true s2 (q2 + 1) false
      have hcc := heap_setChan w6 g2 l1.length (buf2.extract 1 buf2.size) true s2 (q2 + 1) false hgl
      have hsz := size_setChan w6 g2 l1.length (buf2.extract 1 buf2.size) true s2 (q2 + 1) false
      have hbl := below_setChan HBL2.out hge l1.length (buf2.extract 1 buf2.size) true s2 (q2 + 1) false
      have hot : ∀ k, k ≠ g2 → (w6.setChan g2 l1.length (buf2.extract 1 buf2.size) true s2 (q2 + 1) false).heap[k]? = w6.heap[k]? := fun k hk => by simp only [World.setChan]; rw [Array.getElem?_setIfInBounds_ne (by omega)]
      refine regN_recv (ok := true) (rest := [2, 3, 4, 5, 6, 7]) (c := g2) (z := .agg #[.int .i64 0, .int .i64 0, .bool false, .slice none 0 0, .bool false, .slice none 0 0]) (w' := w6) rfl rfl (by simp [go_sem, rcase]) HG2.out h0 ?_
      simp only [Act.put, List.setIfInBounds_toArray, List.set_cons_zero, List.set_cons_succ, got, if_true]
      obtain ⟨A3, c3, A5, c5, hval, h3, h5⟩ := hx
      rw [hval]
      generalize w6.setChan _ _ _ _ _ _ _ = W1 at hk hcc hsz hbl hot ⊢
      have HX := Aside0.mk (And.intro (And.intro h3 h5) (And.intro hl hrest))
      have HW := Aside0.mk (And.intro (And.intro hk hcc) (And.intro hbl hot))
      have HS := Aside0.mk hsz
      have HG := Aside0.mk (And.intro hge hgl)
      clear h3 h5 hl hrest hk hcc hbl hot hsz hge hgl hbuf' h0 hval
      refine regN_drop (n := 2) rfl ?_
      simp only [List.drop_succ_cons, List.drop_zero]
      go_wp2
      have hsz := HS.out
      have hgl := HG.out.2
      obtain ⟨⟨h3, h5⟩, hl, hrest⟩ := HX.out
      obtain ⟨⟨hk, hcc⟩, hbl, hot⟩ := HW.out
      rw [hsz]
      have hb9 := below_alloc (Below.refl W1.heap.size W1) (.cells #[.int .i64 x.f0, .int .i64 x.f1, .bool x.f2, .slice A3 x.f3.length c3, .bool x.f4, .slice A5 x.f5.length c5] 41)
      have hkk := hk.trans (Kp3.below hb9)
      exact hK.out _ _ ⟨true, ⟨rfl, rfl, rfl, rfl, rfl, rfl, rfl, rfl, rfl, rfl, rfl, rfl, rfl⟩, ⟨_, _, _, _, x, A3, c3, A5, c5, (hb9.block _ (by rw [hsz]; exact hgl)).trans hcc, hsz ▸ heap_alloc_new W1 _, .inr ⟨rfl, l', hl, ⟨R_kp hkk h3, R_kp hkk h5⟩, hrest.kp hkk⟩⟩, fun k hk hne => (hb9.block k (by rw [hsz]; exact hk)).trans (hot k hne), hkk, below_step hbl hb9, by rw [World.size_alloc, hsz]; omega⟩
  rintro _ w7 ⟨two1, hslots, hsrc2, hot7, hk7, hL7, hsz7⟩
  obtain ⟨⟨hsrc1, hot6⟩, hk6, hsz6⟩ := HF6.out
  have hb1 := HB1.out
  have hge := HGE.out
  have hlt := HLT.out
  have hL5 := HBL1.out.size
  have hL6 := HBL2.out.size
  have hw3 := HB3.out.size
  have hg2l := blk_lt HG2'.out
  generalize hb2 : w6.heap.size = b2 at hslots hsrc2 hot7 hsz7 hsz6 hL6
  have e1 : Src w7 w.heap.size g1 b1 one1 l0 := hsrc1.move (hot7 g1 (by omega) (by omega)) (hot7 b1 (by omega) (by omega)) hk7
  have hO : Kd.R k41 41 w7 w.heap.size (fun k => k ≠ b1 ∧ k ≠ b2) v6 [] := Kd.R_below (Kd.R_mono (Kd.R_bound HO3.out) (fun k hk => ⟨by have := hk.2.2.1; omega, by have := hk.2.2.1; omega⟩)) hL7
  have hBw := below_step HB3.out hL7
  have hmg0 : [] ++ mgR l0 l1 = mgR l0 l1 := rfl
  have HN := Aside0.mk (show w.heap.size ≤ g1 ∧ w.heap.size ≤ g2 ∧ w.heap.size ≤ b1 ∧ w.heap.size ≤ b2 ∧ g1 ≠ g2 ∧ b1 ≠ b2 by omega)
  clear HF6 HB1 HGE HLT HBL1 HBL2 HG2' HG2 HG1 HBUF HBUF6 HB3 HO3 hsrc1 hot6 hk6 hsz6 hb1 hge hlt hL5 hL6 hw3 hg2l hot7 hk7 hL7 hsz7 hb2
  clear w1 w2 w3 w4 w5 w6
  clear buf1 buf2 s1 s2 q1 q2
  refine wpN_via (fun a W => ∃ v6 v9 v10 v11 v12, Slots a A0 l0.length c0 A1 l1.length c1 g1 g2 v6 v9 v10 v11 v12 ∧ Kd.R k41 41 W w.heap.size (fun _ => True) v6 (mgR l0 l1) ∧ Below w.heap.size w W) ?_ ?_
  case refine_2 =>
    rintro _ W ⟨v6, v9, v10, v11, v12, hslots, hR, hB⟩
    obtain ⟨u, rfl⟩ := hslots.open
    clear hslots
    refine WpN.of_wp ?_
    go_wp2
    go_ret2
    exact ⟨_, rfl, hR, hB⟩
  intro KF hKF
  refine wpN_block (wpN_loop_k (fun n a W => ∃ (one two : Bool) (la lb xs : List S41) (v6 : Value), Slots a A0 l0.length c0 A1 l1.length c1 g1 g2 v6 (.pointer (some ⟨b1, 0, none⟩)) (.bool one) (.pointer (some ⟨b2, 0, none⟩)) (.bool two) ∧ n = la.length + lb.length ∧ xs ++ mgR la lb = mgR l0 l1 ∧ xs.length + n ≤ 60 ∧
    Src W w.heap.size g1 b1 one la ∧ Src W w.heap.size g2 b2 two lb ∧ Kd.R k41 41 W w.heap.size (fun k => k ≠ b1 ∧ k ≠ b2) v6 xs ∧ Below w.heap.size w W) (l0.length + l1.length) ⟨one1, two1, l0, l1, [], v6, hslots, rfl, hmg0, by simp; omega, e1, hsrc2, hO, hBw⟩ ?_)
  clear hslots e1 hsrc2 hO hBw hmg0
  rintro n a W ⟨one, two, la, lb, xs, v6, hslots, rfl, hmg, hlen, hs1, hs2, hO, hB⟩ K hK
  obtain ⟨u, rfl⟩ := hslots.open
  have HI := Aside0.mk (And.intro (And.intro hmg hlen) (And.intro hO hB))
  have HS1 := Aside0.mk hs1
  have HS2 := Aside0.mk hs2
  clear hslots hmg hlen hO hB hs1 hs2 hn0 hn1
  have HLA := HS1.out
  obtain ⟨cap1, buf1, s1, q1, y1, A31, c31, A51, c51, hc1, hx1, ht1⟩ := HLA
  have HLB := HS2.out
  obtain ⟨cap2, buf2, s2, q2, y2, A32, c32, A52, c52, hc2, hx2, ht2⟩ := HLB
  have HC1 := Aside0.mk hc1
  have HC2 := Aside0.mk hc2
  have HX1 := Aside0.mk hx1
  have HX2 := Aside0.mk hx2
  have HT1 := Aside0.mk ht1
  have HT2 := Aside0.mk ht2
  have hd1 := blk_cell hx1 1
  have hd2 := blk_cell hx2 1
  have HD := Aside0.mk (And.intro hd1 hd2)
  clear hc1 hc2 hx1 hx2 ht1 ht2 hd1 hd2
  refine wpN_seq (wpN_via (fun a' W' => W = W' ∧ Slots a' A0 l0.length c0 A1 l1.length c1 g1 g2 v6 (.pointer (some ⟨b1, 0, none⟩)) (.bool one) (.pointer (some ⟨b2, 0, none⟩)) (.bool two) ∧ a'.tmps.getD 52 undef = .bool (one || two)) ?_ ?_)
  · intro K1 hK1
    refine WpN.of_wp ?_
    cases one <;> cases two <;> (go_wp2; exact hK1.out _ _ ⟨rfl, ⟨rfl, rfl, rfl, rfl, rfl, rfl, rfl, rfl, rfl, rfl, rfl, rfl, rfl⟩, rfl⟩)
  rintro _ _ ⟨rfl, hslots, h52⟩
  obtain ⟨u', rfl⟩ := hslots.open
  clear hslots
  change u' 52 = _ at h52
  rcases hor : (one || two) with _ | _
  · rw [hor] at h52
    refine wpN_cond (t := false) (by simp [go_sem, h52]) (WpN.of_wp ?_)
    simp only [if_false, Bool.false_eq_true]
    have HOR := Aside0.mk hor
    clear hor h52
    go_wp2
    obtain ⟨⟨hmg, hlen⟩, hO, hB⟩ := HI.out
    have hor := HOR.out
    obtain ⟨rfl, rfl⟩ : one = false ∧ two = false := by cases one <;> cases two <;> simp_all
    obtain rfl : la = [] := by rcases HT1.out with h3 | h3 <;> simp_all
    obtain rfl : lb = [] := by rcases HT2.out with h3 | h3 <;> simp_all
    rw [mg_nil, List.append_nil] at hmg
    rw [hmg] at hO
    exact hKF.out _ _ ⟨_, _, _, _, _, ⟨rfl, rfl, rfl, rfl, rfl, rfl, rfl, rfl, rfl, rfl, rfl, rfl, rfl⟩, Kd.R_mono hO (fun _ _ => trivial), hB⟩
  rw [hor] at h52
  refine wpN_cond (t := true) (by simp [go_sem, h52]) (WpN.of_wp ?_)
  simp only [if_true]
  have HOR := Aside0.mk hor
  clear hor h52
  go_wp2
  refine wpN_block (wpN_via (fun a' W' => W = W' ∧ Slots a' A0 l0.length c0 A1 l1.length c1 g1 g2 v6 (.pointer (some ⟨b1, 0, none⟩)) (.bool one) (.pointer (some ⟨b2, 0, none⟩)) (.bool two) ∧ a'.tmps.getD 64 undef = .bool (one && (!two || decide (y1.f1 ≤ y2.f1)))) ?_ ?_)
  · intro K1 hK1
    refine WpN.of_wp ?_
    have hd1 := HD.out.1
    have hd2 := HD.out.2
    cases one <;> cases two <;> (go_wp2; exact hK1.out _ _ ⟨rfl, ⟨rfl, rfl, rfl, rfl, rfl, rfl, rfl, rfl, rfl, rfl, rfl, rfl, rfl⟩, rfl⟩)
  rintro _ _ ⟨rfl, hslots, h64⟩
  obtain ⟨u'', rfl⟩ := hslots.open
  clear hslots
  change u'' 64 = _ at h64
  have hor := HOR.out
  rcases hsel : (one && (!two || decide (y1.f1 ≤ y2.f1))) with _ | _
  · rw [hsel] at h64
    refine wpN_cond (t := false) (by simp [go_sem, h64]) ?_
    simp only [if_false, Bool.false_eq_true]
    obtain rfl : two = true := by cases two <;> simp_all
    obtain ⟨_, la', hl, ⟨r3, r5⟩, hbuf⟩ := HT2.out.resolve_left (by simp)
    have hstep : mgR la lb = y2 :: mgR la la' := by
      rcases HT1.out with ⟨_, rfl, _⟩ | ⟨rfl, l1', rfl, _⟩
      · rw [hl, mg_nil, mg_nil]
      · rw [hl, mg_cons, if_neg (by simpa using hsel)]
    clear hor hsel h64
    refine wpN_seq (WpN.of_wp ?_)
    have d0 := blk_cell HX2.out 0
    have d1 := blk_cell HX2.out 1
    have d2 := blk_cell HX2.out 2
    have d3 := blk_cell HX2.out 3
    have d4 := blk_cell HX2.out 4
    have d5 := blk_cell HX2.out 5
    have HL := Aside0.mk hl
    have HST := Aside0.mk hstep
    have HR3 := Aside0.mk r3
    have HR5 := Aside0.mk r5
    have HBF := Aside0.mk hbuf
    clear hl hstep r3 r5 hbuf
    go_wp2_with (first | ((with_reducible refine gate_builtin (b := .append) (xs := #[.tmp 74, .tmp 76]) rfl ?_); at_builtin; refine Kd.R_append k41 (w0 := w) w.heap.size rfl (.tmp 74) (.tmp 76) 32 41 (.agg #[.int .i64 0, .int .i64 0, .bool false, .slice none 0 0, .bool false, .slice none 0 0]) 80 rfl Try.underlying32 (by kernel_rfl) rfl (by decide) (by omega) v6 xs y2 [.int .i64 y2.f0, .int .i64 y2.f1, .bool y2.f2, .slice A32 y2.f3.length c32, .bool y2.f4, .slice A52 y2.f5.length c52] (fun k => k ≠ b1 ∧ k ≠ b2) (fun k_ => ∃ cells, W.heap[k_]? = some (Obj.cells cells 3 (0, 0))) rfl rfl (k41_mkM _ _ _ y2 (Kd.R_mono HR3.out (fun k hk => Kd.R_typed HR3.out k hk.symm)) (Kd.R_mono HR5.out (fun k hk => Kd.R_typed HR5.out k hk.symm))) (okp_of HX1.out HX2.out HI.out.2.1) (fresh_of HX1.out HX2.out) HI.out.2.1 HI.out.2.2 HI.out.2.2.size (by have := HI.out.1.2; omega) ?_; intro v8 W2 ho2 hb2 hg2 hat2))
    clear d0 d1 d2 d3 d4 d5
    obtain ⟨p1, p2, p3⟩ := grown3 HI.out.2.1 hg2
    have hcq := (p1 _ _ _ _ _ _ _ HC2.out).trans HC2.out
    have hxq : BoxR W2 b2 y2 A32 c32 A52 c52 := (p2 _ (.inr rfl) (blk_lt HX2.out)).trans HX2.out
    have hso : Src W2 w.heap.size g1 b1 one la := Src.grown HS1.out HI.out.2.1 hg2 (.inl rfl)
    have hbq := HBF.out.kp p3
    have HSO2 := Aside0.mk hso
    have HOB := Aside0.mk (And.intro ho2 hb2)
    have HCQ := Aside0.mk hcq
    have HXQ := Aside0.mk hxq
    have HBQ := Aside0.mk hbq
    have hgl := blk_lt hcq
    have HGL := Aside0.mk hgl
    clear p1 p2 p3 hso hbq hg2 hat2 ho2 hb2 hcq hxq hgl
    refine wpN_region ?_
    refine regN_val (rest := [1, 2, 3, 4, 5, 6]) (v := .chan (some g2)) (w' := W2) rfl rfl (by simp [go_sem]) ?_
    simp only [Act.put, List.setIfInBounds_toArray, List.set_cons_zero, List.set_cons_succ]
    obtain hl2 | ⟨x, l', hl2⟩ := list_cases la'
    · have hbuf' := HBQ.out
      rw [hl2] at hbuf'
      obtain rfl : buf2 = #[] := Array.eq_empty_of_size_eq_zero (by rw [hbuf'.1]; rfl)
      have HL2 := Aside0.mk hl2
      clear hl2 hbuf'
      refine regN_shut (ok := true) (rest := [2, 3, 4, 5, 6]) (c := g2) (z := .agg #[.int .i64 0, .int .i64 0, .bool false, .slice none 0 0, .bool false, .slice none 0 0]) (w' := W2) rfl rfl (by simp [go_sem, rcase]) HCQ.out ?_
      simp only [Act.put, List.setIfInBounds_toArray, List.set_cons_zero, List.set_cons_succ, got, if_true]
      refine regN_drop (n := 2) rfl ?_
      simp only [List.drop_succ_cons, List.drop_zero]
      have d0 := blk_cell HXQ.out 0
      have d1 := blk_cell HXQ.out 1
      have d2 := blk_cell HXQ.out 2
      have d3 := blk_cell HXQ.out 3
      have d4 := blk_cell HXQ.out 4
      have d5 := blk_cell HXQ.out 5
      have f := blk_frozen HXQ.out
      go_wp2
      clear d0 d1 d2 d3 d4 d5 f
      obtain ⟨W3, hW3, hb3, hot3, hk3, hbl3⟩ := HXQ.out.set (.int .i64 0) (.int .i64 0) (.bool false) (.slice none 0 0) (.bool false) (.slice none 0 0)
      rw [← hW3]
      obtain ⟨ho2, hb2⟩ := HOB.out
      have hl2 := HL2.out
      subst hl2
      have hl := HL.out
      have hgb : g2 ≠ b2 := ne_cb HCQ.out HXQ.out
      have S0 : Src W3 w.heap.size g2 b2 false [] := ⟨_, _, _, _, z41, none, 0, none, 0, (hot3 _ hgb).trans HCQ.out, hb3, .inl ⟨rfl, rfl, rfl⟩⟩
      have HSO : Src W3 w.heap.size g1 b1 one la := HSO2.out.other hot3 HXQ.out (by have := HN.out; omega) hk3
      refine hK.out (la.length + [].length) _ _ (by rw [hl]; simp) ⟨one, false, la, [], xs ++ [y2], v8, ⟨rfl, rfl, rfl, rfl, rfl, rfl, rfl, rfl, rfl, rfl, rfl, rfl, rfl⟩, rfl, ?_, ?_, HSO, S0, R_cb ho2 HCQ.out (.inr rfl) (fun k h1 h2 => hot3 k h2), hbl3 _ _ HN.out.2.2.2.1 hb2⟩
      · rw [List.append_assoc, ← HI.out.1.1, HST.out]
        rfl
      · have := HI.out.1.2
        rw [hl] at this
        simp only [List.length_append, List.length_cons, List.length_nil] at this ⊢
        omega
    · have hbuf' := HBQ.out
      rw [hl2] at hbuf'
      obtain ⟨h0, hx, hrest⟩ := hbuf'.pop
      have hk := Kp3.chan HCQ.out cap2 (buf2.extract 1 buf2.size) true s2 (q2 + 1) false
      have hcc := heap_setChan W2 g2 cap2 (buf2.extract 1 buf2.size) true s2 (q2 + 1) false HGL.out
      have hbl := below_setChan HOB.out.2 HN.out.2.1 cap2 (buf2.extract 1 buf2.size) true s2 (q2 + 1) false
      have hot : ∀ k, k ≠ g2 → (W2.setChan g2 cap2 (buf2.extract 1 buf2.size) true s2 (q2 + 1) false).heap[k]? = W2.heap[k]? := fun k hk => by simp only [World.setChan]; rw [Array.getElem?_setIfInBounds_ne (by omega)]
      refine regN_recv (ok := true) (rest := [2, 3, 4, 5, 6]) (c := g2) (z := .agg #[.int .i64 0, .int .i64 0, .bool false, .slice none 0 0, .bool false, .slice none 0 0]) (w' := W2) rfl rfl (by simp [go_sem, rcase]) HCQ.out h0 ?_
      simp only [Act.put, List.setIfInBounds_toArray, List.set_cons_zero, List.set_cons_succ, got, if_true]
      obtain ⟨A3, c3, A5, c5, hval, h3, h5⟩ := hx
      rw [hval]
      generalize W2.setChan _ _ _ _ _ _ _ = W1 at hk hcc hbl hot ⊢
      have hgb : g2 ≠ b2 := ne_cb HCQ.out HXQ.out
      have hx1 : BoxR W1 b2 y2 A32 c32 A52 c52 := (hot _ hgb.symm).trans HXQ.out
      have HX := Aside0.mk (And.intro (And.intro h3 h5) (And.intro hl2 hrest))
      have HW := Aside0.mk (And.intro (And.intro hk hcc) (And.intro hbl hot))
      have HGB := Aside0.mk hgb
      have HXQ1 := Aside0.mk hx1
      clear h3 h5 hl2 hrest hk hcc hbl hot hbuf' h0 hval hgb hx1
      refine regN_drop (n := 2) rfl ?_
      simp only [List.drop_succ_cons, List.drop_zero]
      have d0 := blk_cell HXQ1.out 0
      have d1 := blk_cell HXQ1.out 1
      have d2 := blk_cell HXQ1.out 2
      have d3 := blk_cell HXQ1.out 3
      have d4 := blk_cell HXQ1.out 4
      have d5 := blk_cell HXQ1.out 5
      have f := blk_frozen HXQ1.out
      go_wp2
      clear d0 d1 d2 d3 d4 d5 f
      obtain ⟨⟨h3, h5⟩, hl2, hrest⟩ := HX.out
      obtain ⟨⟨hk, hcc⟩, hbl, hot⟩ := HW.out
      have hgb := HGB.out
      obtain ⟨W3, hW3, hb3, hot3, hk3, hbl3⟩ := HXQ1.out.set (.int .i64 x.f0) (.int .i64 x.f1) (.bool x.f2) (.slice A3 x.f3.length c3) (.bool x.f4) (.slice A5 x.f5.length c5)
      rw [← hW3]
      obtain ⟨ho2, hb2⟩ := HOB.out
      subst hl2
      have hl := HL.out
      have hkk := hk.trans hk3
      have hott : ∀ k, k ≠ g2 → k ≠ b2 → W3.heap[k]? = W2.heap[k]? := fun k h1 h2 => (hot3 k h2).trans (hot k h1)
      have S0 : Src W3 w.heap.size g2 b2 true (x :: l') := ⟨_, _, _, _, x, A3, c3, A5, c5, (hot3 _ hgb).trans hcc, hb3, .inr ⟨rfl, l', rfl, ⟨R_kp hkk h3, R_kp hkk h5⟩, hrest.kp hkk⟩⟩
      have HSO : Src W3 w.heap.size g1 b1 one la := HSO2.out.other2 hott HCQ.out HXQ.out (by have := HN.out; omega) (by have := HN.out; omega) hkk
      refine hK.out (la.length + (x :: l').length) _ _ (by rw [hl]; simp) ⟨one, true, la, x :: l', xs ++ [y2], v8, ⟨rfl, rfl, rfl, rfl, rfl, rfl, rfl, rfl, rfl, rfl, rfl, rfl, rfl⟩, rfl, ?_, ?_, HSO, S0, R_cb ho2 HCQ.out (.inr rfl) hott, hbl3 _ _ HN.out.2.2.2.1 hbl⟩
      · rw [List.append_assoc, ← HI.out.1.1, HST.out]
        rfl
      · have := HI.out.1.2
        rw [hl] at this
        simp only [List.length_append, List.length_cons, List.length_nil] at this ⊢
        omega
  · rw [hsel] at h64
    refine wpN_cond (t := true) (by simp [go_sem, h64]) ?_
    simp only [if_true]
    obtain rfl : one = true := by cases one <;> simp_all
    obtain ⟨_, la', hl, ⟨r3, r5⟩, hbuf⟩ := HT1.out.resolve_left (by simp)
    have hstep : mgR la lb = y1 :: mgR la' lb := by
      rcases HT2.out with ⟨_, rfl, _⟩ | ⟨rfl, l2', rfl, _⟩
      · rw [hl, mg_nil', mg_nil']
      · rw [hl, mg_cons, if_pos (by simpa using hsel)]
    clear hor hsel h64
    refine wpN_seq (WpN.of_wp ?_)
    have d0 := blk_cell HX1.out 0
    have d1 := blk_cell HX1.out 1
    have d2 := blk_cell HX1.out 2
    have d3 := blk_cell HX1.out 3
    have d4 := blk_cell HX1.out 4
    have d5 := blk_cell HX1.out 5
    have HL := Aside0.mk hl
    have HST := Aside0.mk hstep
    have HR3 := Aside0.mk r3
    have HR5 := Aside0.mk r5
    have HBF := Aside0.mk hbuf
    clear hl hstep r3 r5 hbuf
    go_wp2_with (first | ((with_reducible refine gate_builtin (b := .append) (xs := #[.tmp 65, .tmp 67]) rfl ?_); at_builtin; refine Kd.R_append k41 (w0 := w) w.heap.size rfl (.tmp 65) (.tmp 67) 32 41 (.agg #[.int .i64 0, .int .i64 0, .bool false, .slice none 0 0, .bool false, .slice none 0 0]) 80 rfl Try.underlying32 (by kernel_rfl) rfl (by decide) (by omega) v6 xs y1 [.int .i64 y1.f0, .int .i64 y1.f1, .bool y1.f2, .slice A31 y1.f3.length c31, .bool y1.f4, .slice A51 y1.f5.length c51] (fun k => k ≠ b1 ∧ k ≠ b2) (fun k_ => ∃ cells, W.heap[k_]? = some (Obj.cells cells 3 (0, 0))) rfl rfl (k41_mkM _ _ _ y1 (Kd.R_mono HR3.out (fun k hk => Kd.R_typed HR3.out k hk.symm)) (Kd.R_mono HR5.out (fun k hk => Kd.R_typed HR5.out k hk.symm))) (okp_of HX1.out HX2.out HI.out.2.1) (fresh_of HX1.out HX2.out) HI.out.2.1 HI.out.2.2 HI.out.2.2.size (by have := HI.out.1.2; omega) ?_; intro v8 W2 ho2 hb2 hg2 hat2))
    clear d0 d1 d2 d3 d4 d5
    obtain ⟨p1, p2, p3⟩ := grown3 HI.out.2.1 hg2
    have hcq := (p1 _ _ _ _ _ _ _ HC1.out).trans HC1.out
    have hxq : BoxR W2 b1 y1 A31 c31 A51 c51 := (p2 _ (.inl rfl) (blk_lt HX1.out)).trans HX1.out
    have hso : Src W2 w.heap.size g2 b2 two lb := Src.grown HS2.out HI.out.2.1 hg2 (.inr rfl)
    have hbq := HBF.out.kp p3
    have HSO2 := Aside0.mk hso
    have HOB := Aside0.mk (And.intro ho2 hb2)
    have HCQ := Aside0.mk hcq
    have HXQ := Aside0.mk hxq
    have HBQ := Aside0.mk hbq
    have hgl := blk_lt hcq
    have HGL := Aside0.mk hgl
    clear p1 p2 p3 hso hbq hg2 hat2 ho2 hb2 hcq hxq hgl
    refine wpN_region ?_
    refine regN_val (rest := [1, 2, 3, 4, 5, 6]) (v := .chan (some g1)) (w' := W2) rfl rfl (by simp [go_sem]) ?_
    simp only [Act.put, List.setIfInBounds_toArray, List.set_cons_zero, List.set_cons_succ]
    obtain hl2 | ⟨x, l', hl2⟩ := list_cases la'
    · have hbuf' := HBQ.out
      rw [hl2] at hbuf'
      obtain rfl : buf1 = #[] := Array.eq_empty_of_size_eq_zero (by rw [hbuf'.1]; rfl)
      have HL2 := Aside0.mk hl2
      clear hl2 hbuf'
      refine regN_shut (ok := true) (rest := [2, 3, 4, 5, 6]) (c := g1) (z := .agg #[.int .i64 0, .int .i64 0, .bool false, .slice none 0 0, .bool false, .slice none 0 0]) (w' := W2) rfl rfl (by simp [go_sem, rcase]) HCQ.out ?_
      simp only [Act.put, List.setIfInBounds_toArray, List.set_cons_zero, List.set_cons_succ, got, if_true]
      refine regN_drop (n := 2) rfl ?_
      simp only [List.drop_succ_cons, List.drop_zero]
      have d0 := blk_cell HXQ.out 0
      have d1 := blk_cell HXQ.out 1
      have d2 := blk_cell HXQ.out 2
      have d3 := blk_cell HXQ.out 3
      have d4 := blk_cell HXQ.out 4
      have d5 := blk_cell HXQ.out 5
      have f := blk_frozen HXQ.out
      go_wp2
      clear d0 d1 d2 d3 d4 d5 f
      obtain ⟨W3, hW3, hb3, hot3, hk3, hbl3⟩ := HXQ.out.set (.int .i64 0) (.int .i64 0) (.bool false) (.slice none 0 0) (.bool false) (.slice none 0 0)
      rw [← hW3]
      obtain ⟨ho2, hb2⟩ := HOB.out
      have hl2 := HL2.out
      subst hl2
      have hl := HL.out
      have hgb : g1 ≠ b1 := ne_cb HCQ.out HXQ.out
      have S0 : Src W3 w.heap.size g1 b1 false [] := ⟨_, _, _, _, z41, none, 0, none, 0, (hot3 _ hgb).trans HCQ.out, hb3, .inl ⟨rfl, rfl, rfl⟩⟩
      have HSO : Src W3 w.heap.size g2 b2 two lb := HSO2.out.other hot3 HXQ.out (by have := HN.out; omega) hk3
      refine hK.out ([].length + lb.length) _ _ (by rw [hl]; simp) ⟨false, two, [], lb, xs ++ [y1], v8, ⟨rfl, rfl, rfl, rfl, rfl, rfl, rfl, rfl, rfl, rfl, rfl, rfl, rfl⟩, rfl, ?_, ?_, S0, HSO, R_cb ho2 HCQ.out (.inl rfl) (fun k h1 h2 => hot3 k h2), hbl3 _ _ HN.out.2.2.1 hb2⟩
      · rw [List.append_assoc, ← HI.out.1.1, HST.out]
        rfl
      · have := HI.out.1.2
        rw [hl] at this
        simp only [List.length_append, List.length_cons, List.length_nil] at this ⊢
        omega
    · have hbuf' := HBQ.out
      rw [hl2] at hbuf'
      obtain ⟨h0, hx, hrest⟩ := hbuf'.pop
      have hk := Kp3.chan HCQ.out cap1 (buf1.extract 1 buf1.size) true s1 (q1 + 1) false
      have hcc := heap_setChan W2 g1 cap1 (buf1.extract 1 buf1.size) true s1 (q1 + 1) false HGL.out
      have hbl := below_setChan HOB.out.2 HN.out.1 cap1 (buf1.extract 1 buf1.size) true s1 (q1 + 1) false
      have hot : ∀ k, k ≠ g1 → (W2.setChan g1 cap1 (buf1.extract 1 buf1.size) true s1 (q1 + 1) false).heap[k]? = W2.heap[k]? := fun k hk => by simp only [World.setChan]; rw [Array.getElem?_setIfInBounds_ne (by omega)]
      refine regN_recv (ok := true) (rest := [2, 3, 4, 5, 6]) (c := g1) (z := .agg #[.int .i64 0, .int .i64 0, .bool false, .slice none 0 0, .bool false, .slice none 0 0]) (w' := W2) rfl rfl (by simp [go_sem, rcase]) HCQ.out h0 ?_
      simp only [Act.put, List.setIfInBounds_toArray, List.set_cons_zero, List.set_cons_succ, got, if_true]
      obtain ⟨A3, c3, A5, c5, hval, h3, h5⟩ := hx
      rw [hval]
      generalize W2.setChan _ _ _ _ _ _ _ = W1 at hk hcc hbl hot ⊢
      have hgb : g1 ≠ b1 := ne_cb HCQ.out HXQ.out
      have hx1 : BoxR W1 b1 y1 A31 c31 A51 c51 := (hot _ hgb.symm).trans HXQ.out
      have HX := Aside0.mk (And.intro (And.intro h3 h5) (And.intro hl2 hrest))
      have HW := Aside0.mk (And.intro (And.intro hk hcc) (And.intro hbl hot))
      have HGB := Aside0.mk hgb
      have HXQ1 := Aside0.mk hx1
      clear h3 h5 hl2 hrest hk hcc hbl hot hbuf' h0 hval hgb hx1
      refine regN_drop (n := 2) rfl ?_
      simp only [List.drop_succ_cons, List.drop_zero]
      have d0 := blk_cell HXQ1.out 0
      have d1 := blk_cell HXQ1.out 1
      have d2 := blk_cell HXQ1.out 2
      have d3 := blk_cell HXQ1.out 3
      have d4 := blk_cell HXQ1.out 4
      have d5 := blk_cell HXQ1.out 5
      have f := blk_frozen HXQ1.out
      go_wp2
      clear d0 d1 d2 d3 d4 d5 f
      obtain ⟨⟨h3, h5⟩, hl2, hrest⟩ := HX.out
      obtain ⟨⟨hk, hcc⟩, hbl, hot⟩ := HW.out
      have hgb := HGB.out
      obtain ⟨W3, hW3, hb3, hot3, hk3, hbl3⟩ := HXQ1.out.set (.int .i64 x.f0) (.int .i64 x.f1) (.bool x.f2) (.slice A3 x.f3.length c3) (.bool x.f4) (.slice A5 x.f5.length c5)
      rw [← hW3]
      obtain ⟨ho2, hb2⟩ := HOB.out
      subst hl2
      have hl := HL.out
      have hkk := hk.trans hk3
      have hott : ∀ k, k ≠ g1 → k ≠ b1 → W3.heap[k]? = W2.heap[k]? := fun k h1 h2 => (hot3 k h2).trans (hot k h1)
      have S0 : Src W3 w.heap.size g1 b1 true (x :: l') := ⟨_, _, _, _, x, A3, c3, A5, c5, (hot3 _ hgb).trans hcc, hb3, .inr ⟨rfl, l', rfl, ⟨R_kp hkk h3, R_kp hkk h5⟩, hrest.kp hkk⟩⟩
      have HSO : Src W3 w.heap.size g2 b2 two lb := HSO2.out.other2 hott HCQ.out HXQ.out (by have := HN.out; omega) (by have := HN.out; omega) hkk
      refine hK.out ((x :: l').length + lb.length) _ _ (by rw [hl]; simp) ⟨true, two, x :: l', lb, xs ++ [y1], v8, ⟨rfl, rfl, rfl, rfl, rfl, rfl, rfl, rfl, rfl, rfl, rfl, rfl, rfl⟩, rfl, ?_, ?_, S0, HSO, R_cb ho2 HCQ.out (.inl rfl) hott, hbl3 _ _ HN.out.2.2.1 hbl⟩
      · rw [List.append_assoc, ← HI.out.1.1, HST.out]
        rfl
      · have := HI.out.1.2
        rw [hl] at this
        simp only [List.length_append, List.length_cons, List.length_nil] at this ⊢
        omega
theorem impl_RecordsMerge.calls (k : Nat) (A0 : Option Addr) (c0 : Nat) (l0 : List S41) (A1 : Option Addr) (c1 : Nat) (l1 : List S41) (r1 : List S41) (r2 : Bool) (w : World) (hr0 : Kd.C k41 w A0 l0.length l0) (hc0 : l0.length ≤ c0) (hr1 : Kd.C k41 w A1 l1.length l1) (hc1 : l1.length ≤ c1) (h : impl_RecordsMerge.f k l0 l1 = some (r1, r2)) :
    Calls Try.prog 33 #[.slice A0 l0.length c0, .slice A1 l1.length c1] w fun e w' => ∃ v0_ : Value, e = .returned (.tuple #[v0_, .bool r2]) ∧ Kd.V k41 41 w' w.heap.size (fun k_ => (w.heap.size ≤ k_)) v0_ r1 ∧ Below w.heap.size w w' :=
  (impl_RecordsMerge.callsR k A0 c0 l0 A1 c1 l1 r1 r2 w hr0 hc0 hr1 hc1 h).mono fun e w' ⟨v, he, hR, hB⟩ => ⟨v, he, Kd.R_V (Kd.R_mono (Kd.R_bound hR) (fun k hk => hk.2.1)), hB⟩
end Go.Proofs.Ythlnbbehcpdnfaa.G

