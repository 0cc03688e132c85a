/- A text of seat Ythlnbbehcpdnfaa: what the law FnExactRecordsMerge needs of this repo's texts (by pack.py). Not trusted: Lean checks it. -/
import Derived.Test.YthlnbbehcpdnfaaKFnExactRecordsMerge2
import Derived.Test.YthlnbbehcpdnfaaProg
import Derived.Below
import Derived.Deep.Draws
import Derived.Deep.AppendLies
import Derived.Maps.AppendAt
import Derived.OwnWalk
import Derived.Laws.BytesArg
import Derived.Laws.MakeOwn
import Derived.Laws.OwnMore
import Derived.Deep.OwnRows
import Derived.Tactics
import Derived.Lib.ConvBytes
import Derived.Laws.Slices
import Derived.WalkKit
import Derived.KernelRfl
import Derived.RowKit3
import Derived.Deep.LoopGhost
import Derived.Deep.QuietTactic
import Derived.BigQuiet
import Derived.WideLaws
import Derived.Deep.DeepCutAuto
import Derived.Deep.CutBlock
import Derived.Deep.RegionHeld3
import Derived.Laws.Rows
import Derived.Lib.AppendStr
import Derived.ArgAppend
import Derived.Laws.IdiomCopy
import Derived.OrdersHeld
import Derived.Laws.BitsLemmas
import Derived.RowKit
import Derived.WalkLawsBesides
namespace Go.Proofs.Ythlnbbehcpdnfaa.G
open Go.RowKit Go.Proofs.YthlnbbehcpdnfaaW.PrintWords Go.Proofs.YthlnbbehcpdnfaaW.PrintLast Go.Proofs.YthlnbbehcpdnfaaW.PrintMore
attribute [local go_sem] max2_int min2_int max_two min_two max_three min_three max_four min_four   -- for this text's walks alone
set_option linter.unusedVariables false
set_option linter.unusedSimpArgs false



def errW : Option Int → Value
 | none => .nilIface
 | some c => .iface 0 (.int .i64 c)
theorem errW_none : errW none = .nilIface := rfl
theorem errW_some (c : Int) : errW (some c) = .iface 0 (.int .i64 c) := rfl

theorem info3 : (Try.prog.info? 3).map (fun i => (i.zero, i.size, i.bytes)) = some (some (.int .i64 0), 1, 8) := by kernel_rfl
theorem info41 : (Try.prog.info? 41).map (fun i => (i.zero, i.size, i.bytes)) = some (some (.agg #[(.int .i64 0), (.int .i64 0), (.bool false), (.slice none 0 0), (.bool false), (.slice none 0 0)]), 6, 80) := by kernel_rfl
structure S63 where
 f0 : Int
 f1 : Int
 f2 : Bool
 f3 : (List Int)
 f4 : Bool
 f5 : (List Int)
def z63 : S63 := ⟨(0 : Int), (0 : Int), false, ([] : List Int), false, ([] : List Int)⟩
def k63 : Kd S63 := Kd.iso (Kd.pair (Kd.int .i64) (Kd.pair (Kd.int .i64) (Kd.pair Kd.bool (Kd.pair (Kd.slice 3 (Kd.int .i64)) (Kd.pair Kd.bool (Kd.slice 3 (Kd.int .i64))))))) (fun x : S63 => (x.f0, x.f1, x.f2, x.f3, x.f4, x.f5))
theorem k63_open {w : World} {x : S63} {cs : List Value} (h : k63.K w x cs) : ∃ A3 c3 A5 c5, cs = [.int .i64 x.f0, .int .i64 x.f1, .bool x.f2, .slice A3 x.f3.length c3, .bool x.f4, .slice A5 x.f5.length c5] ∧ x.f3.length ≤ c3 ∧ (Kd.int .i64).C w A3 x.f3.length x.f3 ∧ x.f5.length ≤ c5 ∧ (Kd.int .i64).C w A5 x.f5.length x.f5 := by
 obtain ⟨_, _, rfl, rfl, ⟨_, _, rfl, rfl, ⟨_, _, rfl, rfl, ⟨_, _, rfl, ⟨A3, c3, rfl, l3, g3⟩, ⟨_, _, rfl, rfl, ⟨A5, c5, rfl, l5, g5⟩⟩⟩⟩⟩⟩ := h
 exact ⟨A3, c3, A5, c5, rfl, l3, g3, l5, g5⟩
def rd_T63 (xs : List S63) (i : Int) : S63 := xs.getD i.toNat z63
theorem at_T63 {w : World} {A : Option Addr} {n : Nat} {xs : List S63} (h : Kd.C k63 w A n xs) (i : Int) (h0 : 0 ≤ i) (h1 : i < n) : ∃ ad A3 c3 A5 c5, A = some ad ∧ w.cell? (ad.add (i.toNat * 6)) = some (.int .i64 (rd_T63 xs i).f0) ∧ w.cell? ⟨(ad.add (i.toNat * 6)).block, (ad.add (i.toNat * 6)).off + 1, none⟩ = some (.int .i64 (rd_T63 xs i).f1) ∧ w.cell? ⟨(ad.add (i.toNat * 6)).block, (ad.add (i.toNat * 6)).off + 2, none⟩ = some (.bool (rd_T63 xs i).f2) ∧ w.cell? ⟨(ad.add (i.toNat * 6)).block, (ad.add (i.toNat * 6)).off + 3, none⟩ = some (.slice A3 (rd_T63 xs i).f3.length c3) ∧ w.cell? ⟨(ad.add (i.toNat * 6)).block, (ad.add (i.toNat * 6)).off + 4, none⟩ = some (.bool (rd_T63 xs i).f4) ∧ w.cell? ⟨(ad.add (i.toNat * 6)).block, (ad.add (i.toNat * 6)).off + 5, none⟩ = some (.slice A5 (rd_T63 xs i).f5.length c5) ∧ (rd_T63 xs i).f3.length ≤ c3 ∧ (Kd.int .i64).C w A3 (rd_T63 xs i).f3.length (rd_T63 xs i).f3 ∧ (rd_T63 xs i).f5.length ≤ c5 ∧ (Kd.int .i64).C w A5 (rd_T63 xs i).f5.length (rd_T63 xs i).f5 := by
 obtain ⟨ad, c, e, _, hK, hc0⟩ := Kd.C_get h z63 i h0 h1
 have hc : ∀ j u, c[j]? = some u → w.cell? (ad.add (i.toNat * 6 + j)) = some u := hc0
 obtain ⟨A3, c3, A5, c5, rfl, l3, g3, l5, g5⟩ := k63_open hK
 exact ⟨ad, A3, c3, A5, c5, e, hc 0 _ rfl, by rw [← add_field _ _ 1 (by omega)]; exact hc 1 _ rfl, by rw [← add_field _ _ 2 (by omega)]; exact hc 2 _ rfl, by rw [← add_field _ _ 3 (by omega)]; exact hc 3 _ rfl, by rw [← add_field _ _ 4 (by omega)]; exact hc 4 _ rfl, by rw [← add_field _ _ 5 (by omega)]; exact hc 5 _ rfl, l3, g3, l5, g5⟩

structure S41 where
 f0 : Int
 f1 : Int
 f2 : Bool
 f3 : (List Int)
 f4 : Bool
 f5 : (List Int)
def z41 : S41 := ⟨(0 : Int), (0 : Int), false, ([] : List Int), false, ([] : List Int)⟩
def k41o : Kd S41 := Kd.iso (Kd.pair (Kd.int .i64) (Kd.pair (Kd.int .i64) (Kd.pair Kd.bool (Kd.pair (Kd.slice 3 (Kd.int .i64)) (Kd.pair Kd.bool (Kd.slice 3 (Kd.int .i64))))))) (fun x : S41 => (x.f0, x.f1, x.f2, x.f3, x.f4, x.f5))
def k41 : Kd S41 := kvK k41o 3 5
theorem k41_open {w : World} {x : S41} {cs : List Value} (h : k41.K w x cs) : ∃ A3 c3 A5 c5, cs = [.int .i64 x.f0, .int .i64 x.f1, .bool x.f2, .slice A3 x.f3.length c3, .bool x.f4, .slice A5 x.f5.length c5] ∧ x.f3.length ≤ c3 ∧ (Kd.int .i64).C w A3 x.f3.length x.f3 ∧ x.f5.length ≤ c5 ∧ (Kd.int .i64).C w A5 x.f5.length x.f5 := by
 obtain ⟨_, _, rfl, rfl, ⟨_, _, rfl, rfl, ⟨_, _, rfl, rfl, ⟨_, _, rfl, ⟨A3, c3, rfl, l3, g3⟩, ⟨_, _, rfl, rfl, ⟨A5, c5, rfl, l5, g5⟩⟩⟩⟩⟩⟩ := h
 exact ⟨A3, c3, A5, c5, rfl, l3, g3, l5, g5⟩
theorem k41_openM {w : World} {base : Nat} {ok : Nat → Prop} {x : S41} {cs : List Value} (h : k41.M w base ok x cs) : ∃ v3 v5, cs = [.int .i64 x.f0, .int .i64 x.f1, .bool x.f2, v3, .bool x.f4, v5] ∧ (Kd.int .i64).R 3 w base ok v3 x.f3 ∧ (Kd.int .i64).R 3 w base ok v5 x.f5 := by
 have h0 : k41o.M w base ok x cs := And.left h
 obtain ⟨_, _, rfl, rfl, ⟨_, _, rfl, rfl, ⟨_, _, rfl, rfl, ⟨_, _, rfl, ⟨v3, rfl, g3⟩, ⟨_, _, rfl, rfl, ⟨v5, rfl, g5⟩⟩⟩⟩⟩⟩ := h0
 exact ⟨v3, v5, rfl, g3, g5⟩
theorem k41_kv {w : World} {base : Nat} {ok : Nat → Prop} {x : S41} {cs : List Value} (h : k41.M w base ok x cs) : KV (cs.getD 3 undef) (cs.getD 5 undef) := And.right h
theorem k41_mkM (w : World) (base : Nat) (ok : Nat → Prop) (x : S41) {v3 : Value} (g3 : (Kd.int .i64).R 3 w base ok v3 x.f3) {v5 : Value} (g5 : (Kd.int .i64).R 3 w base ok v5 x.f5) (hkv : KV v3 v5 := by first | exact KV.nil _ _ _ | exact KV.nil' _ _ _ | exact KV.ofR (Aside0.out (by assumption)) (fun _ h_ => Pr.out h_) | exact KV.symm (KV.ofR (Aside0.out (by assumption)) (fun _ h_ => Pr.out h_))) : k41.M w base ok x [.int .i64 x.f0, .int .i64 x.f1, .bool x.f2, v3, .bool x.f4, v5] := And.intro (show k41o.M w base ok x [.int .i64 x.f0, .int .i64 x.f1, .bool x.f2, v3, .bool x.f4, v5] from ⟨[.int .i64 x.f0], [.int .i64 x.f1, .bool x.f2, v3, .bool x.f4, v5], rfl, rfl, ⟨[.int .i64 x.f1], [.bool x.f2, v3, .bool x.f4, v5], rfl, rfl, ⟨[.bool x.f2], [v3, .bool x.f4, v5], rfl, rfl, ⟨[v3], [.bool x.f4, v5], rfl, ⟨v3, rfl, g3⟩, ⟨[.bool x.f4], [v5], rfl, rfl, ⟨v5, rfl, g5⟩⟩⟩⟩⟩⟩) hkv
def rd_T41 (xs : List S41) (i : Int) : S41 := xs.getD i.toNat z41
theorem at_T41 {w : World} {A : Option Addr} {n : Nat} {xs : List S41} (h : Kd.C k41 w A n xs) (i : Int) (h0 : 0 ≤ i) (h1 : i < n) : ∃ ad A3 c3 A5 c5, A = some ad ∧ w.cell? (ad.add (i.toNat * 6)) = some (.int .i64 (rd_T41 xs i).f0) ∧ w.cell? ⟨(ad.add (i.toNat * 6)).block, (ad.add (i.toNat * 6)).off + 1, none⟩ = some (.int .i64 (rd_T41 xs i).f1) ∧ w.cell? ⟨(ad.add (i.toNat * 6)).block, (ad.add (i.toNat * 6)).off + 2, none⟩ = some (.bool (rd_T41 xs i).f2) ∧ w.cell? ⟨(ad.add (i.toNat * 6)).block, (ad.add (i.toNat * 6)).off + 3, none⟩ = some (.slice A3 (rd_T41 xs i).f3.length c3) ∧ w.cell? ⟨(ad.add (i.toNat * 6)).block, (ad.add (i.toNat * 6)).off + 4, none⟩ = some (.bool (rd_T41 xs i).f4) ∧ w.cell? ⟨(ad.add (i.toNat * 6)).block, (ad.add (i.toNat * 6)).off + 5, none⟩ = some (.slice A5 (rd_T41 xs i).f5.length c5) ∧ (rd_T41 xs i).f3.length ≤ c3 ∧ (Kd.int .i64).C w A3 (rd_T41 xs i).f3.length (rd_T41 xs i).f3 ∧ (rd_T41 xs i).f5.length ≤ c5 ∧ (Kd.int .i64).C w A5 (rd_T41 xs i).f5.length (rd_T41 xs i).f5 := by
 obtain ⟨ad, c, e, _, hK, hc0⟩ := Kd.C_get h z41 i h0 h1
 have hc : ∀ j u, c[j]? = some u → w.cell? (ad.add (i.toNat * 6 + j)) = some u := hc0
 obtain ⟨A3, c3, A5, c5, rfl, l3, g3, l5, g5⟩ := k41_open hK
 exact ⟨ad, A3, c3, A5, c5, e, hc 0 _ rfl, by rw [← add_field _ _ 1 (by omega)]; exact hc 1 _ rfl, by rw [← add_field _ _ 2 (by omega)]; exact hc 2 _ rfl, by rw [← add_field _ _ 3 (by omega)]; exact hc 3 _ rfl, by rw [← add_field _ _ 4 (by omega)]; exact hc 4 _ rfl, by rw [← add_field _ _ 5 (by omega)]; exact hc 5 _ rfl, l3, g3, l5, g5⟩

end Go.Proofs.Ythlnbbehcpdnfaa.G

namespace Go.Proofs.Ythlnbbehcpdnfaa.G
open Go.RowKit Go.Proofs.YthlnbbehcpdnfaaW.PrintWords Go.Proofs.YthlnbbehcpdnfaaW.PrintLast Go.Proofs.YthlnbbehcpdnfaaW.PrintMore
attribute [local go_sem] max2_int min2_int max_two min_two max_three min_three max_four min_four   -- for this text's walks alone
set_option linter.unusedVariables false
set_option linter.unusedSimpArgs false

def impl_within.f (a0 : Int) (a1 : Int) (a2 : Int) : Option (Bool) := if a0 ≥ a1 then (some (decide (a0 ≤ a2))) else (some false)
set_option maxHeartbeats 8000000 in
set_option maxRecDepth 100000 in
theorem impl_within.calls (a0 : Int) (a1 : Int) (a2 : Int) (r : Bool) (w : World) (h : impl_within.f a0 a1 a2 = some r) :
  Calls Try.prog 60 #[.int .i64 a0, .int .i64 a1, .int .i64 a2] w fun e w' => e = .returned (.bool r) ∧ Drawn0 w w' := by
 have H : (if a0 ≥ a1 then (some (decide (a0 ≤ a2))) else (some false)) = some r := h
 clear h
 by_cases c4 : a0 ≥ a1
 ·rw [if_pos c4] at H
  have c4b0 : decide (a1 ≤ a0) = true := decide_eq_true c4
  clear c4
  obtain rfl := Option.some.inj H
  go_enter Try.func60, Try.ntmps60
  go_wp2
  go_ret
  exact ⟨by first | rfl | (simp; done) | (simp [*]; done), by repeat (first | exact Drawn0.refl _ | apply Drawn0.step)⟩
 ·rw [if_neg c4] at H
  have c4b0 : decide (a1 ≤ a0) = false := decide_eq_false c4
  clear c4
  obtain rfl := Option.some.inj H
  go_enter Try.func60, Try.ntmps60
  go_wp2
  go_ret
  exact ⟨by first | rfl | (simp; done) | (simp [*]; done), by repeat (first | exact Drawn0.refl _ | apply Drawn0.step)⟩

def impl_baseValid.f (a0 : Int) (a1 : Int) : Option (Bool) := (impl_within.f a0 0 99999).bind fun t144 => (if t144 = true then ((impl_within.f a1 0 99999).bind fun t145 => (some t145)) else (some false))
set_option maxHeartbeats 8000000 in
set_option maxRecDepth 100000 in
theorem impl_baseValid.calls (a0 : Int) (a1 : Int) (r : Bool) (w : World) (h : impl_baseValid.f a0 a1 = some r) :
  Calls Try.prog 72 #[.int .i64 a0, .int .i64 a1] w fun e w' => e = .returned (.bool r) ∧ Drawn0 w w' := by
 have H : ((impl_within.f a0 0 99999).bind fun t144 => (if t144 = true then ((impl_within.f a1 0 99999).bind fun t145 => (some t145)) else (some false))) = some r := h
 clear h
 replace H := tbe H
 obtain ⟨t144, A3, H⟩ := H
 by_cases c4 : t144 = true
 ·subst c4
  rw [if_pos rfl] at H
  replace H := tbe H
  obtain ⟨t145, A5, H⟩ := H
  obtain rfl := Option.some.inj H
  go_enter Try.func72, Try.ntmps72
  go_wp2_with (first | ((with_reducible refine gate_callee (f := 60) rfl ?_); refine goesL_ (some 6) rfl rfl Try.func60 (by kernel_rfl) rfl #[.int .i64 a0, .int .i64 0, .int .i64 99999] rfl tq ?_; (with_reducible refine (impl_within.calls a0 0 99999 true _ A3.out).mono ?_); rintro e w' ⟨rfl, ⟨nd, rfl⟩⟩; refine ⟨_, rfl, ?_⟩) | (go_at_call 60; (with_reducible refine (impl_within.calls a1 0 99999 t145 _ A5.out).mono ?_); rintro e w' ⟨rfl, ⟨nd, rfl⟩⟩))
  go_ret
  exact ⟨by first | rfl | (simp; done) | (simp [*]; done), by repeat (first | exact Drawn0.refl _ | apply Drawn0.step)⟩
 ·replace c4 := Bool.eq_false_iff.mpr c4
  subst c4
  rw [if_neg (show ¬ (false = true) by decide)] at H
  obtain rfl := Option.some.inj H
  go_enter Try.func72, Try.ntmps72
  go_wp2_with (first | ((with_reducible refine gate_callee (f := 60) rfl ?_); refine goesL_ (some 6) rfl rfl Try.func60 (by kernel_rfl) rfl #[.int .i64 a0, .int .i64 0, .int .i64 99999] rfl tq ?_; (with_reducible refine (impl_within.calls a0 0 99999 false _ A3.out).mono ?_); rintro e w' ⟨rfl, ⟨nd, rfl⟩⟩; refine ⟨_, rfl, ?_⟩))
  go_ret
  exact ⟨by first | rfl | (simp; done) | (simp [*]; done), by repeat (first | exact Drawn0.refl _ | apply Drawn0.step)⟩

def impl_isByte.f (a0 : Int) : Option (Bool) := if a0 ≥ 0 then (some (decide (a0 ≤ 255))) else (some false)
set_option maxHeartbeats 8000000 in
set_option maxRecDepth 100000 in
theorem impl_isByte.calls (a0 : Int) (r : Bool) (w : World) (h : impl_isByte.f a0 = some r) :
  Calls Try.prog 82 #[.int .i64 a0] w fun e w' => e = .returned (.bool r) ∧ Drawn0 w w' := by
 have H : (if a0 ≥ 0 then (some (decide (a0 ≤ 255))) else (some false)) = some r := h
 clear h
 by_cases c2 : a0 ≥ 0
 ·rw [if_pos c2] at H
  have c2b0 : decide (0 ≤ a0) = true := decide_eq_true c2
  clear c2
  obtain rfl := Option.some.inj H
  go_enter Try.func82, Try.ntmps82
  go_wp2
  go_ret
  exact ⟨by first | rfl | (simp; done) | (simp [*]; done), by repeat (first | exact Drawn0.refl _ | apply Drawn0.step)⟩
 ·rw [if_neg c2] at H
  have c2b0 : decide (0 ≤ a0) = false := decide_eq_false c2
  clear c2
  obtain rfl := Option.some.inj H
  go_enter Try.func82, Try.ntmps82
  go_wp2
  go_ret
  exact ⟨by first | rfl | (simp; done) | (simp [*]; done), by repeat (first | exact Drawn0.refl _ | apply Drawn0.step)⟩

def impl_allBytes.l0 : Nat → List Int → Int → Int → Option (Bool)
 | 0, _, _, _ => none
 | k + 1, x5, x6, x7 => if x7 < x6 then (if 0 ≤ x7 then (if x7 < (x5.length : Int) then ((impl_isByte.f (rd x5 x7)).bind fun t147 => (if t147 = true then (impl_allBytes.l0 k x5 x6 (wrap64 (x7 + 1))) else (some false))) else (none)) else (none)) else (some true)
def impl_allBytes.f (k : Nat) (l0 : List Int) : Option (Bool) := impl_allBytes.l0 k l0 (l0.length : Int) 0
set_option maxHeartbeats 8000000 in
set_option maxRecDepth 100000 in
theorem impl_allBytes.calls (k : Nat) (A0 : Option Addr) (c0 : Nat) (l0 : List Int) (r : Bool) (w : World) (hr0 : Kd.C (Kd.int .i64) w A0 l0.length l0) (hc0 : l0.length ≤ c0) (h : impl_allBytes.f k l0 = some r) :
  Calls Try.prog 78 #[.slice A0 l0.length c0] w fun e w' => e = .returned (.bool r) ∧ Drawn0 w w' := by
 have HR0 := Aside0.mk hr0
 have HC0 := Aside0.mk hc0
 clear hr0 hc0
 have H : (impl_allBytes.l0 k l0 (l0.length : Int) 0) = some r := h
 clear h
 have H' := Aside0.mk H
 clear H
 go_enter Try.func78, Try.ntmps78
 go_wp2
 go_loopg [7] k (fun kq v7 w' => ∃ (x7_1 : Int), v7 = .int .i64 x7_1 ∧ Aside0 (impl_allBytes.l0 kq l0 (l0.length : Int) x7_1 = some r) ∧ Aside0 (kq ≤ k) ∧ Drawn0 w w')
 case atStart => exact ⟨(0), tr, H', ⟨Nat.le_refl _⟩, by repeat (first | exact Drawn0.refl _ | apply Drawn0.step)⟩
 case round =>
  clear H'
  obtain ⟨x7_1, rfl, HA, HK1, ⟨m1, rfl⟩⟩ := hrel
  cases gk with
  | zero => exact absurd HA.out (by simp [impl_allBytes.l0])
  | succ k1 =>
   have H := HA.out
   clear HA
   simp only [impl_allBytes.l0] at H
   by_cases c2 : x7_1 < (l0.length : Int)
   ·rw [if_pos c2] at H
    have c2b0 : decide (x7_1 < (l0.length : Int)) = true := decide_eq_true c2
    clear c2
    by_cases c3 : 0 ≤ x7_1
    ·rw [if_pos c3] at H
     have c3b0 : decide (0 ≤ x7_1) = true := decide_eq_true c3
     clear c3
     by_cases c4 : x7_1 < (l0.length : Int)
     ·rw [if_pos c4] at H
      have c4b0 : decide (x7_1 < (l0.length : Int)) = true := decide_eq_true c4
      clear c4
      replace H := tbe H
      obtain ⟨t147, A5, H⟩ := H
      by_cases c6 : t147 = true
      ·subst c6
       rw [if_pos rfl] at H
       have H' := Aside0.mk H
       clear H
       have p146 : 0 ≤ (x7_1 : Int) := td
       have q146 : x7_1 < (l0.length : Int) := td
       obtain ⟨ad146, e146, hx146_0⟩ := Kd.at_int HR0.out x7_1 p146 q146
       cases e146
       replace p146 := eq_true p146
       replace q146 := eq_true q146
       go_wp2_with (first | ((with_reducible refine gate_callee (f := 82) rfl ?_); refine goesL_ (some 12) rfl rfl Try.func82 (by kernel_rfl) rfl #[.int .i64 (rd l0 x7_1)] rfl tq ?_; (with_reducible refine (impl_isByte.calls (rd l0 x7_1) true _ A5.out).mono ?_); rintro e w' ⟨rfl, ⟨nd, rfl⟩⟩; refine ⟨_, rfl, ?_⟩))
       go_roundg k1
       case measure => have := HK1.out; omega
       case rel => exact ⟨(wrap64 (x7_1 + 1)), tr, H', ⟨by have := HK1.out; omega⟩, by repeat (first | exact Drawn0.refl _ | apply Drawn0.step)⟩
      ·replace c6 := Bool.eq_false_iff.mpr c6
       subst c6
       rw [if_neg (show ¬ (false = true) by decide)] at H
       obtain rfl := Option.some.inj H
       have p146 : 0 ≤ (x7_1 : Int) := td
       have q146 : x7_1 < (l0.length : Int) := td
       obtain ⟨ad146, e146, hx146_0⟩ := Kd.at_int HR0.out x7_1 p146 q146
       cases e146
       replace p146 := eq_true p146
       replace q146 := eq_true q146
       go_wp2_with (first | ((with_reducible refine gate_callee (f := 82) rfl ?_); refine goesL_ (some 12) rfl rfl Try.func82 (by kernel_rfl) rfl #[.int .i64 (rd l0 x7_1)] rfl tq ?_; (with_reducible refine (impl_isByte.calls (rd l0 x7_1) false _ A5.out).mono ?_); rintro e w' ⟨rfl, ⟨nd, rfl⟩⟩; refine ⟨_, rfl, ?_⟩))
       go_ret
       exact ⟨by first | rfl | (simp; done) | (simp [*]; done), by repeat (first | exact Drawn0.refl _ | apply Drawn0.step)⟩
     ·rw [if_neg c4] at H
      exact absurd H (by simp)
    ·rw [if_neg c3] at H
     exact absurd H (by simp)
   ·rw [if_neg c2] at H
    have c2b0 : decide (x7_1 < (l0.length : Int)) = false := decide_eq_false c2
    clear c2
    obtain rfl := Option.some.inj H
    go_wp2
    go_ret
    exact ⟨by first | rfl | (simp; done) | (simp [*]; done), by repeat (first | exact Drawn0.refl _ | apply Drawn0.step)⟩

def impl_partValid.f (k : Nat) (a0 : Bool) (l1 : List Int) : Option (Bool) := if a0 = true then (if (l1.length : Int) ≤ 12 then ((impl_allBytes.f k l1).bind fun t148 => (some t148)) else (some false)) else (some ((l1.length : Int) == 0))
set_option maxHeartbeats 8000000 in
set_option maxRecDepth 100000 in
theorem impl_partValid.calls (k : Nat) (a0 : Bool) (A1 : Option Addr) (c1 : Nat) (l1 : List Int) (r : Bool) (w : World) (hr1 : Kd.C (Kd.int .i64) w A1 l1.length l1) (hc1 : l1.length ≤ c1) (h : impl_partValid.f k a0 l1 = some r) :
  Calls Try.prog 73 #[.bool a0, .slice A1 l1.length c1] w fun e w' => e = .returned (.bool r) ∧ Drawn0 w w' := by
 have HR1 := Aside0.mk hr1
 have HC1 := Aside0.mk hc1
 clear hr1 hc1
 have H : (if a0 = true then (if (l1.length : Int) ≤ 12 then ((impl_allBytes.f k l1).bind fun t148 => (some t148)) else (some false)) else (some ((l1.length : Int) == 0))) = some r := h
 clear h
 by_cases c3 : a0 = true
 ·subst c3
  rw [if_pos rfl] at H
  by_cases c4 : (l1.length : Int) ≤ 12
  ·rw [if_pos c4] at H
   have c4b0 : decide ((l1.length : Int) ≤ 12) = true := decide_eq_true c4
   have c4b1 : decide (l1.length ≤ 12) = true := decide_eq_true (by omega)
   clear c4
   replace H := tbe H
   obtain ⟨t148, A5, H⟩ := H
   obtain rfl := Option.some.inj H
   go_enter Try.func73, Try.ntmps73
   go_wp2_with (first | (go_at_call 78; (with_reducible refine (impl_allBytes.calls k _ _ l1 t148 _ ?side1 ?side2 A5.out).mono ?_); (case side1 => exact tC HR1.out); (case side2 => exact HC1.out); rintro e w' ⟨rfl, ⟨nd, rfl⟩⟩))
   go_ret
   exact ⟨by first | rfl | (simp; done) | (simp [*]; done), by repeat (first | exact Drawn0.refl _ | apply Drawn0.step)⟩
  ·rw [if_neg c4] at H
   have c4b0 : decide ((l1.length : Int) ≤ 12) = false := decide_eq_false c4
   have c4b1 : decide (l1.length ≤ 12) = false := decide_eq_false (by omega)
   clear c4
   obtain rfl := Option.some.inj H
   go_enter Try.func73, Try.ntmps73
   go_wp2
   go_ret
   exact ⟨by first | rfl | (simp; done) | (simp [*]; done), by repeat (first | exact Drawn0.refl _ | apply Drawn0.step)⟩
 ·replace c3 := Bool.eq_false_iff.mpr c3
  subst c3
  rw [if_neg (show ¬ (false = true) by decide)] at H
  obtain rfl := Option.some.inj H
  go_enter Try.func73, Try.ntmps73
  go_wp2
  go_ret
  exact ⟨by first | rfl | (simp; done) | (simp [*]; done), by repeat (first | exact Drawn0.refl _ | apply Drawn0.step)⟩

def impl_RecordValid.f (k : Nat) (a0_0 : Int) (a0_1 : Int) (a0_2 : Bool) (l0_3 : List Int) (a0_4 : Bool) (l0_5 : List Int) : Option (Bool) := (impl_baseValid.f a0_0 a0_1).bind fun t150 => (if t150 = true then ((impl_partValid.f k a0_2 l0_3).bind fun t151 => (if t151 = true then ((impl_partValid.f k a0_4 l0_5).bind fun t152 => (some t152)) else (some false))) else (some false))
set_option maxHeartbeats 8000000 in
set_option maxRecDepth 100000 in
theorem impl_RecordValid.calls (k : Nat) (a0_0 : Int) (a0_1 : Int) (a0_2 : Bool) (A0_3 : Option Addr) (c0_3 : Nat) (l0_3 : List Int) (a0_4 : Bool) (A0_5 : Option Addr) (c0_5 : Nat) (l0_5 : List Int) (r : Bool) (w : World) (hr0_3 : Kd.C (Kd.int .i64) w A0_3 l0_3.length l0_3) (hc0_3 : l0_3.length ≤ c0_3) (hr0_5 : Kd.C (Kd.int .i64) w A0_5 l0_5.length l0_5) (hc0_5 : l0_5.length ≤ c0_5) (h : impl_RecordValid.f k a0_0 a0_1 a0_2 l0_3 a0_4 l0_5 = some r) :
  Calls Try.prog 64 #[.agg #[.int .i64 a0_0, .int .i64 a0_1, .bool a0_2, .slice A0_3 l0_3.length c0_3, .bool a0_4, .slice A0_5 l0_5.length c0_5]] w fun e w' => e = .returned (.bool r) ∧ Below w.heap.size w w' := by
 have hu41 := Try.underlying41
 have HR0_3 := Aside0.mk hr0_3
 have HC0_3 := Aside0.mk hc0_3
 clear hr0_3 hc0_3
 have HR0_5 := Aside0.mk hr0_5
 have HC0_5 := Aside0.mk hc0_5
 clear hr0_5 hc0_5
 have HB := Aside0.mk (Below.refl w.heap.size w)
 have H : ((impl_baseValid.f a0_0 a0_1).bind fun t150 => (if t150 = true then ((impl_partValid.f k a0_2 l0_3).bind fun t151 => (if t151 = true then ((impl_partValid.f k a0_4 l0_5).bind fun t152 => (some t152)) else (some false))) else (some false))) = some r := h
 clear h
 replace H := tbe H
 obtain ⟨t150, A2, H⟩ := H
 by_cases c3 : t150 = true
 ·subst c3
  rw [if_pos rfl] at H
  replace H := tbe H
  obtain ⟨t151, A4, H⟩ := H
  by_cases c5 : t151 = true
  ·subst c5
   rw [if_pos rfl] at H
   replace H := tbe H
   obtain ⟨t152, A6, H⟩ := H
   obtain rfl := Option.some.inj H
   go_enter Try.func64, Try.ntmps64
   go_wp2_with (first | ((with_reducible refine gate_dst (N := 1) rfl ?_); refine box_event ?hg (N := 1) ?hd (cs := #[.int .i64 a0_0, .int .i64 a0_1, .bool a0_2, .slice A0_3 l0_3.length c0_3, .bool a0_4, .slice A0_5 l0_5.length c0_5]) (t := 41) ?hr ?_; (case hd => rfl); (case hg => rfl); (case hr => first | (go_simp; done) | (go_simp; rfl)); intro gb149 hg w7 hbox hb; have BK149 := Aside0.mk (hbox); have GW149 := tge HB hg; have GE149 := tge HB hg; replace HB := tBs HB hb; clear hb hbox hg; obtain ⟨hcz8_0, hcz8_1, hcz8_2, hcz8_3, hcz8_4, hcz8_5, hfz8_0, hfz8_1, hfz8_2, hfz8_3, hfz8_4, hfz8_5⟩ := cells6 BK149.out) | ((with_reducible refine gate_callee (f := 72) rfl ?_); refine goesL_ (some 7) rfl rfl Try.func72 (by kernel_rfl) rfl #[.int .i64 a0_0, .int .i64 a0_1] rfl tq ?_; (with_reducible refine (impl_baseValid.calls a0_0 a0_1 true _ A2.out).mono ?_); rintro e w' ⟨rfl, ⟨nd, rfl⟩⟩; refine ⟨_, rfl, ?_⟩) | (go_at_call 73; (with_reducible refine (impl_partValid.calls k a0_2 _ _ l0_3 true _ ?side1 ?side2 A4.out).mono ?_); (case side1 => exact tC (Kd.C_below HR0_3.out zb)); (case side2 => exact HC0_3.out); rintro e w' ⟨rfl, ⟨nd, rfl⟩⟩) | (go_at_call 73; (with_reducible refine (impl_partValid.calls k a0_4 _ _ l0_5 t152 _ ?side1 ?side2 A6.out).mono ?_); (case side1 => exact tC (Kd.C_below HR0_5.out zb)); (case side2 => exact HC0_5.out); rintro e w' ⟨rfl, ⟨nd, rfl⟩⟩))
   go_ret
   exact ⟨by first | rfl | (simp [errW_none, errW_some] <;> rfl) | (simp [*, errW_none, errW_some] <;> rfl), zb⟩
  ·replace c5 := Bool.eq_false_iff.mpr c5
   subst c5
   rw [if_neg (show ¬ (false = true) by decide)] at H
   obtain rfl := Option.some.inj H
   go_enter Try.func64, Try.ntmps64
   go_wp2_with (first | ((with_reducible refine gate_dst (N := 1) rfl ?_); refine box_event ?hg (N := 1) ?hd (cs := #[.int .i64 a0_0, .int .i64 a0_1, .bool a0_2, .slice A0_3 l0_3.length c0_3, .bool a0_4, .slice A0_5 l0_5.length c0_5]) (t := 41) ?hr ?_; (case hd => rfl); (case hg => rfl); (case hr => first | (go_simp; done) | (go_simp; rfl)); intro gb149 hg w9 hbox hb; have BK149 := Aside0.mk (hbox); have GW149 := tge HB hg; have GE149 := tge HB hg; replace HB := tBs HB hb; clear hb hbox hg; obtain ⟨hcz10_0, hcz10_1, hcz10_2, hcz10_3, hcz10_4, hcz10_5, hfz10_0, hfz10_1, hfz10_2, hfz10_3, hfz10_4, hfz10_5⟩ := cells6 BK149.out) | ((with_reducible refine gate_callee (f := 72) rfl ?_); refine goesL_ (some 7) rfl rfl Try.func72 (by kernel_rfl) rfl #[.int .i64 a0_0, .int .i64 a0_1] rfl tq ?_; (with_reducible refine (impl_baseValid.calls a0_0 a0_1 true _ A2.out).mono ?_); rintro e w' ⟨rfl, ⟨nd, rfl⟩⟩; refine ⟨_, rfl, ?_⟩) | (go_at_call 73; (with_reducible refine (impl_partValid.calls k a0_2 _ _ l0_3 false _ ?side1 ?side2 A4.out).mono ?_); (case side1 => exact tC (Kd.C_below HR0_3.out zb)); (case side2 => exact HC0_3.out); rintro e w' ⟨rfl, ⟨nd, rfl⟩⟩))
   go_ret
   exact ⟨by first | rfl | (simp [errW_none, errW_some] <;> rfl) | (simp [*, errW_none, errW_some] <;> rfl), zb⟩
 ·replace c3 := Bool.eq_false_iff.mpr c3
  subst c3
  rw [if_neg (show ¬ (false = true) by decide)] at H
  obtain rfl := Option.some.inj H
  go_enter Try.func64, Try.ntmps64
  go_wp2_with (first | ((with_reducible refine gate_dst (N := 1) rfl ?_); refine box_event ?hg (N := 1) ?hd (cs := #[.int .i64 a0_0, .int .i64 a0_1, .bool a0_2, .slice A0_3 l0_3.length c0_3, .bool a0_4, .slice A0_5 l0_5.length c0_5]) (t := 41) ?hr ?_; (case hd => rfl); (case hg => rfl); (case hr => first | (go_simp; done) | (go_simp; rfl)); intro gb149 hg w11 hbox hb; have BK149 := Aside0.mk (hbox); have GW149 := tge HB hg; have GE149 := tge HB hg; replace HB := tBs HB hb; clear hb hbox hg; obtain ⟨hcz12_0, hcz12_1, hcz12_2, hcz12_3, hcz12_4, hcz12_5, hfz12_0, hfz12_1, hfz12_2, hfz12_3, hfz12_4, hfz12_5⟩ := cells6 BK149.out) | ((with_reducible refine gate_callee (f := 72) rfl ?_); refine goesL_ (some 7) rfl rfl Try.func72 (by kernel_rfl) rfl #[.int .i64 a0_0, .int .i64 a0_1] rfl tq ?_; (with_reducible refine (impl_baseValid.calls a0_0 a0_1 false _ A2.out).mono ?_); rintro e w' ⟨rfl, ⟨nd, rfl⟩⟩; refine ⟨_, rfl, ?_⟩))
  go_ret
  exact ⟨by first | rfl | (simp [errW_none, errW_some] <;> rfl) | (simp [*, errW_none, errW_some] <;> rfl), zb⟩

end Go.Proofs.Ythlnbbehcpdnfaa.G

namespace Go.Proofs.Ythlnbbehcpdnfaa.G
open Go.RowKit Go.Proofs.YthlnbbehcpdnfaaW.PrintWords Go.Proofs.YthlnbbehcpdnfaaW.PrintLast Go.Proofs.YthlnbbehcpdnfaaW.PrintMore
attribute [local go_sem] max2_int min2_int max_two min_two max_three min_three max_four min_four   -- for this text's walks alone
set_option linter.unusedVariables false
set_option linter.unusedSimpArgs false

def impl_rowValid.l0 : Nat → List (S41) → Int → Int → Option (Bool)
 | 0, _, _, _ => none
 | k + 1, x8, x9, x10 => if x10 < x9 then (if 0 ≤ x10 then (if x10 < (x8.length : Int) then ((impl_RecordValid.f k ((rd_T41 x8 x10).f0) ((rd_T41 x8 x10).f1) ((rd_T41 x8 x10).f2) ((rd_T41 x8 x10).f3) ((rd_T41 x8 x10).f4) ((rd_T41 x8 x10).f5)).bind fun t155 => (if t155 = true then (impl_rowValid.l0 k x8 x9 (wrap64 (x10 + 1))) else (some false))) else (none)) else (none)) else (some true)
def impl_rowValid.f (k : Nat) (l0 : List (S41)) : Option (Bool) := if (l0.length : Int) > 30 then (some false) else (impl_rowValid.l0 k l0 (l0.length : Int) 0)
set_option maxHeartbeats 8000000 in
set_option maxRecDepth 100000 in
theorem impl_rowValid.calls (k : Nat) (A0 : Option Addr) (c0 : Nat) (l0 : List (S41)) (r : Bool) (w : World) (hr0 : Kd.C k41 w A0 l0.length l0) (hc0 : l0.length ≤ c0) (h : impl_rowValid.f k l0 = some r) :
  Calls Try.prog 45 #[.slice A0 l0.length c0] w fun e w' => e = .returned (.bool r) ∧ Below w.heap.size w w' := by
 have hu41 := Try.underlying41
 have HR0 := Aside0.mk hr0
 have HC0 := Aside0.mk hc0
 clear hr0 hc0
 have HB := Aside0.mk (Below.refl w.heap.size w)
 have H : (if (l0.length : Int) > 30 then (some false) else (impl_rowValid.l0 k l0 (l0.length : Int) 0)) = some r := h
 clear h
 by_cases c2 : (l0.length : Int) > 30
 ·rw [if_pos c2] at H
  have c2b0 : decide (30 < (l0.length : Int)) = true := decide_eq_true c2
  have c2b1 : decide (30 < l0.length) = true := decide_eq_true (by omega)
  clear c2
  obtain rfl := Option.some.inj H
  go_enter Try.func45, Try.ntmps45
  go_wp2
  go_ret
  exact ⟨by first | rfl | (simp [errW_none, errW_some] <;> rfl) | (simp [*, errW_none, errW_some] <;> rfl), zb⟩
 ·rw [if_neg c2] at H
  have c2b0 : decide (30 < (l0.length : Int)) = false := decide_eq_false c2
  have c2b1 : decide (30 < l0.length) = false := decide_eq_false (by omega)
  clear c2
  have H' := Aside0.mk H
  clear H
  go_enter Try.func45, Try.ntmps45
  go_wp2
  go_loopg [10] k (fun kq v10 w' => ∃ (x10_1 : Int), v10 = .int .i64 x10_1 ∧ Aside0 (impl_rowValid.l0 kq l0 (l0.length : Int) x10_1 = some r) ∧ Aside0 (kq ≤ k) ∧ Aside0 (Below w.heap.size w w'))
  case atStart => exact ⟨(0), tr, H', ⟨Nat.le_refl _⟩, ⟨zb⟩⟩
  case round =>
   clear H'
   try clear c2; try clear c2b0; try clear c2b1
   obtain ⟨x10_1, rfl, HA, HK1, HB⟩ := hrel
   cases gk with
   | zero => exact absurd HA.out (by simp [impl_rowValid.l0])
   | succ k1 =>
    have H := HA.out
    clear HA
    simp only [impl_rowValid.l0] at H
    by_cases c3 : x10_1 < (l0.length : Int)
    ·rw [if_pos c3] at H
     have c3b0 : decide (x10_1 < (l0.length : Int)) = true := decide_eq_true c3
     clear c3
     by_cases c4 : 0 ≤ x10_1
     ·rw [if_pos c4] at H
      have c4b0 : decide (0 ≤ x10_1) = true := decide_eq_true c4
      clear c4
      by_cases c5 : x10_1 < (l0.length : Int)
      ·rw [if_pos c5] at H
       have c5b0 : decide (x10_1 < (l0.length : Int)) = true := decide_eq_true c5
       clear c5
       replace H := tbe H
       obtain ⟨t155, A6, H⟩ := H
       by_cases c7 : t155 = true
       ·subst c7
        rw [if_pos rfl] at H
        have H' := Aside0.mk H
        clear H
        have p153 : 0 ≤ (x10_1 : Int) := td
        have q153 : x10_1 < (l0.length : Int) := td
        obtain ⟨ad153, A153_3, c153_3, A153_5, c153_5, e153, hx153_0, hx153_1, hx153_2, hx153_3, hx153_4, hx153_5, hl153_3, hi153_3, hl153_5, hi153_5⟩ := at_T41 HR0.out x10_1 p153 q153
        cases e153
        replace hx153_0 := tcl HB hx153_0
        replace hx153_1 := tcl HB hx153_1
        replace hx153_2 := tcl HB hx153_2
        replace hx153_3 := tcl HB hx153_3
        replace hx153_4 := tcl HB hx153_4
        replace hx153_5 := tcl HB hx153_5
        have HR153_3 := Aside0.mk hi153_3
        have HC153_3 := Aside0.mk hl153_3
        clear hi153_3 hl153_3
        have HR153_5 := Aside0.mk hi153_5
        have HC153_5 := Aside0.mk hl153_5
        clear hi153_5 hl153_5
        replace p153 := eq_true p153
        replace q153 := eq_true q153
        go_wp2_with (first | ((with_reducible refine gate_dst (N := 4) rfl ?_); refine box_event ?hg (N := 4) ?hd (cs := #[.int .i64 0, .int .i64 0, .bool false, .slice none 0 0, .bool false, .slice none 0 0]) (t := 41) ?hr ?_; (case hd => rfl); (case hg => rfl); (case hr => first | (go_simp; done) | (go_simp; rfl)); intro gb154 hg w8 hbox hb; have BK154 := Aside0.mk (hbox); have GW154 := tge HB hg; have GE154 := tge HB hg; replace HB := tBs HB hb; clear hb hbox hg; obtain ⟨hcz9_0, hcz9_1, hcz9_2, hcz9_3, hcz9_4, hcz9_5, hfz9_0, hfz9_1, hfz9_2, hfz9_3, hfz9_4, hfz9_5⟩ := cells6 BK154.out) | ((with_reducible refine gate_callee (f := 64) rfl ?_); refine goesL_ (some 15) rfl rfl Try.func64 (by kernel_rfl) rfl #[.agg #[.int .i64 ((rd_T41 l0 x10_1).f0), .int .i64 ((rd_T41 l0 x10_1).f1), .bool ((rd_T41 l0 x10_1).f2), .slice A153_3 ((rd_T41 l0 x10_1).f3).length c153_3, .bool ((rd_T41 l0 x10_1).f4), .slice A153_5 ((rd_T41 l0 x10_1).f5).length c153_5]] rfl tq ?_; (with_reducible refine (impl_RecordValid.calls k1 ((rd_T41 l0 x10_1).f0) ((rd_T41 l0 x10_1).f1) ((rd_T41 l0 x10_1).f2) _ _ ((rd_T41 l0 x10_1).f3) ((rd_T41 l0 x10_1).f4) _ _ ((rd_T41 l0 x10_1).f5) true _ ?side1 ?side2 ?side3 ?side4 A6.out).mono ?_); (case side1 => exact Kd.C_below HR153_3.out zb); (case side2 => exact HC153_3.out); (case side3 => exact Kd.C_below HR153_5.out zb); (case side4 => exact HC153_5.out); rintro e w10 ⟨rfl, hb⟩; refine ⟨_, rfl, ?_⟩; replace BK154 := tBp (o' := .cells #[.int .i64 ((rd_T41 l0 x10_1).f0), .int .i64 ((rd_T41 l0 x10_1).f1), .bool ((rd_T41 l0 x10_1).f2), .slice A153_3 ((rd_T41 l0 x10_1).f3).length c153_3, .bool ((rd_T41 l0 x10_1).f4), .slice A153_5 ((rd_T41 l0 x10_1).f5).length c153_5] 41 (0, 0)) BK154 hb; replace HB := tBs HB hb; (try clear hb); (try clear hb2); (try clear hk); (try clear hi)))
        go_roundg k1
        case measure => have := HK1.out; omega
        case rel => exact ⟨(wrap64 (x10_1 + 1)), tr, H', ⟨by have := HK1.out; omega⟩, ⟨zb⟩⟩
       ·replace c7 := Bool.eq_false_iff.mpr c7
        subst c7
        rw [if_neg (show ¬ (false = true) by decide)] at H
        obtain rfl := Option.some.inj H
        have p153 : 0 ≤ (x10_1 : Int) := td
        have q153 : x10_1 < (l0.length : Int) := td
        obtain ⟨ad153, A153_3, c153_3, A153_5, c153_5, e153, hx153_0, hx153_1, hx153_2, hx153_3, hx153_4, hx153_5, hl153_3, hi153_3, hl153_5, hi153_5⟩ := at_T41 HR0.out x10_1 p153 q153
        cases e153
        replace hx153_0 := tcl HB hx153_0
        replace hx153_1 := tcl HB hx153_1
        replace hx153_2 := tcl HB hx153_2
        replace hx153_3 := tcl HB hx153_3
        replace hx153_4 := tcl HB hx153_4
        replace hx153_5 := tcl HB hx153_5
        have HR153_3 := Aside0.mk hi153_3
        have HC153_3 := Aside0.mk hl153_3
        clear hi153_3 hl153_3
        have HR153_5 := Aside0.mk hi153_5
        have HC153_5 := Aside0.mk hl153_5
        clear hi153_5 hl153_5
        replace p153 := eq_true p153
        replace q153 := eq_true q153
        go_wp2_with (first | ((with_reducible refine gate_dst (N := 4) rfl ?_); refine box_event ?hg (N := 4) ?hd (cs := #[.int .i64 0, .int .i64 0, .bool false, .slice none 0 0, .bool false, .slice none 0 0]) (t := 41) ?hr ?_; (case hd => rfl); (case hg => rfl); (case hr => first | (go_simp; done) | (go_simp; rfl)); intro gb154 hg w11 hbox hb; have BK154 := Aside0.mk (hbox); have GW154 := tge HB hg; have GE154 := tge HB hg; replace HB := tBs HB hb; clear hb hbox hg; obtain ⟨hcz12_0, hcz12_1, hcz12_2, hcz12_3, hcz12_4, hcz12_5, hfz12_0, hfz12_1, hfz12_2, hfz12_3, hfz12_4, hfz12_5⟩ := cells6 BK154.out) | ((with_reducible refine gate_callee (f := 64) rfl ?_); refine goesL_ (some 15) rfl rfl Try.func64 (by kernel_rfl) rfl #[.agg #[.int .i64 ((rd_T41 l0 x10_1).f0), .int .i64 ((rd_T41 l0 x10_1).f1), .bool ((rd_T41 l0 x10_1).f2), .slice A153_3 ((rd_T41 l0 x10_1).f3).length c153_3, .bool ((rd_T41 l0 x10_1).f4), .slice A153_5 ((rd_T41 l0 x10_1).f5).length c153_5]] rfl tq ?_; (with_reducible refine (impl_RecordValid.calls k1 ((rd_T41 l0 x10_1).f0) ((rd_T41 l0 x10_1).f1) ((rd_T41 l0 x10_1).f2) _ _ ((rd_T41 l0 x10_1).f3) ((rd_T41 l0 x10_1).f4) _ _ ((rd_T41 l0 x10_1).f5) false _ ?side1 ?side2 ?side3 ?side4 A6.out).mono ?_); (case side1 => exact Kd.C_below HR153_3.out zb); (case side2 => exact HC153_3.out); (case side3 => exact Kd.C_below HR153_5.out zb); (case side4 => exact HC153_5.out); rintro e w13 ⟨rfl, hb⟩; refine ⟨_, rfl, ?_⟩; replace BK154 := tBp (o' := .cells #[.int .i64 ((rd_T41 l0 x10_1).f0), .int .i64 ((rd_T41 l0 x10_1).f1), .bool ((rd_T41 l0 x10_1).f2), .slice A153_3 ((rd_T41 l0 x10_1).f3).length c153_3, .bool ((rd_T41 l0 x10_1).f4), .slice A153_5 ((rd_T41 l0 x10_1).f5).length c153_5] 41 (0, 0)) BK154 hb; replace HB := tBs HB hb; (try clear hb); (try clear hb2); (try clear hk); (try clear hi)))
        go_ret
        exact ⟨by first | rfl | (simp [errW_none, errW_some] <;> rfl) | (simp [*, errW_none, errW_some] <;> rfl), zb⟩
      ·rw [if_neg c5] at H
       exact absurd H (by simp)
     ·rw [if_neg c4] at H
      exact absurd H (by simp)
    ·rw [if_neg c3] at H
     have c3b0 : decide (x10_1 < (l0.length : Int)) = false := decide_eq_false c3
     clear c3
     obtain rfl := Option.some.inj H
     go_wp2
     go_ret
     exact ⟨by first | rfl | (simp [errW_none, errW_some] <;> rfl) | (simp [*, errW_none, errW_some] <;> rfl), zb⟩

end Go.Proofs.Ythlnbbehcpdnfaa.G

namespace Go.Proofs.Ythlnbbehcpdnfaa.G
open Go.RowKit Go.Proofs.YthlnbbehcpdnfaaW.PrintWords Go.Proofs.YthlnbbehcpdnfaaW.PrintLast Go.Proofs.YthlnbbehcpdnfaaW.PrintMore
attribute [local go_sem] max2_int min2_int max_two min_two max_three min_three max_four min_four   -- for this text's walks alone
set_option linter.unusedVariables false
set_option linter.unusedSimpArgs false

def impl_Record_copyOf.f (a0_0 : Int) (a0_1 : Int) (a0_2 : Bool) (l0_3 : List Int) (a0_4 : Bool) (l0_5 : List Int) : Option (Int × Int × Bool × List Int × Bool × List Int) := (slices_Clone_int_int.f l0_3).bind fun t158 => ((slices_Clone_int_int.f l0_5).bind fun t161 => (some (a0_0, a0_1, a0_2, t158, a0_4, t161)))
set_option maxHeartbeats 8000000 in
set_option maxRecDepth 100000 in
theorem impl_Record_copyOf.calls (a0_0 : Int) (a0_1 : Int) (a0_2 : Bool) (A0_3 : Option Addr) (c0_3 : Nat) (l0_3 : List Int) (a0_4 : Bool) (A0_5 : Option Addr) (c0_5 : Nat) (l0_5 : List Int) (r1 : Int) (r2 : Int) (r3 : Bool) (r4 : List Int) (r5 : Bool) (r6 : List Int) (w : World) (hr0_3 : Kd.C (Kd.int .i64) w A0_3 l0_3.length l0_3) (hc0_3 : l0_3.length ≤ c0_3) (hr0_5 : Kd.C (Kd.int .i64) w A0_5 l0_5.length l0_5) (hc0_5 : l0_5.length ≤ c0_5) (h : impl_Record_copyOf.f a0_0 a0_1 a0_2 l0_3 a0_4 l0_5 = some (r1, r2, r3, r4, r5, r6)) :
  Calls Try.prog 71 #[.agg #[.int .i64 a0_0, .int .i64 a0_1, .bool a0_2, .slice A0_3 l0_3.length c0_3, .bool a0_4, .slice A0_5 l0_5.length c0_5]] w fun e w' => ∃ v3_ v5_ : Value, e = .returned (.agg #[.int .i64 r1, .int .i64 r2, .bool r3, v3_, .bool r5, v5_]) ∧ Kd.R (Kd.int .i64) 3 w' w.heap.size (fun k_ => some k_ ≠ (v5_ : Value).ownBlock) v3_ r4 ∧ Kd.R (Kd.int .i64) 3 w' w.heap.size (fun k_ => some k_ ≠ (v3_ : Value).ownBlock) v5_ r6 ∧ Below w.heap.size w w' := by
 have hu41 := Try.underlying41
 have HR0_3 := Aside0.mk hr0_3
 have HC0_3 := Aside0.mk hc0_3
 clear hr0_3 hc0_3
 have HR0_5 := Aside0.mk hr0_5
 have HC0_5 := Aside0.mk hc0_5
 clear hr0_5 hc0_5
 have HB := Aside0.mk (Below.refl w.heap.size w)
 have H : ((slices_Clone_int_int.f l0_3).bind fun t158 => ((slices_Clone_int_int.f l0_5).bind fun t161 => (some (a0_0, a0_1, a0_2, t158, a0_4, t161)))) = some (r1, r2, r3, r4, r5, r6) := h
 clear h
 replace H := tbe H
 obtain ⟨t158, A2, H⟩ := H
 replace H := tbe H
 obtain ⟨t161, A3, H⟩ := H
 simp only [Option.some.injEq, Prod.mk.injEq] at H
 obtain ⟨rfl, rfl, rfl, rfl, rfl, rfl⟩ := H
 go_enter Try.func71, Try.ntmps71
 go_wp2_with (first | ((with_reducible refine gate_dst (N := 1) rfl ?_); refine box_event ?hg (N := 1) ?hd (cs := #[.int .i64 a0_0, .int .i64 a0_1, .bool a0_2, .slice A0_3 l0_3.length c0_3, .bool a0_4, .slice A0_5 l0_5.length c0_5]) (t := 41) ?hr ?_; (case hd => rfl); (case hg => rfl); (case hr => first | (go_simp; done) | (go_simp; rfl)); intro gb156 hg w4 hbox hb; have BK156 := Aside0.mk (hbox); have GW156 := tge HB hg; have GE156 := tge HB hg; replace HB := tBs HB hb; clear hb hbox hg) | ((with_reducible refine gate_dst (N := 2) rfl ?_); refine box_event ?hg (N := 2) ?hd (cs := #[.int .i64 0, .int .i64 0, .bool false, .slice none 0 0, .bool false, .slice none 0 0]) (t := 41) ?hr ?_; (case hd => rfl); (case hg => rfl); (case hr => first | (go_simp; done) | (go_simp; rfl)); intro gb157 hg w5 hbox hb; have BK157 := Aside0.mk (hbox); have GW157 := tge HB hg; have GE157 := tge HB hg; replace HB := tBs HB hb; have NB156_157 := tlt BK156 hg; have NB157_156 := tgt BK156 hg; replace BK156 := tBb BK156 hb; clear hb hbox hg; have hnb6 := NB156_157.out; have hnc6 := NB157_156.out; obtain ⟨hcz7_0, hcz7_1, hcz7_2, hcz7_3, hcz7_4, hcz7_5, hfz7_0, hfz7_1, hfz7_2, hfz7_3, hfz7_4, hfz7_5⟩ := cells6 BK156.out) | ((with_reducible refine gate_callee (f := 77) rfl ?_); refine goesL_ (some 5) rfl rfl Try.func77 (by kernel_rfl) rfl #[.slice A0_3 l0_3.length c0_3] rfl tq ?_; (with_reducible refine (slices_Clone_int_int.calls _ _ l0_3 t158 _ ?side1 ?side2 A2.out).mono ?_); (case side1 => exact tC (Kd.C_below HR0_3.out HB.out)); (case side2 => exact HC0_3.out); rintro e w8 ⟨v159, rfl, ho0, hb⟩; have u_v159 := tsv Try.prog v159 ho0; refine ⟨_, rfl, ?_⟩; have HO160 := tRl ho0 HB; replace BK156 := tBb BK156 hb; replace BK157 := tBb BK157 hb; replace HB := tBs HB hb; (try clear hb); (try clear hb2); (try clear hk); (try clear hi); (try clear ho0); obtain ⟨Ao9, co9, eo9⟩ := Kd.R_slice HO160.out; subst eo9; obtain ⟨hcz10_0, hcz10_1, hcz10_2, hcz10_3, hcz10_4, hcz10_5, hfz10_0, hfz10_1, hfz10_2, hfz10_3, hfz10_4, hfz10_5⟩ := cells6 BK156.out) | ((with_reducible refine gate_callee (f := 77) rfl ?_); refine goesL_ (some 9) rfl rfl Try.func77 (by kernel_rfl) rfl #[.slice A0_5 l0_5.length c0_5] rfl tq ?_; (with_reducible refine (slices_Clone_int_int.calls _ _ l0_5 t161 _ ?side1 ?side2 A3.out).mono ?_); (case side1 => exact Kd.C_below HR0_5.out zb); (case side2 => exact HC0_5.out); rintro e w11 ⟨v162, rfl, ho0, hb⟩; have u_v162 := tsv Try.prog v162 ho0; refine ⟨_, rfl, ?_⟩; have HO163 := Aside0.mk (Kd.R_lower (Kd.R_new' ho0 (Kd.R_lt (tRt HO160.out BK156.out))) (below_size zb)); replace HO160 := Aside0.mk (Kd.R_elder' (tRt HO160.out BK156.out) (Kd.R_base ho0) hb); replace BK156 := tBp (o' := .cells #[.int .i64 a0_0, .int .i64 a0_1, .bool a0_2, .slice Ao9 t158.length co9, .bool a0_4, .slice A0_5 l0_5.length c0_5] 41 (0, 0)) BK156 hb; replace BK157 := tBb BK157 hb; replace HB := tBs HB hb; (try clear hb); (try clear hb2); (try clear hk); (try clear hi); (try clear ho0); obtain ⟨Ao12, co12, eo12⟩ := Kd.R_slice HO163.out; subst eo12; obtain ⟨hcz13_0, hcz13_1, hcz13_2, hcz13_3, hcz13_4, hcz13_5, hfz13_0, hfz13_1, hfz13_2, hfz13_3, hfz13_4, hfz13_5⟩ := cells6 BK156.out; obtain ⟨hcz14_0, hcz14_1, hcz14_2, hcz14_3, hcz14_4, hcz14_5, hfz14_0, hfz14_1, hfz14_2, hfz14_3, hfz14_4, hfz14_5⟩ := cells6 BK157.out))
 refine bodyPost_ret (results_cell_row rfl _ _ gb157 41 #[.int .i64 a0_0, .int .i64 a0_1, .bool a0_2, .slice Ao9 t158.length co9, .bool a0_4, .slice Ao12 t161.length co12] (0, 0) _ rfl (tP BK157.out) Try.underlying41 rfl (by kernel_rfl)) rfl ?_
 exact ⟨_, _, by first | rfl | (simp [errW_none, errW_some] <;> rfl) | (simp [*, errW_none, errW_some] <;> rfl), tRm (Kd.R_types (Kd.R_types HO160.out BK156.out (by decide)) BK157.out (by decide)), tRm (Kd.R_types (Kd.R_types HO163.out BK156.out (by decide)) BK157.out (by decide)), zb⟩

end Go.Proofs.Ythlnbbehcpdnfaa.G

namespace Go.Proofs.Ythlnbbehcpdnfaa.G
open Go.RowKit Go.Conc Go.Proofs.YthlnbbehcpdnfaaW.PrintWords Go.Proofs.YthlnbbehcpdnfaaW.PrintLast Go.Proofs.YthlnbbehcpdnfaaW.PrintMore
set_option linter.unusedVariables false
set_option linter.unusedSimpArgs false
/-- What keeps every block of whole numbers. -/
def Kp3 (W W1 : World) : Prop := ∀ (k : Nat) (cells : Array Value), W.heap[k]? = some (Obj.cells cells 3 (0, 0)) → W1.heap[k]? = W.heap[k]?
theorem Kp3.refl (W : World) : Kp3 W W := fun _ _ _ => rfl
theorem Kp3.trans {W W1 W2 : World} (h : Kp3 W W1) (h' : Kp3 W1 W2) : Kp3 W W2 := fun k cells hk => (h' k cells ((h k cells hk).trans hk)).trans (h k cells hk)
theorem Kp3.below {W W1 : World} (h : Below W.heap.size W W1) : Kp3 W W1 := fun k cells hk => h.block k (Array.getElem?_eq_some_iff.1 hk).1
theorem Kp3.chan {W : World} {c cap s r : Nat} {buf : Array Value} {cl tm : Bool} (hc : W.heap[c]? = some (.chan cap buf cl s r tm)) (cap' : Nat) (buf' : Array Value) (cl' : Bool) (s' r' : Nat) (tm' : Bool) : Kp3 W (W.setChan c cap' buf' cl' s' r' tm') := by
  intro k cells hk
  have : k ≠ c := by
    rintro rfl
    rw [hc] at hk
    cases hk
  simp only [World.setChan]
  rw [Array.getElem?_setIfInBounds_ne (by omega)]
theorem Kp3.cell {W : World} {b t : Nat} {cs : Array Value} (hb : W.heap[b]? = some (.cells cs t (0, 0))) (ht : t ≠ 3) (j : Nat) (v : Value) : Kp3 W (W.setCell ⟨b, j, none⟩ v) := by
  intro k cells hk
  have : k ≠ b := by
    rintro rfl
    rw [hb] at hk
    injection hk with hk
    injection hk with _ hk
    exact ht hk
  exact Below.heap_setCell W ⟨b, j, none⟩ v k this
/-- A record's value whose rows are one's own. -/
def RV (W : World) (base : Nat) (x : S41) (v : Value) : Prop :=
  ∃ A3 c3 A5 c5, v = .agg #[.int .i64 x.f0, .int .i64 x.f1, .bool x.f2, .slice A3 x.f3.length c3, .bool x.f4, .slice A5 x.f5.length c5] ∧ Kd.R (Kd.int .i64) 3 W base (fun k => some k = (Value.slice A3 x.f3.length c3).ownBlock) (.slice A3 x.f3.length c3) x.f3 ∧ Kd.R (Kd.int .i64) 3 W base (fun k => some k = (Value.slice A5 x.f5.length c5).ownBlock) (.slice A5 x.f5.length c5) x.f5 ∧ KV (.slice A3 x.f3.length c3) (.slice A5 x.f5.length c5)
theorem R_kp {W W1 : World} {base : Nat} {v : Value} {l : List Int} (h : Kp3 W W1) (hr : Kd.R (Kd.int .i64) 3 W base (fun k => some k = v.ownBlock) v l) : Kd.R (Kd.int .i64) 3 W1 base (fun k => some k = v.ownBlock) v l :=
  Kd.R_move hr (fun k hk => by
    obtain ⟨cells, hc⟩ := Kd.R_typed hr k hk.symm
    exact h k cells hc)
theorem RV.kp {W W1 : World} {base : Nat} {x : S41} {v : Value} (h : Kp3 W W1) (hr : RV W base x v) : RV W1 base x v := by
  obtain ⟨A3, c3, A5, c5, rfl, h3, h5, hv⟩ := hr
  exact ⟨A3, c3, A5, c5, rfl, R_kp h h3, R_kp h h5, hv⟩
theorem RV.lower {W : World} {base base' : Nat} {x : S41} {v : Value} (hb : base' ≤ base) (hr : RV W base x v) : RV W base' x v := by
  obtain ⟨A3, c3, A5, c5, rfl, h3, h5, hv⟩ := hr
  exact ⟨A3, c3, A5, c5, rfl, Kd.R_lower h3 hb, Kd.R_lower h5 hb, hv⟩
def Buf (W : World) (base : Nat) (buf : Array Value) (l : List S41) : Prop := buf.size = l.length ∧ ∀ (j : Nat) (x : S41), l[j]? = some x → ∃ v, buf[j]? = some v ∧ RV W base x v
theorem Buf.kp {W W1 : World} {base : Nat} {buf : Array Value} {l : List S41} (h : Kp3 W W1) (hb : Buf W base buf l) : Buf W1 base buf l :=
  ⟨hb.1, fun j x hx => let ⟨v, h1, h2⟩ := hb.2 j x hx; ⟨v, h1, h2.kp h⟩⟩
theorem Buf.lower {W : World} {base base' : Nat} {buf : Array Value} {l : List S41} (h : base' ≤ base) (hb : Buf W base buf l) : Buf W base' buf l :=
  ⟨hb.1, fun j x hx => let ⟨v, h1, h2⟩ := hb.2 j x hx; ⟨v, h1, h2.lower h⟩⟩
theorem Buf.push {W : World} {base : Nat} {buf : Array Value} {l : List S41} (hb : Buf W base buf l) {x : S41} {v : Value} (hv : RV W base x v) : Buf W base (buf.push v) (l ++ [x]) := by
  refine ⟨by rw [Array.size_push, List.length_append, hb.1]; rfl, fun j y hy => ?_⟩
  by_cases hj : j < l.length
  · rw [List.getElem?_append_left hj] at hy
    obtain ⟨u, h1, h2⟩ := hb.2 j y hy
    exact ⟨u, by rw [Array.getElem?_push_lt (by rw [hb.1]; exact hj)]; rw [← h1, Array.getElem?_eq_getElem (by rw [hb.1]; exact hj)], h2⟩
  · have hlt := (List.getElem?_eq_some_iff.1 hy).1
    rw [List.length_append, List.length_singleton] at hlt
    obtain rfl : j = l.length := by omega
    rw [List.getElem?_append_right (Nat.le_refl _), Nat.sub_self] at hy
    obtain rfl := Option.some.inj hy
    exact ⟨v, by rw [← hb.1]; exact Array.getElem?_push_size, hv⟩
theorem Buf.pop {W : World} {base : Nat} {buf : Array Value} {x : S41} {l : List S41} (hb : Buf W base buf (x :: l)) : 0 < buf.size ∧ RV W base x (buf.getD 0 undef) ∧ Buf W base (buf.extract 1 buf.size) l := by
  have h0 : 0 < buf.size := by rw [hb.1]; simp
  refine ⟨h0, ?_, ?_, fun j y hy => ?_⟩
  · obtain ⟨v, h1, h2⟩ := hb.2 0 x rfl
    rw [Array.getD_eq_getD_getElem?, h1]
    exact h2
  · rw [Array.size_extract, hb.1]
    simp
  · obtain ⟨v, h1, h2⟩ := hb.2 (j + 1) y (by simpa using hy)
    refine ⟨v, ?_, h2⟩
    have := (Array.getElem?_eq_some_iff.1 h1).1
    rw [Array.getElem?_extract, if_pos (by omega), Nat.add_comm]
    exact h1
/-- A block that a record's value leads to. -/
def InB (k : Nat) (v : Value) : Prop := ∃ c : Array Value, v = .agg c ∧ ((c.getD 3 undef).ownBlock = some k ∨ (c.getD 5 undef).ownBlock = some k)
theorem InB.mk5 {k : Nat} {v0 v1 v2 v3 v4 v5 : Value} (h : InB k (.agg #[v0, v1, v2, v3, v4, v5])) : v3.ownBlock = some k ∨ v5.ownBlock = some k := by
  obtain ⟨c, he, h⟩ := h
  injection he with he
  subst he
  exact h
/-- Records' values that lead to different blocks. -/
def Ap (buf : Array Value) : Prop := ∀ (i j : Nat) (u v : Value), buf[i]? = some u → buf[j]? = some v → i ≠ j → ∀ k, InB k u → ¬ InB k v
theorem Ap.nil : Ap #[] := fun i j u v h => by simp at h
theorem Ap.push {buf : Array Value} {v : Value} (h : Ap buf) (hn : ∀ k, InB k v → ∀ (j : Nat) (u : Value), buf[j]? = some u → ¬ InB k u) : Ap (buf.push v) := by
  have hp : ∀ (i : Nat) (u : Value), (buf.push v)[i]? = some u → (i < buf.size ∧ buf[i]? = some u) ∨ (i = buf.size ∧ u = v) := by
    intro i u hi
    have hlt := (Array.getElem?_eq_some_iff.1 hi).1
    rw [Array.size_push] at hlt
    by_cases h1 : i < buf.size
    · rw [Array.getElem?_push_lt h1] at hi
      exact .inl ⟨h1, by rw [Array.getElem?_eq_getElem h1]; exact hi⟩
    · obtain rfl : i = buf.size := by omega
      rw [Array.getElem?_push_size] at hi
      exact .inr ⟨rfl, (Option.some.inj hi).symm⟩
  intro i j u x hi hj hij k hu hx
  rcases hp i u hi with ⟨_, hi'⟩ | ⟨hi', rfl⟩
  · rcases hp j x hj with ⟨_, hj'⟩ | ⟨_, rfl⟩
    · exact h i j u x hi' hj' hij k hu hx
    · exact hn k hx i u hi' hu
  · rcases hp j x hj with ⟨_, hj'⟩ | ⟨hj', _⟩
    · exact hn k hu j x hj' hx
    · omega
theorem RV.lt {W : World} {base : Nat} {x : S41} {v : Value} (h : RV W base x v) (k : Nat) (hk : InB k v) : base ≤ k ∧ k < W.heap.size := by
  obtain ⟨A3, c3, A5, c5, rfl, h3, h5, _⟩ := h
  rcases hk.mk5 with hk | hk
  · exact ⟨Kd.R_base h3 k hk, Kd.R_lt h3 k hk⟩
  · exact ⟨Kd.R_base h5 k hk, Kd.R_lt h5 k hk⟩
theorem Buf.at_ {W : World} {base : Nat} {buf : Array Value} {l : List S41} (hb : Buf W base buf l) {j : Nat} {u : Value} (hu : buf[j]? = some u) : ∃ x, l[j]? = some x ∧ RV W base x u := by
  have hlt := (Array.getElem?_eq_some_iff.1 hu).1
  rw [hb.1] at hlt
  obtain ⟨v, h1, h2⟩ := hb.2 j _ (List.getElem?_eq_getElem hlt)
  rw [hu] at h1
  cases h1
  exact ⟨_, List.getElem?_eq_getElem hlt, h2⟩
theorem copyOf_ev (x : S41) (h : x.f3.length < 17592186044416 ∧ x.f5.length < 17592186044416) : impl_Record_copyOf.f x.f0 x.f1 x.f2 x.f3 x.f4 x.f5 = some (x.f0, x.f1, x.f2, x.f3, x.f4, x.f5) := by
  simp [impl_Record_copyOf.f, slices_Clone_int_int.f, h.1, h.2]
set_option maxRecDepth 100000 in
set_option maxHeartbeats 4000000 in
theorem impl_flow.calls (A0 : Option Addr) (c0 : Nat) (l0 : List S41) (w : World) (hr0 : Kd.C k41 w A0 l0.length l0) (hc0 : l0.length ≤ c0) (hlen : l0.length ≤ 30) (hpart : ∀ x ∈ l0, x.f3.length < 17592186044416 ∧ x.f5.length < 17592186044416) :
    Calls Try.prog 54 #[.slice A0 l0.length c0] w fun e w' => ∃ c s r buf, e = .returned (.chan (some c)) ∧ w'.heap[c]? = some (.chan l0.length buf true s r false) ∧ w.heap.size ≤ c ∧ Buf w' w.heap.size buf l0 ∧ Ap buf ∧ Below w.heap.size w w' := by
  have HR := Aside0.mk hr0
  clear hr0
  have hmk : ∀ W : World, (Instr.makeChan 82 (.int .i64 (l0.length : Int))).run Try.prog W = .ok (.chan (some W.heap.size)) (W.alloc (.chan l0.length #[] false 0 0 false)) := by
    intro W
    have h : (Try.prog.info? 41).map (·.bytes) = some 80 := by kernel_rfl
    obtain ⟨i, hi, hb⟩ := Option.map_eq_some_iff.1 h
    exact run_makeChan (P := Try.prog) (w := W) Try.underlying82 hi .i64 l0.length (by omega) (by rw [hb]; omega)
  refine calls_of_wpN Try.func54 rfl ?_
  simp only [Try.ntmps54, List.size_toArray, List.length_cons, List.length_nil, Nat.reduceAdd, Nat.reduceSub, Array.replicate_succ, Array.replicate_zero, List.push_toArray, List.append_toArray, List.nil_append, List.cons_append]
  refine wpN_seq (WpN.of_wp ?_)
  go_wp2
  refine wpN_seq (WpN.of_wp ?_)
  go_wp2
  refine wpN_seq (wpN_seq (WpN.of_wp ?_))
  go_wp2
  have hC0 := heap_alloc_new w (.chan l0.length #[] false 0 0 false)
  have hB0 := below_alloc (Below.refl w.heap.size w) (.chan l0.length #[] false 0 0 false)
  generalize w.alloc _ = W0 at hC0 hB0 ⊢
  refine wpN_block (wpN_loop (fun a W => ∃ (i : Nat) (buf : Array Value) (u5 u12 u13 u14 u15 u16 u17 u18 : Value), i ≤ l0.length ∧ a = ⟨#[.slice A0 l0.length c0, undef, .chan none, .chan (some w.heap.size), undef, u5, .slice A0 l0.length c0, .int .i64 l0.length, .chan (some w.heap.size), .slice A0 l0.length c0, .int .i64 l0.length, .int .i64 i, u12, u13, u14, u15, u16, u17, u18, undef, undef], []⟩ ∧
    W.heap[w.heap.size]? = some (.chan l0.length buf false i 0 false) ∧ Buf W w.heap.size buf (l0.take i) ∧ Ap buf ∧ Below w.heap.size w W) (fun a _ => l0.length - (intOf (a.tmps.getD 11 undef)).toNat) ?_ ?_)
  · exact ⟨0, #[], _, _, _, _, _, _, _, _, Nat.zero_le _, rfl, hC0, ⟨rfl, fun j x hx => by simp at hx⟩, Ap.nil, hB0⟩
  · rintro _ W ⟨i, buf, u5, u12, u13, u14, u15, u16, u17, u18, hi, rfl, hC, hBuf, hAp, hB⟩
    refine wpN_seq (WpN.of_wp ?_)
    go_wp2
    by_cases hlt : i < l0.length
    · refine wpN_seq (wpN_cond (t := true) (by simp [go_sem, hlt]) (WpN.of_wp ?_))
      simp only [if_true]
      go_wp2
      obtain ⟨ad, A3, c3, A5, c5, rfl, e0, e1, e2, e3, e4, e5, l3, g3, l5, g5⟩ := at_T41 (Kd.C_below HR.out hB) (i : Int) (by omega) (by omega)
      rw [show ((i : Int)).toNat = i from rfl] at e0 e1 e2 e3 e4 e5
      have hri : rd_T41 l0 (i : Int) = l0[i] := by simp [rd_T41, List.getD_eq_getElem?_getD, hlt]
      rw [hri] at e0 e1 e2 e3 e4 e5 l3 g3 l5 g5
      have hp := hpart l0[i] (List.getElem_mem hlt)
      have htk : l0.take (i + 1) = l0.take i ++ [l0[i]] := (List.take_append_getElem hlt).symm
      generalize l0[i] = ri at *
      refine wpN_seq (wpN_block (wpN_seq (WpN.of_wp ?_)))
      go_wp2
      have bX := heap_alloc_new W (.cells #[.int .i64 ri.f0, .int .i64 ri.f1, .bool ri.f2, .slice A3 ri.f3.length c3, .bool ri.f4, .slice A5 ri.f5.length c5] 41)
      have hb1 := below_alloc (Below.refl W.heap.size W) (.cells #[.int .i64 ri.f0, .int .i64 ri.f1, .bool ri.f2, .slice A3 ri.f3.length c3, .bool ri.f4, .slice A5 ri.f5.length c5] 41)
      have hC1 := (hb1.block _ (Array.getElem?_eq_some_iff.1 hC).1).trans hC
      have hB1 := below_alloc hB (.cells #[.int .i64 ri.f0, .int .i64 ri.f1, .bool ri.f2, .slice A3 ri.f3.length c3, .bool ri.f4, .slice A5 ri.f5.length c5] 41)
      generalize hX : W.heap.size = X at bX hb1 ⊢
      generalize W.alloc _ = W1 at bX hb1 hC1 hB1 ⊢
      refine wpN_region ?_
      have d0 := blk_cell bX 0
      have d1 := blk_cell bX 1
      have d2 := blk_cell bX 2
      have d3 := blk_cell bX 3
      have d4 := blk_cell bX 4
      have d5 := blk_cell bX 5
      refine regN_val (rest := [1, 2, 3]) (v := .chan (some w.heap.size)) (w' := W1) rfl rfl (by go_simp) ?_
      simp only [Act.put, List.setIfInBounds_toArray, List.set_cons_zero, List.set_cons_succ]
      refine regN_val (rest := [2, 3]) (v := .agg #[.int .i64 ri.f0, .int .i64 ri.f1, .bool ri.f2, .slice A3 ri.f3.length c3, .bool ri.f4, .slice A5 ri.f5.length c5]) (w' := W1) rfl rfl (by go_simp) ?_
      simp only [Act.put, List.setIfInBounds_toArray, List.set_cons_zero, List.set_cons_succ]
      refine regN_call (rest := [3]) (f := 71) (args := #[.agg #[.int .i64 ri.f0, .int .i64 ri.f1, .bool ri.f2, .slice A3 ri.f3.length c3, .bool ri.f4, .slice A5 ri.f5.length c5]]) (w' := W1) rfl rfl (by go_simp) ?_
      refine (impl_Record_copyOf.calls _ _ _ A3 c3 ri.f3 _ A5 c5 ri.f5 _ _ _ _ _ _ W1 (Kd.C_below g3 (hX ▸ hb1)) l3 (Kd.C_below g5 (hX ▸ hb1)) l5 (copyOf_ev ri hp)).mono ?_
      rintro e W2 ⟨v3, v5, rfl, r3, r5, hb2⟩
      obtain ⟨B3, d3', rfl⟩ := Kd.R_slice r3
      obtain ⟨B5, d5', rfl⟩ := Kd.R_slice r5
      refine ⟨_, rfl, ?_⟩
      simp only [Act.put, List.setIfInBounds_toArray, List.set_cons_zero, List.set_cons_succ]
      have hC2 := (hb2.block _ (Array.getElem?_eq_some_iff.1 hC1).1).trans hC1
      refine regN_send (rest := []) (c := w.heap.size) (v := .agg #[.int .i64 ri.f0, .int .i64 ri.f1, .bool ri.f2, .slice B3 ri.f3.length d3', .bool ri.f4, .slice B5 ri.f5.length d5']) (z' := .tuple #[]) (w' := W2) rfl rfl (by simp [execOp, scase, Act.eval]) hC2 (by rw [hBuf.1, List.length_take]; omega) ?_
      simp only [Act.put, List.setIfInBounds_toArray, List.set_cons_zero, List.set_cons_succ]
      refine regN_nil ?_
      simp only [Exit.inBlock, Exit.then]
      refine WpN.of_wp ?_
      have hC3 := heap_setChan W2 w.heap.size l0.length (buf.push (.agg #[.int .i64 ri.f0, .int .i64 ri.f1, .bool ri.f2, .slice B3 ri.f3.length d3', .bool ri.f4, .slice B5 ri.f5.length d5'])) false (i + 1) 0 false (Array.getElem?_eq_some_iff.1 hC2).1
      have hB3 := below_setChan (below_step hB1 hb2) (Nat.le_refl _) l0.length (buf.push (.agg #[.int .i64 ri.f0, .int .i64 ri.f1, .bool ri.f2, .slice B3 ri.f3.length d3', .bool ri.f4, .slice B5 ri.f5.length d5'])) false (i + 1) 0 false
      have hk3 := Kp3.chan hC2 l0.length (buf.push (.agg #[.int .i64 ri.f0, .int .i64 ri.f1, .bool ri.f2, .slice B3 ri.f3.length d3', .bool ri.f4, .slice B5 ri.f5.length d5'])) false (i + 1) 0 false
      have hbuf3 : Buf (W2.setChan w.heap.size l0.length (buf.push (.agg #[.int .i64 ri.f0, .int .i64 ri.f1, .bool ri.f2, .slice B3 ri.f3.length d3', .bool ri.f4, .slice B5 ri.f5.length d5'])) false (i + 1) 0 false) w.heap.size (buf.push (.agg #[.int .i64 ri.f0, .int .i64 ri.f1, .bool ri.f2, .slice B3 ri.f3.length d3', .bool ri.f4, .slice B5 ri.f5.length d5'])) (l0.take (i + 1)) := by
        rw [htk]
        refine Buf.kp hk3 (Buf.push (hBuf.kp ((Kp3.below (hX ▸ hb1)).trans (Kp3.below hb2))) ⟨B3, d3', B5, d5', rfl, ?_, ?_, ?_⟩)
        · exact Kd.R_lower (Kd.R_tight rfl r3) (below_size hB1)
        · exact Kd.R_lower (Kd.R_tight rfl r5) (below_size hB1)
        · exact KV.ofR r3 (fun _ h_ => h_)
      have hap3 : Ap (buf.push (.agg #[.int .i64 ri.f0, .int .i64 ri.f1, .bool ri.f2, .slice B3 ri.f3.length d3', .bool ri.f4, .slice B5 ri.f5.length d5'])) := by
        refine hAp.push (fun k hk j u hu hku => ?_)
        obtain ⟨x, _, hx⟩ := hBuf.at_ hu
        have h1 := (hx.lt k hku).2
        have h2 := hb1.size
        rw [hX] at h1
        rcases hk.mk5 with hk | hk
        · have := Kd.R_base r3 k hk
          omega
        · have := Kd.R_base r5 k hk
          omega
      generalize W2.setChan _ _ _ _ _ _ _ = W3 at hC3 hB3 hbuf3 ⊢
      clear hk3
      have hw1 : IntKind.i64.wrap ((i : Int) + 1) = ((i + 1 : Nat) : Int) := by rw [IntKind.wrap_i64]; omega
      go_wp2
      refine ⟨⟨i + 1, _, _, _, _, _, _, _, _, _, hlt, rfl, hC3, hbuf3, hap3, hB3⟩, ?_⟩
      simp [intOf]
      omega
    · refine wpN_seq (wpN_cond (t := false) (by simp [go_sem, hlt]) (WpN.of_wp ?_))
      simp only [if_false, Bool.false_eq_true]
      go_wp2
      obtain rfl : i = l0.length := by omega
      rw [List.take_length] at hBuf
      have hcl := fun ats ty => run_close_open (P := Try.prog) (w := W) ats ty hC
      have hC3 := heap_setChan W w.heap.size l0.length buf true l0.length 0 false (Array.getElem?_eq_some_iff.1 hC).1
      have hB3 := below_setChan hB (Nat.le_refl _) l0.length buf true l0.length 0 false
      have hbuf3 := hBuf.kp (Kp3.chan hC l0.length buf true l0.length 0 false)
      simp only [World.setChan] at hC3 hB3 hbuf3
      refine WpN.of_wp ?_
      go_wp2
      go_ret
      exact ⟨_, _, _, _, rfl, hC3, Nat.le_refl _, hbuf3, hAp, hB3⟩
end Go.Proofs.Ythlnbbehcpdnfaa.G

namespace Go.Proofs.YthlnbbehcpdnfaaW.PrintWords
open Go.RowKit
namespace Kd
section
variable {P : Program} {ops : Array Oper} {rest : List Oper} {o : Oper} {a : Act} {W : World} {α : Type} {Q : Exit → Act → World → Prop} {Kc : Act → World → Prop}
theorem own_room (W : World) (base e size m : Nat) (cs : Array Value) (hb : base ≤ W.heap.size) (hm : m ≤ maxLen) (hs : cs.size = m * size) :
    (W.alloc (.cells cs e)).ownsRow base e size (.slice (some ⟨W.heap.size, 0, none⟩) 0 m) 0 [] :=
  ⟨by simp, .inr ⟨W.heap.size, m, cs, rfl, hb, heap_alloc_new W _, Nat.zero_le _, hm, hs, by simp⟩⟩
theorem R_room (d : Kd α) (W : World) (base e m : Nat) (cs : Array Value) {ok : Nat → Prop} (hfresh : ok W.heap.size) (hb : base ≤ W.heap.size) (hm : m ≤ maxLen) (hs : cs.size = m * d.sz) :
    d.R e (W.alloc (.cells cs e)) base ok (.slice (some ⟨W.heap.size, 0, none⟩) 0 m) [] :=
  ⟨fun k hk => by
    have : W.heap.size = k := by simpa [Value.ownBlock] using hk
    subst this
    exact hfresh, [], own_room W base e d.sz m cs hb hm hs, ⟨by simp, fun j p hj => by simp at hj⟩⟩
theorem makec_run {d : Kd α} (t e : TypeId) (x y : Operand) (ho : o.op = .makeSlice t x y) (n : Nat) (hx : a.eval x = .int .i64 0) (hy : a.eval y = .int .i64 (n : Int))
    (ht : P.underlying t = some (.slice e)) (z : Value) (bytes : Nat) (hinfo : (P.info? e).map (fun i => (i.zero, i.size, i.bytes)) = some (some z, d.sz, bytes)) (hb0 : 0 < bytes) (hl : n * bytes ≤ 281474976710656) :
    (execOp a.eval o).run P W = .ok (.value (.slice (some ⟨W.heap.size, 0, none⟩) 0 n)) (W.alloc (.cells (madeCells z.cells (n * d.sz)) e)) := by
  obtain ⟨i0, hi, hzz⟩ := Option.map_eq_some_iff.1 hinfo
  simp only [Prod.mk.injEq] at hzz
  obtain ⟨hz0, hz1, hz2⟩ := hzz
  have hm : n ≤ 281474976710656 := Nat.le_trans (Nat.le_mul_of_pos_right _ hb0) hl
  have hr := run_make (P := P) (w := W) t e i0 z ht hi hz0 .i64 .i64 0 (n : Int) (by omega) (by omega)
    (by
      have h3 : ((i0.bytes * n : Nat) : Int) ≤ 281474976710656 := by rw [hz2, Nat.mul_comm]; omega
      rwa [Int.natCast_mul] at h3) (by omega)
  simp only [Int.toNat_natCast] at hr
  rw [hz1] at hr
  have e0 : (0 : Int).toNat = 0 := rfl
  rw [e0] at hr
  simp [execOp, ho, hx, hy, hr]
theorem makec_max {n bytes : Nat} (hb0 : 0 < bytes) (hl : n * bytes ≤ 281474976710656) : n ≤ maxLen := by
  have : n ≤ 281474976710656 := Nat.le_trans (Nat.le_mul_of_pos_right _ hb0) hl
  simp only [maxLen]
  omega
theorem R_makec (d : Kd α) {w0 : World} (base e : Nat) (hgd : o.guard = none) {N : Tmp} (_hd : o.dst = some N) (t : TypeId) (x y : Operand) (ho : o.op = .makeSlice t x y) (n : Int) (hx : a.eval x = .int .i64 0) (hy : a.eval y = .int .i64 n)
    (ht : P.underlying t = some (.slice e)) (z : Value) (bytes : Nat) (hinfo : (P.info? e).map (fun i => (i.zero, i.size, i.bytes)) = some (some z, d.sz, bytes)) (_hz : z.cells.size = d.sz) (_hs0 : 0 < d.sz) (hb0 : 0 < bytes)
    {ok : Nat → Prop} (hfresh : ok W.heap.size) (h0 : 0 ≤ n) (hl : n.toNat * bytes ≤ 281474976710656) (HB : Below base w0 W) (hbase : base ≤ W.heap.size)
    (h : ∀ v1 w1, d.R e w1 base ok v1 [] → Below base w0 w1 → W.grownBy w1 none → (∃ b, v1.ownBlock = some b ∧ W.heap.size ≤ b) → wpList P ops Q rest (a.put o.dst v1) w1) : wpList P ops Q (o :: rest) a W := by
  obtain ⟨m, rfl⟩ := Int.eq_ofNat_of_zero_le h0
  simp only [Int.toNat_natCast] at hl
  exact event_run hgd (makec_run (d := d) t e x y ho m hx hy ht z bytes hinfo hb0 hl) (h _ _ (R_room d W base e m _ hfresh hbase (makec_max hb0 hl) (by simp [size_madeCells])) (HB.alloc hbase _) (World.grownBy_alloc W _ none) ⟨W.heap.size, by simp [Value.ownBlock], Nat.le_refl _⟩)
end
end Kd
end Go.Proofs.YthlnbbehcpdnfaaW.PrintWords

namespace Go.Proofs.Ythlnbbehcpdnfaa.G
open Go.RowKit Go.Conc Go.Proofs.YthlnbbehcpdnfaaW.PrintWords Go.Proofs.YthlnbbehcpdnfaaW.PrintLast Go.Proofs.YthlnbbehcpdnfaaW.PrintMore
set_option linter.unusedVariables false
set_option linter.unusedSimpArgs false
def leR (x y : S41) : Bool := decide (x.f1 ≤ y.f1)
def mgR (a b : List S41) : List S41 := List.merge a b leR
def smallR (l : List S41) : Bool := l.all fun x => decide (x.f3.length < 17592186044416) && decide (x.f5.length < 17592186044416)
theorem small_of {l : List S41} (h : smallR l = true) : ∀ x ∈ l, x.f3.length < 17592186044416 ∧ x.f5.length < 17592186044416 := fun x hx => by
  have := List.all_eq_true.1 h x hx
  simpa using this
def impl_RecordsMerge.f (k : Nat) (l0 l1 : List S41) : Option (List S41 × Bool) :=
  (impl_rowValid.f k l0).bind fun u => if u = true then (impl_rowValid.f k l1).bind fun v => if v = true then (if 30 < l0.length + l1.length then some ([], false) else if (smallR l0 && smallR l1) = true then some (mgR l0 l1, true) else none) else some ([], false) else some ([], false)
/-- A box that holds a record. -/
def BoxR (W : World) (b : Nat) (y : S41) (A3 : Option Addr) (c3 : Nat) (A5 : Option Addr) (c5 : Nat) : Prop := W.heap[b]? = some (Obj.cells #[.int .i64 y.f0, .int .i64 y.f1, .bool y.f2, .slice A3 y.f3.length c3, .bool y.f4, .slice A5 y.f5.length c5] 41 (0, 0))
/-- An element with its number. -/
abbrev TR := S41 × Nat
def leT (x y : TR) : Bool := leR x.1 y.1
def mgT (a b : List TR) : List TR := List.merge a b leT
theorem mgT_fst (a b : List TR) : (mgT a b).map Prod.fst = mgR (a.map Prod.fst) (b.map Prod.fst) := List.map_merge (fun _ _ _ _ => rfl)
theorem mgT_nodup {a b : List TR} (h : ((a ++ b).map Prod.snd).Nodup) : ((mgT a b).map Prod.snd).Nodup := ((List.merge_perm_append (le := leT) (xs := a) (ys := b)).map Prod.snd).symm.nodup h
theorem S_of_tag {α : Type} {d : Kd α} {e : Nat} {w : World} {base : Nat} {ok : Nat → Prop} {v : Value} {f : Nat → Nat} {zs : List (α × Nat)} (h : (Kd.tag f d).R e w base ok v zs) (hn : (zs.map Prod.snd).Nodup) : Kd.S d e w base ok v (zs.map Prod.fst) := by
  obtain ⟨h0, inner, ho, hr⟩ := h
  refine ⟨fun k => (zs.map Prod.snd).idxOf (f k), h0, inner, by rw [List.length_zipIdx, List.length_map]; exact ho, by have := hr.1; rw [List.length_zipIdx, List.length_map]; exact this, fun j p hj => ?_⟩
  rw [List.getElem?_zipIdx, Nat.zero_add, List.getElem?_map] at hj
  obtain ⟨x, hx, rfl⟩ := Option.map_eq_some_iff.1 hj
  obtain ⟨z, hz, rfl⟩ := Option.map_eq_some_iff.1 hx
  refine d.M_mono (fun k hk => ⟨hk.1, ?_⟩) (hr.2 j z hz)
  obtain ⟨hlt, rfl⟩ := List.getElem?_eq_some_iff.1 hz
  show (zs.map Prod.snd).idxOf (f k) = j
  rw [hk.2]
  have := List.Nodup.idxOf_getElem hn j (by rw [List.length_map]; exact hlt)
  rwa [List.getElem_map] at this
theorem R_empty {α β : Type} {d : Kd α} {d' : Kd β} {e : Nat} {w : World} {base : Nat} {ok : Nat → Prop} {v : Value} (h : d.R e w base ok v []) (hs : d'.sz = d.sz) : d'.R e w base ok v [] := by
  obtain ⟨h0, inner, ho, hr⟩ := h
  exact ⟨h0, inner, by rw [hs]; exact ho, by rw [hs]; exact hr.1, fun j p hj => by simp at hj⟩
/-- Whose a block is. -/
noncomputable def ownF (buf : Array Value) (k : Nat) : Nat := open Classical in if h : ∃ j, ∃ u, buf[j]? = some u ∧ InB k u then Classical.choose h else 0
theorem ownF_eq {buf : Array Value} (h : Ap buf) {j k : Nat} {u : Value} (hj : buf[j]? = some u) (hk : InB k u) : ownF buf k = j := by
  have he : ∃ j, ∃ u, buf[j]? = some u ∧ InB k u := ⟨j, u, hj, hk⟩
  unfold ownF
  rw [dif_pos he]
  obtain ⟨u', h1, h2⟩ := Classical.choose_spec he
  exact Classical.byContradiction fun hne => h _ _ _ _ h1 hj hne k h2 hk
theorem Ap.append {b1 b2 : Array Value} (h1 : Ap b1) (h2 : Ap b2) (h : ∀ (i j : Nat) (u v : Value), b1[i]? = some u → b2[j]? = some v → ∀ k, InB k u → ¬ InB k v) : Ap (b1 ++ b2) := by
  have hp : ∀ (i : Nat) (u : Value), (b1 ++ b2)[i]? = some u → (i < b1.size ∧ b1[i]? = some u) ∨ (b1.size ≤ i ∧ b2[i - b1.size]? = some u) := by
    intro i u hi
    by_cases hl : i < b1.size
    · rw [Array.getElem?_append_left hl] at hi
      exact .inl ⟨hl, hi⟩
    · rw [Array.getElem?_append_right (by omega)] at hi
      exact .inr ⟨by omega, hi⟩
  intro i j u v hi hj hij k hu hv
  rcases hp i u hi with ⟨_, hi'⟩ | ⟨_, hi'⟩ <;> rcases hp j v hj with ⟨_, hj'⟩ | ⟨_, hj'⟩
  · exact h1 i j u v hi' hj' hij k hu hv
  · exact h _ _ _ _ hi' hj' k hu hv
  · exact h _ _ _ _ hj' hi' k hv hu
  · exact h2 _ _ u v hi' hj' (by omega) k hu hv
def RT (f : Nat → Nat) (W : World) (base n : Nat) (v : Value) (l : List Int) : Prop := Kd.R (Kd.int .i64) 3 W base (fun k => some k = v.ownBlock) v l ∧ ∀ k, v.ownBlock = some k → f k = n
def RT5 (f : Nat → Nat) (W : World) (base n : Nat) (u v : Value) (l : List Int) : Prop := RT f W base n v l ∧ KV u v
theorem RT.kp {f : Nat → Nat} {W W1 : World} {base n : Nat} {v : Value} {l : List Int} (hr : RT f W base n v l) (h : Kp3 W W1) : RT f W1 base n v l := ⟨R_kp h hr.1, hr.2⟩
theorem RT5.kp {f : Nat → Nat} {W W1 : World} {base n : Nat} {u v : Value} {l : List Int} (hr : RT5 f W base n u v l) (h : Kp3 W W1) : RT5 f W1 base n u v l := ⟨hr.1.kp h, hr.2⟩
def RVT (f : Nat → Nat) (W : World) (base : Nat) (x : TR) (v : Value) : Prop :=
  ∃ A3 c3 A5 c5, v = .agg #[.int .i64 x.1.f0, .int .i64 x.1.f1, .bool x.1.f2, .slice A3 x.1.f3.length c3, .bool x.1.f4, .slice A5 x.1.f5.length c5] ∧ RT f W base x.2 (.slice A3 x.1.f3.length c3) x.1.f3 ∧ RT5 f W base x.2 (.slice A3 x.1.f3.length c3) (.slice A5 x.1.f5.length c5) x.1.f5
theorem RVT.kp {f : Nat → Nat} {W W1 : World} {base : Nat} {x : TR} {v : Value} (hr : RVT f W base x v) (h : Kp3 W W1) : RVT f W1 base x v := by
  obtain ⟨A3, c3, A5, c5, rfl, h3, h5⟩ := hr
  exact ⟨A3, c3, A5, c5, rfl, h3.kp h, h5.kp h⟩
def TBuf (f : Nat → Nat) (W : World) (base : Nat) (buf : Array Value) (l : List TR) : Prop := buf.size = l.length ∧ ∀ (j : Nat) (x : TR), l[j]? = some x → ∃ v, buf[j]? = some v ∧ RVT f W base x v
theorem TBuf.kp {f : Nat → Nat} {W W1 : World} {base : Nat} {buf : Array Value} {l : List TR} (hb : TBuf f W base buf l) (h : Kp3 W W1) : TBuf f W1 base buf l :=
  ⟨hb.1, fun j x hx => let ⟨v, h1, h2⟩ := hb.2 j x hx; ⟨v, h1, h2.kp h⟩⟩
theorem TBuf.pop {f : Nat → Nat} {W : World} {base : Nat} {buf : Array Value} {x : TR} {l : List TR} (hb : TBuf f W base buf (x :: l)) : 0 < buf.size ∧ RVT f W base x (buf.getD 0 undef) ∧ TBuf f W base (buf.extract 1 buf.size) l := by
  have h0 : 0 < buf.size := by rw [hb.1]; simp
  refine ⟨h0, ?_, ?_, fun j y hy => ?_⟩
  · obtain ⟨v, h1, h2⟩ := hb.2 0 x rfl
    rw [Array.getD_eq_getD_getElem?, h1]
    exact h2
  · rw [Array.size_extract, hb.1]
    simp
  · obtain ⟨v, h1, h2⟩ := hb.2 (j + 1) y (by simpa using hy)
    refine ⟨v, ?_, h2⟩
    have := (Array.getElem?_eq_some_iff.1 h1).1
    rw [Array.getElem?_extract, if_pos (by omega), Nat.add_comm]
    exact h1
theorem TBuf.of {f : Nat → Nat} {W : World} {base : Nat} {buf : Array Value} {l : List S41} (hb : Buf W base buf l) (n : Nat) (hf : ∀ (j : Nat) (u : Value), buf[j]? = some u → ∀ k, InB k u → f k = n + j) : TBuf f W base buf (l.zipIdx n) := by
  refine ⟨by rw [List.length_zipIdx]; exact hb.1, fun j x hx => ?_⟩
  rw [List.getElem?_zipIdx] at hx
  obtain ⟨y, hy, rfl⟩ := Option.map_eq_some_iff.1 hx
  obtain ⟨v, h1, A3, c3, A5, c5, rfl, h3, h5, hv⟩ := hb.2 j y hy
  exact ⟨_, h1, A3, c3, A5, c5, rfl, ⟨h3, fun k hk => hf j _ h1 k ⟨_, rfl, .inl hk⟩⟩, ⟨h5, fun k hk => hf j _ h1 k ⟨_, rfl, .inr hk⟩⟩, hv⟩
theorem TBuf.lower {f : Nat → Nat} {W : World} {base base' : Nat} {buf : Array Value} {l : List TR} (hb : TBuf f W base buf l) (h : base' ≤ base) : TBuf f W base' buf l :=
  ⟨hb.1, fun j x hx => let ⟨v, h1, A3, c3, A5, c5, he, h3, h5⟩ := hb.2 j x hx; ⟨v, h1, A3, c3, A5, c5, he, ⟨Kd.R_lower h3.1 h, h3.2⟩, ⟨Kd.R_lower h5.1.1 h, h5.1.2⟩, h5.2⟩⟩
/-- A source: a closed channel that holds what is left, and a box that holds the next one, if there is one. -/
def Src (f : Nat → Nat) (W : World) (base g b : Nat) (one : Bool) (l : List TR) : Prop :=
  ∃ cap buf s r, ∃ y : TR, ∃ A3 c3 A5 c5, W.heap[g]? = some (Obj.chan cap buf true s r false) ∧ BoxR W b y.1 A3 c3 A5 c5 ∧ ((one = false ∧ l = [] ∧ buf = #[]) ∨
    (one = true ∧ ∃ l', l = y :: l' ∧ (RT f W base y.2 (.slice A3 y.1.f3.length c3) y.1.f3 ∧ RT5 f W base y.2 (.slice A3 y.1.f3.length c3) (.slice A5 y.1.f5.length c5) y.1.f5) ∧ TBuf f W base buf l'))
theorem Src.move {W W1 : World} {base g b : Nat} {one : Bool} {f : Nat → Nat} {l : List TR} (h : Src f W base g b one l) (hg : W1.heap[g]? = W.heap[g]?) (hb : W1.heap[b]? = W.heap[b]?) (hk : Kp3 W W1) : Src f W1 base g b one l := by
  obtain ⟨cap, buf, s, r, y, A3, c3, A5, c5, h1, h2, h3⟩ := h
  refine ⟨cap, buf, s, r, y, A3, c3, A5, c5, hg.trans h1, hb.trans h2, ?_⟩
  rcases h3 with h3 | ⟨h3, l', h4, h5, h6⟩
  · exact .inl h3
  · exact .inr ⟨h3, l', h4, ⟨h5.1.kp hk, h5.2.kp hk⟩, h6.kp hk⟩
theorem Src.below {W W1 : World} {base g b : Nat} {one : Bool} {f : Nat → Nat} {l : List TR} (h : Src f W base g b one l) (hb : Below W.heap.size W W1) : Src f W1 base g b one l := by
  have h0 := h
  obtain ⟨cap, buf, s, r, y, A3, c3, A5, c5, h1, h2, h3⟩ := h0
  exact h.move (hb.block _ (Array.getElem?_eq_some_iff.1 h1).1) (hb.block _ (Array.getElem?_eq_some_iff.1 h2).1) (Kp3.below hb)
def Slots (a : Act) (A0 : Option Addr) (n0 d0 : Nat) (A1 : Option Addr) (n1 d1 g1 g2 : Nat) (v6 v9 v10 v11 v12 : Value) : Prop :=
  a.defers = [] ∧ a.tmps.size = 84 ∧ a.tmps.getD 0 undef = Value.slice A0 n0 d0 ∧ a.tmps.getD 1 undef = Value.slice A1 n1 d1 ∧ a.tmps.getD 4 undef = Value.slice none 0 0 ∧ a.tmps.getD 5 undef = Value.bool false ∧ a.tmps.getD 6 undef = v6 ∧ a.tmps.getD 7 undef = Value.chan (some g1) ∧ a.tmps.getD 8 undef = Value.chan (some g2) ∧ a.tmps.getD 9 undef = v9 ∧ a.tmps.getD 10 undef = v10 ∧ a.tmps.getD 11 undef = v11 ∧ a.tmps.getD 12 undef = v12
theorem Slots.open {a : Act} {A0 : Option Addr} {n0 d0 : Nat} {A1 : Option Addr} {n1 d1 g1 g2 : Nat} {v6 v9 v10 v11 v12 : Value} (h : Slots a A0 n0 d0 A1 n1 d1 g1 g2 v6 v9 v10 v11 v12) :
    ∃ u : Nat → Value, a = ⟨#[Value.slice A0 n0 d0, Value.slice A1 n1 d1, u 2, u 3, Value.slice none 0 0, Value.bool false, v6, Value.chan (some g1), Value.chan (some g2), v9, v10, v11, v12, u 13, u 14, u 15, u 16, u 17, u 18, u 19, u 20, u 21, u 22, u 23, u 24, u 25, u 26, u 27, u 28, u 29, u 30, u 31, u 32, u 33, u 34, u 35, u 36, u 37, u 38, u 39, u 40, u 41, u 42, u 43, u 44, u 45, u 46, u 47, u 48, u 49, u 50, u 51, u 52, u 53, u 54, u 55, u 56, u 57, u 58, u 59, u 60, u 61, u 62, u 63, u 64, u 65, u 66, u 67, u 68, u 69, u 70, u 71, u 72, u 73, u 74, u 75, u 76, u 77, u 78, u 79, u 80, u 81, u 82, u 83], []⟩ := by
  obtain ⟨hd, hs, h0, h1, h4, h5, h6, h7, h8, h9, h10, h11, h12⟩ := h
  refine ⟨fun i => a.tmps.getD i undef, ?_⟩
  have e : a.tmps = ((List.range 84).map fun i => a.tmps.getD i undef).toArray := by
    apply Array.ext
    · simp [hs]
    · intro i h1 h2
      simp only [List.getElem_toArray, List.getElem_map, List.getElem_range]
      rw [Array.getD_eq_getD_getElem?, Array.getElem?_eq_getElem h1]
      rfl
  have e2 : ∀ u : Nat → Value, ((List.range 84).map u).toArray = #[u 0, u 1, u 2, u 3, u 4, u 5, u 6, u 7, u 8, u 9, u 10, u 11, u 12, u 13, u 14, u 15, u 16, u 17, u 18, u 19, u 20, u 21, u 22, u 23, u 24, u 25, u 26, u 27, u 28, u 29, u 30, u 31, u 32, u 33, u 34, u 35, u 36, u 37, u 38, u 39, u 40, u 41, u 42, u 43, u 44, u 45, u 46, u 47, u 48, u 49, u 50, u 51, u 52, u 53, u 54, u 55, u 56, u 57, u 58, u 59, u 60, u 61, u 62, u 63, u 64, u 65, u 66, u 67, u 68, u 69, u 70, u 71, u 72, u 73, u 74, u 75, u 76, u 77, u 78, u 79, u 80, u 81, u 82, u 83] := fun u => rfl
  rw [e2] at e
  rw [h0, h1, h4, h5, h6, h7, h8, h9, h10, h11, h12] at e
  obtain ⟨t, d⟩ := a
  simp only at hd e ⊢
  rw [hd, ← e]
theorem grown3 {W W2 : World} {base b1 b2 : Nat} {v6 : Value} {f : Nat → Nat} {xs : List TR} (hO : Kd.R (Kd.tag f k41) 41 W base (fun k => k ≠ b1 ∧ k ≠ b2) v6 xs) (hg : W.grownBy W2 v6.ownBlock) :
    (∀ (g cap : Nat) (buf : Array Value) (cl : Bool) (s r : Nat) (tm : Bool), W.heap[g]? = some (Obj.chan cap buf cl s r tm) → W2.heap[g]? = W.heap[g]?) ∧ (∀ (b : Nat), b = b1 ∨ b = b2 → b < W.heap.size → W2.heap[b]? = W.heap[b]?) ∧ Kp3 W W2 := by
  refine ⟨fun g cap buf cl s r tm h1 => hg.block _ (blk_lt h1) fun he => ?_, fun b hb hl => hg.block _ hl fun he => ?_, fun k cells hk => hg.block _ (blk_lt hk) fun he => ?_⟩
  · obtain ⟨cs, hc⟩ := Kd.R_typed hO g he.symm
    rw [h1] at hc
    cases hc
  · have := hO.1 b he.symm
    omega
  · obtain ⟨cs, hc⟩ := Kd.R_typed hO k he.symm
    rw [hk] at hc
    injection hc with hc
    injection hc with _ hc
    exact absurd hc (by decide)
theorem Src.grown {W W2 : World} {base b1 b2 g b : Nat} {v6 : Value} {f : Nat → Nat} {xs : List TR} {one : Bool} {l : List TR} (h : Src f W base g b one l) (hO : Kd.R (Kd.tag f k41) 41 W base (fun k => k ≠ b1 ∧ k ≠ b2) v6 xs) (hg : W.grownBy W2 v6.ownBlock) (hb : b = b1 ∨ b = b2) : Src f W2 base g b one l := by
  have h0 := h
  obtain ⟨cap, buf, s, r, y, A3, c3, A5, c5, h1, h2, h3⟩ := h0
  obtain ⟨p1, p2, p3⟩ := grown3 hO hg
  exact h.move (p1 _ _ _ _ _ _ _ h1) (p2 _ hb (blk_lt h2)) p3
theorem okp_of {W : World} {base b1 b2 : Nat} {v6 : Value} {f : Nat → Nat} {xs : List TR} {y1 y2 : S41} {A31 A51 A32 A52 : Option Addr} {c31 c51 c32 c52 : Nat} (h1 : BoxR W b1 y1 A31 c31 A51 c51) (h2 : BoxR W b2 y2 A32 c32 A52 c52) (hO : Kd.R (Kd.tag f k41) 41 W base (fun k => k ≠ b1 ∧ k ≠ b2) v6 xs) :
    ∀ k, (∃ cells, W.heap[k]? = some (Obj.cells cells 3 (0, 0))) → (k ≠ b1 ∧ k ≠ b2) ∧ some k ≠ v6.ownBlock := by
  rintro k ⟨cs, hk⟩
  have hn : ∀ cs', W.heap[k]? ≠ some (Obj.cells cs' 41 (0, 0)) := by
    intro cs' hc
    rw [hk] at hc
    injection hc with hc
    injection hc with _ hc
    exact absurd hc (by decide)
  refine ⟨⟨?_, ?_⟩, fun he => ?_⟩
  · rintro rfl
    exact hn _ h1
  · rintro rfl
    exact hn _ h2
  · obtain ⟨cs', hc⟩ := Kd.R_typed hO k he.symm
    exact hn _ hc
theorem fresh_of {W : World} {b1 b2 : Nat} {y1 y2 : S41} {A31 A51 A32 A52 : Option Addr} {c31 c51 c32 c52 : Nat} (h1 : BoxR W b1 y1 A31 c31 A51 c51) (h2 : BoxR W b2 y2 A32 c32 A52 c52) : ∀ k, W.heap.size ≤ k → k ≠ b1 ∧ k ≠ b2 := by
  intro k hk
  have := blk_lt h1
  have := blk_lt h2
  omega
theorem ne_cb {W : World} {g b cap s r : Nat} {buf : Array Value} {cl tm : Bool} {y : S41} {A3 : Option Addr} {c3 : Nat} {A5 : Option Addr} {c5 : Nat} (hc : W.heap[g]? = some (Obj.chan cap buf cl s r tm)) (hb : BoxR W b y A3 c3 A5 c5) : g ≠ b := by
  rintro rfl
  rw [BoxR, hc] at hb
  cases hb
/-- Where a box of another source changes. -/
theorem Src.other {W W3 : World} {base g b b' : Nat} {one : Bool} {f : Nat → Nat} {l : List TR} {y : S41} {A3 : Option Addr} {c3 : Nat} {A5 : Option Addr} {c5 : Nat} (h : Src f W base g b one l) (hot : ∀ k, k ≠ b' → W3.heap[k]? = W.heap[k]?) (hx : BoxR W b' y A3 c3 A5 c5) (hb : b ≠ b') (hk : Kp3 W W3) : Src f W3 base g b one l := by
  have h0 := h
  obtain ⟨cap, buf, s, r, y, A3, c3, A5, c5, h1, h2, h3⟩ := h0
  exact h.move (hot _ (ne_cb h1 hx)) (hot _ hb) hk
theorem Src.other2 {W W3 : World} {base g b g' b' : Nat} {one : Bool} {f : Nat → Nat} {l : List TR} {y : S41} {A3 : Option Addr} {c3 : Nat} {A5 : Option Addr} {c5 : Nat} {cap s r : Nat} {buf : Array Value} {cl tm : Bool} (h : Src f W base g b one l) (hot : ∀ k, k ≠ g' → k ≠ b' → W3.heap[k]? = W.heap[k]?) (hc : W.heap[g']? = some (Obj.chan cap buf cl s r tm)) (hx : BoxR W b' y A3 c3 A5 c5) (hb : b ≠ b') (hg : g ≠ g') (hk : Kp3 W W3) : Src f W3 base g b one l := by
  have h0 := h
  obtain ⟨cap, buf, s, r, y, A3, c3, A5, c5, h1, h2, h3⟩ := h0
  exact h.move (hot _ hg (ne_cb h1 hx)) (hot _ (ne_cb hc h2).symm hb) hk
/-- A row stays where a channel and a box change. -/
theorem R_cb {W W1 : World} {base b1 b2 g : Nat} {v : Value} {f : Nat → Nat} {xs : List TR} {cap s r : Nat} {buf : Array Value} {cl tm : Bool} (hO : Kd.R (Kd.tag f k41) 41 W base (fun k => k ≠ b1 ∧ k ≠ b2) v xs) (hc : W.heap[g]? = some (Obj.chan cap buf cl s r tm)) {b : Nat} (hb : b = b1 ∨ b = b2) (h : ∀ k, k ≠ g → k ≠ b → W1.heap[k]? = W.heap[k]?) : Kd.R (Kd.tag f k41) 41 W1 base (fun k => k ≠ b1 ∧ k ≠ b2) v xs :=
  Kd.R_mono (Kd.R_move (Kd.R_bound hO) (fun k hk => h k (by
    rintro rfl
    obtain ⟨_, _, _, q, _, cs, hcs⟩ := hk
    rw [hc] at hcs
    cases hcs) (by
    have := hk.1
    omega))) (fun _ hk => hk.1)
theorem BoxR.set {W : World} {b : Nat} {y : S41} {A3 : Option Addr} {c3 : Nat} {A5 : Option Addr} {c5 : Nat} (h : BoxR W b y A3 c3 A5 c5) (v0 v1 v2 v3 v4 v5 : Value) :
    ∃ W' : World, W' = (((((W.setCell ⟨b, 0, none⟩ v0).setCell ⟨b, 1, none⟩ v1).setCell ⟨b, 2, none⟩ v2).setCell ⟨b, 3, none⟩ v3).setCell ⟨b, 4, none⟩ v4).setCell ⟨b, 5, none⟩ v5 ∧ W'.heap[b]? = some (Obj.cells #[v0, v1, v2, v3, v4, v5] 41 (0, 0)) ∧ (∀ k, k ≠ b → W'.heap[k]? = W.heap[k]?) ∧ Kp3 W W' ∧ (∀ (base : Nat) (w : World), base ≤ b → Below base w W → Below base w W') := by
  refine ⟨_, rfl, ?_, fun k hk => ?_, ?_, fun base w hb hB => ?_⟩
  · exact blk_put (blk_put (blk_put (blk_put (blk_put (blk_put h 0 v0 rfl) 1 v1 rfl) 2 v2 rfl) 3 v3 rfl) 4 v4 rfl) 5 v5 rfl
  · rw [Below.heap_setCell _ _ _ _ hk, Below.heap_setCell _ _ _ _ hk, Below.heap_setCell _ _ _ _ hk, Below.heap_setCell _ _ _ _ hk, Below.heap_setCell _ _ _ _ hk, Below.heap_setCell _ _ _ _ hk]
  · have k1 := blk_set h 0 v0
    have k2 := blk_set k1 1 v1
    have k3 := blk_set k2 2 v2
    have k4 := blk_set k3 3 v3
    have k5 := blk_set k4 4 v4
    exact (Kp3.cell h (by decide) 0 v0).trans ((Kp3.cell k1 (by decide) 1 v1).trans ((Kp3.cell k2 (by decide) 2 v2).trans ((Kp3.cell k3 (by decide) 3 v3).trans ((Kp3.cell k4 (by decide) 4 v4).trans (Kp3.cell k5 (by decide) 5 v5)))))
  · exact (((((hB.setCell (p := ⟨b, 0, none⟩) hb v0).setCell (p := ⟨b, 1, none⟩) hb v1).setCell (p := ⟨b, 2, none⟩) hb v2).setCell (p := ⟨b, 3, none⟩) hb v3).setCell (p := ⟨b, 4, none⟩) hb v4).setCell (p := ⟨b, 5, none⟩) hb v5
theorem list_cases {α : Type} (l : List α) : l = [] ∨ ∃ x l', l = x :: l' := by cases l <;> simp
theorem rowValid_len {k : Nat} {l : List S41} (h : impl_rowValid.f k l = some true) : l.length ≤ 30 := by
  unfold impl_rowValid.f at h
  by_cases hl : (l.length : Int) > 30
  · rw [if_pos hl] at h
    simp at h
  · omega
theorem mt_nil (l : List TR) : mgT [] l = l := by simp [mgT]
theorem mt_nil' (l : List TR) : mgT l [] = l := by simp [mgT]
theorem mt_cons (x y : TR) (a b : List TR) : mgT (x :: a) (y :: b) = if x.1.f1 ≤ y.1.f1 then x :: mgT a (y :: b) else y :: mgT (x :: a) b := by
  simp [mgT, List.cons_merge_cons, leT, leR]
theorem mg_nil (l : List S41) : mgR [] l = l := by simp [mgR]
theorem mg_nil' (l : List S41) : mgR l [] = l := by simp [mgR]
theorem mg_cons (x y : S41) (a b : List S41) : mgR (x :: a) (y :: b) = if x.f1 ≤ y.f1 then x :: mgR a (y :: b) else y :: mgR (x :: a) b := by
  simp [mgR, List.cons_merge_cons, leR]
set_option maxRecDepth 100000 in
set_option maxHeartbeats 400000 in
theorem impl_RecordsMerge.calls (k : Nat) (A0 : Option Addr) (c0 : Nat) (l0 : List S41) (A1 : Option Addr) (c1 : Nat) (l1 : List S41) (r1 : List S41) (r2 : Bool) (w : World) (hr0 : Kd.C k41 w A0 l0.length l0) (hc0 : l0.length ≤ c0) (hr1 : Kd.C k41 w A1 l1.length l1) (hc1 : l1.length ≤ c1) (h : impl_RecordsMerge.f k l0 l1 = some (r1, r2)) :
    Calls Try.prog 33 #[.slice A0 l0.length c0, .slice A1 l1.length c1] w fun e w' => ∃ v0_ : Value, e = .returned (.tuple #[v0_, .bool r2]) ∧ Kd.S k41 41 w' w.heap.size (fun _ => True) v0_ r1 ∧ Below w.heap.size w w' := by
  have hl0 := hr0.2.1
  have hl1 := hr1.2.1
  have HR0 := Aside0.mk hr0
  have HR1 := Aside0.mk hr1
  clear hr0 hr1
  unfold impl_RecordsMerge.f at h
  obtain ⟨u, hu, h⟩ := Option.bind_eq_some_iff.mp h
  cases u
  · simp only [Bool.false_eq_true, if_false, Option.some.injEq, Prod.mk.injEq] at h
    obtain ⟨rfl, rfl⟩ := h
    go_enter Try.func33, Try.ntmps33
    go_wp2_with (go_at_call 45; with_reducible refine (impl_rowValid.calls k A0 c0 l0 false _ HR0.out hc0 hu).mono ?_; rintro e w1 ⟨rfl, hb1⟩)
    go_ret2
    exact ⟨_, rfl, Kd.S_nil _ _ _ _ _, hb1⟩
  simp only [if_true] at h
  obtain ⟨v, hv, h⟩ := Option.bind_eq_some_iff.mp h
  cases v
  · simp only [Bool.false_eq_true, if_false, Option.some.injEq, Prod.mk.injEq] at h
    obtain ⟨rfl, rfl⟩ := h
    go_enter Try.func33, Try.ntmps33
    go_wp2_with (first | (go_at_call 45; with_reducible refine (impl_rowValid.calls k A0 c0 l0 true _ HR0.out hc0 hu).mono ?_; rintro e w1 ⟨rfl, hb1⟩) | (go_at_call 45; with_reducible refine (impl_rowValid.calls k A1 c1 l1 false _ (Kd.C_below HR1.out hb1) hc1 hv).mono ?_; rintro e w2 ⟨rfl, hb2⟩))
    go_ret2
    exact ⟨_, rfl, Kd.S_nil _ _ _ _ _, below_step hb1 hb2⟩
  simp only [if_true] at h
  have hn0 := rowValid_len hu
  have hn1 := rowValid_len hv
  have hw1 : IntKind.i64.wrap ((l0.length : Int) + (l1.length : Int)) = (l0.length : Int) + (l1.length : Int) := by rw [IntKind.wrap_i64]; omega
  by_cases hbig : 30 < l0.length + l1.length
  · rw [if_pos hbig] at h
    simp only [Option.some.injEq, Prod.mk.injEq] at h
    obtain ⟨rfl, rfl⟩ := h
    go_enter Try.func33, Try.ntmps33
    have hbig' : 30 < (l0.length : Int) + (l1.length : Int) := by omega
    go_wp2_with (first | (go_at_call 45; with_reducible refine (impl_rowValid.calls k A0 c0 l0 true _ HR0.out hc0 hu).mono ?_; rintro e w1 ⟨rfl, hb1⟩) | (go_at_call 45; with_reducible refine (impl_rowValid.calls k A1 c1 l1 true _ (Kd.C_below HR1.out hb1) hc1 hv).mono ?_; rintro e w2 ⟨rfl, hb2⟩))
    go_ret2
    exact ⟨_, rfl, Kd.S_nil _ _ _ _ _, below_step hb1 hb2⟩
  rw [if_neg hbig] at h
  by_cases hsm : (smallR l0 && smallR l1) = true
  case neg => rw [if_neg hsm] at h; exact absurd h (by simp)
  rw [if_pos hsm] at h
  simp only [Option.some.injEq, Prod.mk.injEq] at h
  obtain ⟨rfl, rfl⟩ := h
  rw [Bool.and_eq_true] at hsm
  have hs0 := small_of hsm.1
  have hs1 := small_of hsm.2
  clear hsm
  refine calls_of_wpN Try.func33 rfl ?_
  simp only [Try.ntmps33, List.size_toArray, List.length_cons, List.length_nil, Nat.reduceAdd, Nat.reduceSub, Array.replicate_succ, Array.replicate_zero, List.push_toArray, List.append_toArray, List.nil_append, List.cons_append]
  refine wpN_seq (WpN.of_wp ?_)
  go_wp2
  refine wpN_seq (wpN_seq (WpN.of_wp ?_))
  go_wp2_with (first | (go_at_call 45; with_reducible refine (impl_rowValid.calls k A0 c0 l0 true _ HR0.out hc0 hu).mono ?_; rintro e w1 ⟨rfl, hb1⟩) | (go_at_call 45; with_reducible refine (impl_rowValid.calls k A1 c1 l1 true _ (Kd.C_below HR1.out hb1) hc1 hv).mono ?_; rintro e w2 ⟨rfl, hb2⟩))
  refine wpN_cond (t := false) (by go_simp; try omega) (WpN.of_wp ?_)
  simp only [if_false, Bool.false_eq_true]
  go_wp2
  have hB2 := below_step hb1 hb2
  refine wpN_seq (WpN.of_wp ?_)
  go_wp2_with (first | ((with_reducible refine gate_dst (N := 34) rfl ?_); refine Kd.R_makec k41 _ 41 rfl (N := 34) rfl 32 _ _ rfl ((l0.length : Int) + (l1.length : Int)) rfl rfl Try.underlying32 (.agg #[.int .i64 0, .int .i64 0, .bool false, .slice none 0 0, .bool false, .slice none 0 0]) 80 (by kernel_rfl) rfl (by decide) (by omega) (ok := fun _ => True) trivial (by omega) (by omega) (Below.refl _ _) (Nat.le_refl _) ?_; intro v6 w3 ho3 hb3 hg3 hn3))
  have HO3 := Aside0.mk (Kd.R_lower ho3 (below_size hB2))
  clear ho3 hg3 hn3
  have hB3 := below_step hB2 hb3
  refine wpN_seq (WpN.of_wp ?_)
  go_wp2_with (first | (go_at_call 54; with_reducible refine (impl_flow.calls A0 c0 l0 _ (Kd.C_below HR0.out hB3) hc0 hn0 hs0).mono ?_; rintro e w4 ⟨g1, s1, q1, buf1, rfl, hg1, hs1', hbuf1, hap1, hb4⟩; have hB4 := below_step hB3 hb4) | (go_at_call 54; with_reducible refine (impl_flow.calls A1 c1 l1 _ (Kd.C_below HR1.out hB4) hc1 hn1 hs1).mono ?_; rintro e w5 ⟨g2, s2, q2, buf2, rfl, hg2, hs2', hbuf2, hap2, hb5⟩; have hB5 := below_step hB4 hb5))
  have hB35 := hB3.size
  have hlt12 : g1 < g2 := by have := (Array.getElem?_eq_some_iff.1 hg1).1; omega
  have HGE := Aside0.mk (And.intro hs1' (show w3.heap.size ≤ g2 by have := hb4.size; omega))
  have HLT := Aside0.mk hlt12
  have hL5 := below_step hb4 hb5
  replace hg1 := (hb5.block _ (Array.getElem?_eq_some_iff.1 hg1).1).trans hg1
  have hap := hap1.append hap2 (fun i j u v hu hv k h1 h2 => by
    obtain ⟨x, _, hx⟩ := hbuf1.at_ hu
    obtain ⟨y, _, hy⟩ := hbuf2.at_ hv
    have := (hx.lt k h1).2
    have := (hy.lt k h2).1
    omega)
  have hz0 : TBuf (ownF (buf1 ++ buf2)) w4 w3.heap.size buf1 (l0.zipIdx 0) := TBuf.of hbuf1 0 (fun j u hu k hk => by
    rw [Nat.zero_add]
    exact ownF_eq hap (by rw [Array.getElem?_append_left (Array.getElem?_eq_some_iff.1 hu).1]; exact hu) hk)
  have hz1 : TBuf (ownF (buf1 ++ buf2)) w5 w4.heap.size buf2 (l1.zipIdx l0.length) := TBuf.of hbuf2 l0.length (fun j u hu k hk => ownF_eq hap (by
    rw [Array.getElem?_append_right (by have := hbuf1.1; omega), hbuf1.1, Nat.add_sub_cancel_left]
    exact hu) hk)
  have hmgz : (mgT (l0.zipIdx 0) (l1.zipIdx l0.length)).map Prod.fst = mgR l0 l1 := by rw [mgT_fst, List.zipIdx_map_fst, List.zipIdx_map_fst]
  have hndz : ((mgT (l0.zipIdx 0) (l1.zipIdx l0.length)).map Prod.snd).Nodup := mgT_nodup (by
    rw [List.map_append, List.zipIdx_map_snd, List.zipIdx_map_snd, List.nodup_append]
    refine ⟨List.nodup_range', List.nodup_range', fun x hx y hy => ?_⟩
    rw [List.mem_range'_1] at hx hy
    omega)
  have hzl0 : (l0.zipIdx 0).length = l0.length := List.length_zipIdx
  have hzl1 : (l1.zipIdx l0.length).length = l1.length := List.length_zipIdx
  generalize l0.zipIdx 0 = z0 at *
  generalize l1.zipIdx l0.length = z1 at *
  generalize ownF (buf1 ++ buf2) = f at *
  have HMG := Aside0.mk (And.intro hmgz hndz)
  clear hmgz hndz hap hap1 hap2 hbuf1 hbuf2
  have hbuf1 := (hz0.kp (Kp3.below hb5)).lower hB3.size
  have hbuf2 := hz1.lower hB4.size
  clear hz0 hz1
  have HBUF := Aside0.mk (And.intro hbuf1 hbuf2)
  have HG1 := Aside0.mk hg1
  have HG2' := Aside0.mk hg2
  have HBL1 := Aside0.mk hL5
  have HB3 := Aside0.mk hB3
  clear hbuf1 hbuf2 hg1 hg2 hL5 hB3 hB35 hs1' hs2' hlt12 hb1 hb2 hb3 hb4 hb5 hB2 hB4 hB5 hu hv hw1 hbig hs0 hs1
  clear hl0 hl1 hc0 hc1 HR0 HR1
  refine wpN_via (fun a W => ∃ (one : Bool) (v11 v12 : Value), Slots a A0 l0.length c0 A1 l1.length c1 g1 g2 v6 (.pointer (some ⟨w5.heap.size, 0, none⟩)) (.bool one) v11 v12 ∧ Src f W w.heap.size g1 w5.heap.size one z0 ∧ (∀ k, k < w5.heap.size → k ≠ g1 → W.heap[k]? = w5.heap[k]?) ∧ Kp3 w5 W ∧ Below w3.heap.size w3 W ∧ w5.heap.size < W.heap.size) ?_ ?_
  · intro K hK
    refine wpN_region ?_
    refine regN_val (rest := [1, 2, 3, 4, 5, 6, 7]) (v := .chan (some g1)) (w' := w5) rfl rfl (by simp [go_sem]) ?_
    simp only [Act.put, List.setIfInBounds_toArray, List.set_cons_zero, List.set_cons_succ]
    have hge : w3.heap.size ≤ g1 := HGE.out.1
    have hgl := (Array.getElem?_eq_some_iff.1 HG1.out).1
    obtain hl | ⟨x, l', hl⟩ := list_cases z0
    · have hbuf' := HBUF.out.1
      rw [hl] at hbuf'
      obtain rfl : buf1 = #[] := Array.eq_empty_of_size_eq_zero (by rw [hbuf'.1]; rfl)
      have HL := Aside0.mk hl
      have HG := Aside0.mk (And.intro hge hgl)
      clear hl hge hgl hbuf'
      refine regN_shut (ok := true) (rest := [2, 3, 4, 5, 6, 7]) (c := g1) (z := .agg #[.int .i64 0, .int .i64 0, .bool false, .slice none 0 0, .bool false, .slice none 0 0]) (w' := w5) rfl rfl (by simp [go_sem, rcase]) HG1.out ?_
      simp only [Act.put, List.setIfInBounds_toArray, List.set_cons_zero, List.set_cons_succ, got, if_true]
      refine regN_drop (n := 2) rfl ?_
      simp only [List.drop_succ_cons, List.drop_zero]
      go_wp2
      have hb9 := below_alloc (Below.refl w5.heap.size w5) (.cells #[.int .i64 0, .int .i64 0, .bool false, .slice none 0 0, .bool false, .slice none 0 0] 41)
      exact hK.out _ _ ⟨false, _, _, ⟨rfl, rfl, rfl, rfl, rfl, rfl, rfl, rfl, rfl, rfl, rfl, rfl, rfl⟩, ⟨_, _, _, _, (z41, 0), none, 0, none, 0, (hb9.block _ HG.out.2).trans HG1.out, heap_alloc_new w5 _, .inl ⟨rfl, HL.out, rfl⟩⟩, fun k hk _ => hb9.block k hk, Kp3.below hb9, below_step HBL1.out hb9, by rw [World.size_alloc]; omega⟩
    · have hbuf' := HBUF.out.1
      rw [hl] at hbuf'
      obtain ⟨h0, hx, hrest⟩ := hbuf'.pop
      have hk := Kp3.chan HG1.out l0.length (buf1.extract 1 buf1.size) true s1 (q1 + 1) false
      have hcc := heap_setChan w5 g1 l0.length (buf1.extract 1 buf1.size) true s1 (q1 + 1) false hgl
      have hsz := size_setChan w5 g1 l0.length (buf1.extract 1 buf1.size) true s1 (q1 + 1) false
      have hbl := below_setChan HBL1.out hge l0.length (buf1.extract 1 buf1.size) true s1 (q1 + 1) false
      have hot : ∀ k, k ≠ g1 → (w5.setChan g1 l0.length (buf1.extract 1 buf1.size) true s1 (q1 + 1) false).heap[k]? = w5.heap[k]? := fun k hk => by simp only [World.setChan]; rw [Array.getElem?_setIfInBounds_ne (by omega)]
      refine regN_recv (ok := true) (rest := [2, 3, 4, 5, 6, 7]) (c := g1) (z := .agg #[.int .i64 0, .int .i64 0, .bool false, .slice none 0 0, .bool false, .slice none 0 0]) (w' := w5) rfl rfl (by simp [go_sem, rcase]) HG1.out h0 ?_
      simp only [Act.put, List.setIfInBounds_toArray, List.set_cons_zero, List.set_cons_succ, got, if_true]
      obtain ⟨A3, c3, A5, c5, hval, h3, h5⟩ := hx
      rw [hval]
      generalize w5.setChan _ _ _ _ _ _ _ = W1 at hk hcc hsz hbl hot ⊢
      have HX := Aside0.mk (And.intro (And.intro h3 h5) (And.intro hl hrest))
      have HW := Aside0.mk (And.intro (And.intro hk hcc) (And.intro hbl hot))
      have HS := Aside0.mk hsz
      have HG := Aside0.mk (And.intro hge hgl)
      clear h3 h5 hl hrest hk hcc hbl hot hsz hge hgl hbuf' h0 hval
      refine regN_drop (n := 2) rfl ?_
      simp only [List.drop_succ_cons, List.drop_zero]
      go_wp2
      have hsz := HS.out
      have hgl := HG.out.2
      obtain ⟨⟨h3, h5⟩, hl, hrest⟩ := HX.out
      obtain ⟨⟨hk, hcc⟩, hbl, hot⟩ := HW.out
      rw [hsz]
      have hb9 := below_alloc (Below.refl W1.heap.size W1) (.cells #[.int .i64 x.1.f0, .int .i64 x.1.f1, .bool x.1.f2, .slice A3 x.1.f3.length c3, .bool x.1.f4, .slice A5 x.1.f5.length c5] 41)
      have hkk := hk.trans (Kp3.below hb9)
      exact hK.out _ _ ⟨true, _, _, ⟨rfl, rfl, rfl, rfl, rfl, rfl, rfl, rfl, rfl, rfl, rfl, rfl, rfl⟩, ⟨_, _, _, _, x, A3, c3, A5, c5, (hb9.block _ (by rw [hsz]; exact hgl)).trans hcc, hsz ▸ heap_alloc_new W1 _, .inr ⟨rfl, l', hl, ⟨h3.kp hkk, h5.kp hkk⟩, hrest.kp hkk⟩⟩, fun k hk hne => (hb9.block k (by rw [hsz]; exact hk)).trans (hot k hne), hkk, below_step hbl hb9, by rw [World.size_alloc, hsz]; omega⟩
  rintro _ w6 ⟨one1, v11, v12, hslots, hsrc1, hot6, hk6, hL6, hsz6⟩
  obtain ⟨u, rfl⟩ := hslots.open
  clear hslots
  generalize hb1 : w5.heap.size = b1 at hsrc1 hot6 hsz6 ⊢
  have hgl2 := (Array.getElem?_eq_some_iff.1 HG2'.out).1
  have HG2 := Aside0.mk ((hot6 g2 (by omega) (by have := HLT.out; omega)).trans HG2'.out)
  have HBUF6 := HBUF
  clear HBUF
  have HBUF := Aside0.mk (And.intro HBUF6.out.1 (HBUF6.out.2.kp hk6))
  have HBL2 := Aside0.mk hL6
  have HF6 := Aside0.mk (And.intro (And.intro hsrc1 hot6) (And.intro hk6 hsz6))
  have HB1 := Aside0.mk hb1
  clear hsrc1 hot6 hk6 hsz6 hb1 hgl2 hL6
  refine wpN_via (fun a W => ∃ (one : Bool), Slots a A0 l0.length c0 A1 l1.length c1 g1 g2 v6 (.pointer (some ⟨b1, 0, none⟩)) (.bool one1) (.pointer (some ⟨w6.heap.size, 0, none⟩)) (.bool one) ∧ Src f W w.heap.size g2 w6.heap.size one z1 ∧ (∀ k, k < w6.heap.size → k ≠ g2 → W.heap[k]? = w6.heap[k]?) ∧ Kp3 w6 W ∧ Below w3.heap.size w3 W ∧ w6.heap.size < W.heap.size) ?_ ?_
  · intro K hK
    refine wpN_region ?_
    refine regN_val (rest := [1, 2, 3, 4, 5, 6, 7]) (v := .chan (some g2)) (w' := w6) rfl rfl (by simp [go_sem]) ?_
    simp only [Act.put, List.setIfInBounds_toArray, List.set_cons_zero, List.set_cons_succ]
    have hge : w3.heap.size ≤ g2 := HGE.out.2
    have hgl := (Array.getElem?_eq_some_iff.1 HG2.out).1
    obtain hl | ⟨x, l', hl⟩ := list_cases z1
    · have hbuf' := HBUF.out.2
      rw [hl] at hbuf'
      obtain rfl : buf2 = #[] := Array.eq_empty_of_size_eq_zero (by rw [hbuf'.1]; rfl)
      have HL := Aside0.mk hl
      have HG := Aside0.mk (And.intro hge hgl)
      clear hl hge hgl hbuf'
      refine regN_shut (ok := true) (rest := [2, 3, 4, 5, 6, 7]) (c := g2) (z := .agg #[.int .i64 0, .int .i64 0, .bool false, .slice none 0 0, .bool false, .slice none 0 0]) (w' := w6) rfl rfl (by simp [go_sem, rcase]) HG2.out ?_
      simp only [Act.put, List.setIfInBounds_toArray, List.set_cons_zero, List.set_cons_succ, got, if_true]
      refine regN_drop (n := 2) rfl ?_
      simp only [List.drop_succ_cons, List.drop_zero]
      go_wp2
      have hb9 := below_alloc (Below.refl w6.heap.size w6) (.cells #[.int .i64 0, .int .i64 0, .bool false, .slice none 0 0, .bool false, .slice none 0 0] 41)
      exact hK.out _ _ ⟨false, ⟨rfl, rfl, rfl, rfl, rfl, rfl, rfl, rfl, rfl, rfl, rfl, rfl, rfl⟩, ⟨_, _, _, _, (z41, 0), none, 0, none, 0, (hb9.block _ HG.out.2).trans HG2.out, heap_alloc_new w6 _, .inl ⟨rfl, HL.out, rfl⟩⟩, fun k hk _ => hb9.block k hk, Kp3.below hb9, below_step HBL2.out hb9, by rw [World.size_alloc]; omega⟩
    · have hbuf' := HBUF.out.2
      rw [hl] at hbuf'
      obtain ⟨h0, hx, hrest⟩ := hbuf'.pop
      have hk := Kp3.chan HG2.out l1.length (buf2.extract 1 buf2.size) true s2 (q2 + 1) false
      have hcc := heap_setChan w6 g2 l1.length (buf2.extract 1 buf2.size) true s2 (q2 + 1) false hgl
      have hsz := size_setChan w6 g2 l1.length (buf2.extract 1 buf2.size) true s2 (q2 + 1) false
      have hbl := below_setChan HBL2.out hge l1.length (buf2.extract 1 buf2.size) true s2 (q2 + 1) false
      have hot : ∀ k, k ≠ g2 → (w6.setChan g2 l1.length (buf2.extract 1 buf2.size) true s2 (q2 + 1) false).heap[k]? = w6.heap[k]? := fun k hk => by simp only [World.setChan]; rw [Array.getElem?_setIfInBounds_ne (by omega)]
      refine regN_recv (ok := true) (rest := [2, 3, 4, 5, 6, 7]) (c := g2) (z := .agg #[.int .i64 0, .int .i64 0, .bool false, .slice none 0 0, .bool false, .slice none 0 0]) (w' := w6) rfl rfl (by simp [go_sem, rcase]) HG2.out h0 ?_
      simp only [Act.put, List.setIfInBounds_toArray, List.set_cons_zero, List.set_cons_succ, got, if_true]
      obtain ⟨A3, c3, A5, c5, hval, h3, h5⟩ := hx
      rw [hval]
      generalize w6.setChan _ _ _ _ _ _ _ = W1 at hk hcc hsz hbl hot ⊢
      have HX := Aside0.mk (And.intro (And.intro h3 h5) (And.intro hl hrest))
      have HW := Aside0.mk (And.intro (And.intro hk hcc) (And.intro hbl hot))
      have HS := Aside0.mk hsz
      have HG := Aside0.mk (And.intro hge hgl)
      clear h3 h5 hl hrest hk hcc hbl hot hsz hge hgl hbuf' h0 hval
      refine regN_drop (n := 2) rfl ?_
      simp only [List.drop_succ_cons, List.drop_zero]
      go_wp2
      have hsz := HS.out
      have hgl := HG.out.2
      obtain ⟨⟨h3, h5⟩, hl, hrest⟩ := HX.out
      obtain ⟨⟨hk, hcc⟩, hbl, hot⟩ := HW.out
      rw [hsz]
      have hb9 := below_alloc (Below.refl W1.heap.size W1) (.cells #[.int .i64 x.1.f0, .int .i64 x.1.f1, .bool x.1.f2, .slice A3 x.1.f3.length c3, .bool x.1.f4, .slice A5 x.1.f5.length c5] 41)
      have hkk := hk.trans (Kp3.below hb9)
      exact hK.out _ _ ⟨true, ⟨rfl, rfl, rfl, rfl, rfl, rfl, rfl, rfl, rfl, rfl, rfl, rfl, rfl⟩, ⟨_, _, _, _, x, A3, c3, A5, c5, (hb9.block _ (by rw [hsz]; exact hgl)).trans hcc, hsz ▸ heap_alloc_new W1 _, .inr ⟨rfl, l', hl, ⟨h3.kp hkk, h5.kp hkk⟩, hrest.kp hkk⟩⟩, fun k hk hne => (hb9.block k (by rw [hsz]; exact hk)).trans (hot k hne), hkk, below_step hbl hb9, by rw [World.size_alloc, hsz]; omega⟩
  rintro _ w7 ⟨two1, hslots, hsrc2, hot7, hk7, hL7, hsz7⟩
  obtain ⟨⟨hsrc1, hot6⟩, hk6, hsz6⟩ := HF6.out
  have hb1 := HB1.out
  have hge := HGE.out
  have hlt := HLT.out
  have hL5 := HBL1.out.size
  have hL6 := HBL2.out.size
  have hw3 := HB3.out.size
  have hg2l := blk_lt HG2'.out
  generalize hb2 : w6.heap.size = b2 at hslots hsrc2 hot7 hsz7 hsz6 hL6
  have e1 : Src f w7 w.heap.size g1 b1 one1 z0 := hsrc1.move (hot7 g1 (by omega) (by omega)) (hot7 b1 (by omega) (by omega)) hk7
  have hO : Kd.R (Kd.tag f k41) 41 w7 w.heap.size (fun k => k ≠ b1 ∧ k ≠ b2) v6 [] := R_empty (d := k41) (d' := Kd.tag f k41) (Kd.R_below (Kd.R_mono (Kd.R_bound HO3.out) (fun k hk => ⟨by have := hk.2.2.1; omega, by have := hk.2.2.1; omega⟩)) hL7) rfl
  have hBw := below_step HB3.out hL7
  have hmg0 : [] ++ mgT z0 z1 = mgT z0 z1 := rfl
  have HN := Aside0.mk (show w.heap.size ≤ g1 ∧ w.heap.size ≤ g2 ∧ w.heap.size ≤ b1 ∧ w.heap.size ≤ b2 ∧ g1 ≠ g2 ∧ b1 ≠ b2 by omega)
  clear HF6 HB1 HGE HLT HBL1 HBL2 HG2' HG2 HG1 HBUF HBUF6 HB3 HO3 hsrc1 hot6 hk6 hsz6 hb1 hge hlt hL5 hL6 hw3 hg2l hot7 hk7 hL7 hsz7 hb2
  clear w1 w2 w3 w4 w5 w6
  clear buf1 buf2 s1 s2 q1 q2
  refine wpN_via (fun a W => ∃ v6 v9 v10 v11 v12, Slots a A0 l0.length c0 A1 l1.length c1 g1 g2 v6 v9 v10 v11 v12 ∧ Kd.R (Kd.tag f k41) 41 W w.heap.size (fun _ => True) v6 (mgT z0 z1) ∧ Below w.heap.size w W) ?_ ?_
  case refine_2 =>
    rintro _ W ⟨v6, v9, v10, v11, v12, hslots, hR, hB⟩
    obtain ⟨u, rfl⟩ := hslots.open
    clear hslots
    refine WpN.of_wp ?_
    go_wp2
    go_ret2
    exact ⟨_, rfl, by rw [← HMG.out.1]; exact S_of_tag hR HMG.out.2, hB⟩
  intro KF hKF
  refine wpN_block (wpN_loop_k (fun n a W => ∃ (one two : Bool) (la lb xs : List TR) (v6 : Value), Slots a A0 l0.length c0 A1 l1.length c1 g1 g2 v6 (.pointer (some ⟨b1, 0, none⟩)) (.bool one) (.pointer (some ⟨b2, 0, none⟩)) (.bool two) ∧ n = la.length + lb.length ∧ xs ++ mgT la lb = mgT z0 z1 ∧ xs.length + n ≤ 60 ∧
    Src f W w.heap.size g1 b1 one la ∧ Src f W w.heap.size g2 b2 two lb ∧ Kd.R (Kd.tag f k41) 41 W w.heap.size (fun k => k ≠ b1 ∧ k ≠ b2) v6 xs ∧ Below w.heap.size w W) (l0.length + l1.length) ⟨one1, two1, z0, z1, [], v6, hslots, by rw [hzl0, hzl1], hmg0, by simp; omega, e1, hsrc2, hO, hBw⟩ ?_)
  clear hslots e1 hsrc2 hO hBw hmg0
  rintro n a W ⟨one, two, la, lb, xs, v6, hslots, rfl, hmg, hlen, hs1, hs2, hO, hB⟩ K hK
  obtain ⟨u, rfl⟩ := hslots.open
  have HI := Aside0.mk (And.intro (And.intro hmg hlen) (And.intro hO hB))
  have HS1 := Aside0.mk hs1
  have HS2 := Aside0.mk hs2
  clear hslots hmg hlen hO hB hs1 hs2 hn0 hn1
  have HLA := HS1.out
  obtain ⟨cap1, buf1, s1, q1, y1, A31, c31, A51, c51, hc1, hx1, ht1⟩ := HLA
  have HLB := HS2.out
  obtain ⟨cap2, buf2, s2, q2, y2, A32, c32, A52, c52, hc2, hx2, ht2⟩ := HLB
  have HC1 := Aside0.mk hc1
  have HC2 := Aside0.mk hc2
  have HX1 := Aside0.mk hx1
  have HX2 := Aside0.mk hx2
  have HT1 := Aside0.mk ht1
  have HT2 := Aside0.mk ht2
  have hd1 := blk_cell hx1 1
  have hd2 := blk_cell hx2 1
  have HD := Aside0.mk (And.intro hd1 hd2)
  clear hc1 hc2 hx1 hx2 ht1 ht2 hd1 hd2
  refine wpN_seq (wpN_via (fun a' W' => W = W' ∧ Slots a' A0 l0.length c0 A1 l1.length c1 g1 g2 v6 (.pointer (some ⟨b1, 0, none⟩)) (.bool one) (.pointer (some ⟨b2, 0, none⟩)) (.bool two) ∧ a'.tmps.getD 52 undef = .bool (one || two)) ?_ ?_)
  · intro K1 hK1
    refine WpN.of_wp ?_
    cases one <;> cases two <;> (go_wp2; exact hK1.out _ _ ⟨rfl, ⟨rfl, rfl, rfl, rfl, rfl, rfl, rfl, rfl, rfl, rfl, rfl, rfl, rfl⟩, rfl⟩)
  rintro _ _ ⟨rfl, hslots, h52⟩
  obtain ⟨u', rfl⟩ := hslots.open
  clear hslots
  change u' 52 = _ at h52
  rcases hor : (one || two) with _ | _
  · rw [hor] at h52
    refine wpN_cond (t := false) (by simp [go_sem, h52]) (WpN.of_wp ?_)
    simp only [if_false, Bool.false_eq_true]
    have HOR := Aside0.mk hor
    clear hor h52
    go_wp2
    obtain ⟨⟨hmg, hlen⟩, hO, hB⟩ := HI.out
    have hor := HOR.out
    obtain ⟨rfl, rfl⟩ : one = false ∧ two = false := by cases one <;> cases two <;> simp_all
    obtain rfl : la = [] := by rcases HT1.out with h3 | h3 <;> simp_all
    obtain rfl : lb = [] := by rcases HT2.out with h3 | h3 <;> simp_all
    rw [mt_nil, List.append_nil] at hmg
    rw [hmg] at hO
    exact hKF.out _ _ ⟨_, _, _, _, _, ⟨rfl, rfl, rfl, rfl, rfl, rfl, rfl, rfl, rfl, rfl, rfl, rfl, rfl⟩, Kd.R_mono hO (fun _ _ => trivial), hB⟩
  rw [hor] at h52
  refine wpN_cond (t := true) (by simp [go_sem, h52]) (WpN.of_wp ?_)
  simp only [if_true]
  have HOR := Aside0.mk hor
  clear hor h52
  go_wp2
  refine wpN_block (wpN_via (fun a' W' => W = W' ∧ Slots a' A0 l0.length c0 A1 l1.length c1 g1 g2 v6 (.pointer (some ⟨b1, 0, none⟩)) (.bool one) (.pointer (some ⟨b2, 0, none⟩)) (.bool two) ∧ a'.tmps.getD 64 undef = .bool (one && (!two || decide (y1.1.f1 ≤ y2.1.f1)))) ?_ ?_)
  · intro K1 hK1
    refine WpN.of_wp ?_
    have hd1 := HD.out.1
    have hd2 := HD.out.2
    cases one <;> cases two <;> (go_wp2; exact hK1.out _ _ ⟨rfl, ⟨rfl, rfl, rfl, rfl, rfl, rfl, rfl, rfl, rfl, rfl, rfl, rfl, rfl⟩, rfl⟩)
  rintro _ _ ⟨rfl, hslots, h64⟩
  obtain ⟨u'', rfl⟩ := hslots.open
  clear hslots
  change u'' 64 = _ at h64
  have hor := HOR.out
  rcases hsel : (one && (!two || decide (y1.1.f1 ≤ y2.1.f1))) with _ | _
  · rw [hsel] at h64
    refine wpN_cond (t := false) (by simp [go_sem, h64]) ?_
    simp only [if_false, Bool.false_eq_true]
    obtain rfl : two = true := by cases two <;> simp_all
    obtain ⟨_, la', hl, ⟨r3, r5⟩, hbuf⟩ := HT2.out.resolve_left (by simp)
    have hstep : mgT la lb = y2 :: mgT la la' := by
      rcases HT1.out with ⟨_, rfl, _⟩ | ⟨rfl, l1', rfl, _⟩
      · rw [hl, mt_nil, mt_nil]
      · rw [hl, mt_cons, if_neg (by simpa using hsel)]
    clear hor hsel h64
    refine wpN_seq (WpN.of_wp ?_)
    have d0 := blk_cell HX2.out 0
    have d1 := blk_cell HX2.out 1
    have d2 := blk_cell HX2.out 2
    have d3 := blk_cell HX2.out 3
    have d4 := blk_cell HX2.out 4
    have d5 := blk_cell HX2.out 5
    have HL := Aside0.mk hl
    have HST := Aside0.mk hstep
    have HR3 := Aside0.mk r3
    have HR5 := Aside0.mk r5
    have HBF := Aside0.mk hbuf
    clear hl hstep r3 r5 hbuf
    have HMM := Aside0.mk (show (Kd.tag f k41).M W w.heap.size (fun k_ => ∃ cells, W.heap[k_]? = some (Obj.cells cells 3 (0, 0))) y2 [.int .i64 y2.1.f0, .int .i64 y2.1.f1, .bool y2.1.f2, .slice A32 y2.1.f3.length c32, .bool y2.1.f4, .slice A52 y2.1.f5.length c52] from k41_mkM _ _ _ y2.1 (Kd.R_mono HR3.out.1 (fun k hk => ⟨Kd.R_typed HR3.out.1 k hk.symm, HR3.out.2 k hk.symm⟩)) (Kd.R_mono HR5.out.1.1 (fun k hk => ⟨Kd.R_typed HR5.out.1.1 k hk.symm, HR5.out.1.2 k hk.symm⟩)) HR5.out.2)
    go_wp2_with (first | ((with_reducible refine gate_builtin (b := .append) (xs := #[.tmp 74, .tmp 76]) rfl ?_); at_builtin; refine Kd.R_append (Kd.tag f k41) (w0 := w) w.heap.size rfl (.tmp 74) (.tmp 76) 32 41 (.agg #[.int .i64 0, .int .i64 0, .bool false, .slice none 0 0, .bool false, .slice none 0 0]) 80 rfl Try.underlying32 (by kernel_rfl) rfl (show 0 < k41.sz by decide) (by omega) v6 xs y2 [.int .i64 y2.1.f0, .int .i64 y2.1.f1, .bool y2.1.f2, .slice A32 y2.1.f3.length c32, .bool y2.1.f4, .slice A52 y2.1.f5.length c52] (fun k => k ≠ b1 ∧ k ≠ b2) (fun k_ => ∃ cells, W.heap[k_]? = some (Obj.cells cells 3 (0, 0))) rfl rfl HMM.out (okp_of HX1.out HX2.out HI.out.2.1) (fresh_of HX1.out HX2.out) HI.out.2.1 HI.out.2.2 HI.out.2.2.size (by have := HI.out.1.2; omega) ?_; intro v8 W2 ho2 hb2 hg2 hat2))
    clear d0 d1 d2 d3 d4 d5
    obtain ⟨p1, p2, p3⟩ := grown3 HI.out.2.1 hg2
    have hcq := (p1 _ _ _ _ _ _ _ HC2.out).trans HC2.out
    have hxq : BoxR W2 b2 y2.1 A32 c32 A52 c52 := (p2 _ (.inr rfl) (blk_lt HX2.out)).trans HX2.out
    have hso : Src f W2 w.heap.size g1 b1 one la := Src.grown HS1.out HI.out.2.1 hg2 (.inl rfl)
    have hbq := HBF.out.kp p3
    have HSO2 := Aside0.mk hso
    have HOB := Aside0.mk (And.intro ho2 hb2)
    have HCQ := Aside0.mk hcq
    have HXQ := Aside0.mk hxq
    have HBQ := Aside0.mk hbq
    have hgl := blk_lt hcq
    have HGL := Aside0.mk hgl
    clear p1 p2 p3 hso hbq hg2 hat2 ho2 hb2 hcq hxq hgl
    refine wpN_region ?_
    refine regN_val (rest := [1, 2, 3, 4, 5, 6]) (v := .chan (some g2)) (w' := W2) rfl rfl (by simp [go_sem]) ?_
    simp only [Act.put, List.setIfInBounds_toArray, List.set_cons_zero, List.set_cons_succ]
    obtain hl2 | ⟨x, l', hl2⟩ := list_cases la'
    · have hbuf' := HBQ.out
      rw [hl2] at hbuf'
      obtain rfl : buf2 = #[] := Array.eq_empty_of_size_eq_zero (by rw [hbuf'.1]; rfl)
      have HL2 := Aside0.mk hl2
      clear hl2 hbuf'
      refine regN_shut (ok := true) (rest := [2, 3, 4, 5, 6]) (c := g2) (z := .agg #[.int .i64 0, .int .i64 0, .bool false, .slice none 0 0, .bool false, .slice none 0 0]) (w' := W2) rfl rfl (by simp [go_sem, rcase]) HCQ.out ?_
      simp only [Act.put, List.setIfInBounds_toArray, List.set_cons_zero, List.set_cons_succ, got, if_true]
      refine regN_drop (n := 2) rfl ?_
      simp only [List.drop_succ_cons, List.drop_zero]
      have d0 := blk_cell HXQ.out 0
      have d1 := blk_cell HXQ.out 1
      have d2 := blk_cell HXQ.out 2
      have d3 := blk_cell HXQ.out 3
      have d4 := blk_cell HXQ.out 4
      have d5 := blk_cell HXQ.out 5
      have f := blk_frozen HXQ.out
      go_wp2
      clear d0 d1 d2 d3 d4 d5 f
      obtain ⟨W3, hW3, hb3, hot3, hk3, hbl3⟩ := HXQ.out.set (.int .i64 0) (.int .i64 0) (.bool false) (.slice none 0 0) (.bool false) (.slice none 0 0)
      rw [← hW3]
      obtain ⟨ho2, hb2⟩ := HOB.out
      have hl2 := HL2.out
      subst hl2
      have hl := HL.out
      have hgb : g2 ≠ b2 := ne_cb HCQ.out HXQ.out
      have S0 : Src f W3 w.heap.size g2 b2 false [] := ⟨_, _, _, _, (z41, 0), none, 0, none, 0, (hot3 _ hgb).trans HCQ.out, hb3, .inl ⟨rfl, rfl, rfl⟩⟩
      have HSO : Src f W3 w.heap.size g1 b1 one la := HSO2.out.other hot3 HXQ.out (by have := HN.out; omega) hk3
      refine hK.out (la.length + [].length) _ _ (by rw [hl]; simp) ⟨one, false, la, [], xs ++ [y2], v8, ⟨rfl, rfl, rfl, rfl, rfl, rfl, rfl, rfl, rfl, rfl, rfl, rfl, rfl⟩, rfl, ?_, ?_, HSO, S0, R_cb ho2 HCQ.out (.inr rfl) (fun k h1 h2 => hot3 k h2), hbl3 _ _ HN.out.2.2.2.1 hb2⟩
      · rw [List.append_assoc, ← HI.out.1.1, HST.out]
        rfl
      · have := HI.out.1.2
        rw [hl] at this
        simp only [List.length_append, List.length_cons, List.length_nil] at this ⊢
        omega
    · have hbuf' := HBQ.out
      rw [hl2] at hbuf'
      obtain ⟨h0, hx, hrest⟩ := hbuf'.pop
      have hk := Kp3.chan HCQ.out cap2 (buf2.extract 1 buf2.size) true s2 (q2 + 1) false
      have hcc := heap_setChan W2 g2 cap2 (buf2.extract 1 buf2.size) true s2 (q2 + 1) false HGL.out
      have hbl := below_setChan HOB.out.2 HN.out.2.1 cap2 (buf2.extract 1 buf2.size) true s2 (q2 + 1) false
      have hot : ∀ k, k ≠ g2 → (W2.setChan g2 cap2 (buf2.extract 1 buf2.size) true s2 (q2 + 1) false).heap[k]? = W2.heap[k]? := fun k hk => by simp only [World.setChan]; rw [Array.getElem?_setIfInBounds_ne (by omega)]
      refine regN_recv (ok := true) (rest := [2, 3, 4, 5, 6]) (c := g2) (z := .agg #[.int .i64 0, .int .i64 0, .bool false, .slice none 0 0, .bool false, .slice none 0 0]) (w' := W2) rfl rfl (by simp [go_sem, rcase]) HCQ.out h0 ?_
      simp only [Act.put, List.setIfInBounds_toArray, List.set_cons_zero, List.set_cons_succ, got, if_true]
      obtain ⟨A3, c3, A5, c5, hval, h3, h5⟩ := hx
      rw [hval]
      generalize W2.setChan _ _ _ _ _ _ _ = W1 at hk hcc hbl hot ⊢
      have hgb : g2 ≠ b2 := ne_cb HCQ.out HXQ.out
      have hx1 : BoxR W1 b2 y2.1 A32 c32 A52 c52 := (hot _ hgb.symm).trans HXQ.out
      have HX := Aside0.mk (And.intro (And.intro h3 h5) (And.intro hl2 hrest))
      have HW := Aside0.mk (And.intro (And.intro hk hcc) (And.intro hbl hot))
      have HGB := Aside0.mk hgb
      have HXQ1 := Aside0.mk hx1
      clear h3 h5 hl2 hrest hk hcc hbl hot hbuf' h0 hval hgb hx1
      refine regN_drop (n := 2) rfl ?_
      simp only [List.drop_succ_cons, List.drop_zero]
      have d0 := blk_cell HXQ1.out 0
      have d1 := blk_cell HXQ1.out 1
      have d2 := blk_cell HXQ1.out 2
      have d3 := blk_cell HXQ1.out 3
      have d4 := blk_cell HXQ1.out 4
      have d5 := blk_cell HXQ1.out 5
      have f := blk_frozen HXQ1.out
      go_wp2
      clear d0 d1 d2 d3 d4 d5 f
      obtain ⟨⟨h3, h5⟩, hl2, hrest⟩ := HX.out
      obtain ⟨⟨hk, hcc⟩, hbl, hot⟩ := HW.out
      have hgb := HGB.out
      obtain ⟨W3, hW3, hb3, hot3, hk3, hbl3⟩ := HXQ1.out.set (.int .i64 x.1.f0) (.int .i64 x.1.f1) (.bool x.1.f2) (.slice A3 x.1.f3.length c3) (.bool x.1.f4) (.slice A5 x.1.f5.length c5)
      rw [← hW3]
      obtain ⟨ho2, hb2⟩ := HOB.out
      subst hl2
      have hl := HL.out
      have hkk := hk.trans hk3
      have hott : ∀ k, k ≠ g2 → k ≠ b2 → W3.heap[k]? = W2.heap[k]? := fun k h1 h2 => (hot3 k h2).trans (hot k h1)
      have S0 : Src f W3 w.heap.size g2 b2 true (x :: l') := ⟨_, _, _, _, x, A3, c3, A5, c5, (hot3 _ hgb).trans hcc, hb3, .inr ⟨rfl, l', rfl, ⟨h3.kp hkk, h5.kp hkk⟩, hrest.kp hkk⟩⟩
      have HSO : Src f W3 w.heap.size g1 b1 one la := HSO2.out.other2 hott HCQ.out HXQ.out (by have := HN.out; omega) (by have := HN.out; omega) hkk
      refine hK.out (la.length + (x :: l').length) _ _ (by rw [hl]; simp) ⟨one, true, la, x :: l', xs ++ [y2], v8, ⟨rfl, rfl, rfl, rfl, rfl, rfl, rfl, rfl, rfl, rfl, rfl, rfl, rfl⟩, rfl, ?_, ?_, HSO, S0, R_cb ho2 HCQ.out (.inr rfl) hott, hbl3 _ _ HN.out.2.2.2.1 hbl⟩
      · rw [List.append_assoc, ← HI.out.1.1, HST.out]
        rfl
      · have := HI.out.1.2
        rw [hl] at this
        simp only [List.length_append, List.length_cons, List.length_nil] at this ⊢
        omega
  · rw [hsel] at h64
    refine wpN_cond (t := true) (by simp [go_sem, h64]) ?_
    simp only [if_true]
    obtain rfl : one = true := by cases one <;> simp_all
    obtain ⟨_, la', hl, ⟨r3, r5⟩, hbuf⟩ := HT1.out.resolve_left (by simp)
    have hstep : mgT la lb = y1 :: mgT la' lb := by
      rcases HT2.out with ⟨_, rfl, _⟩ | ⟨rfl, l2', rfl, _⟩
      · rw [hl, mt_nil', mt_nil']
      · rw [hl, mt_cons, if_pos (by simpa using hsel)]
    clear hor hsel h64
    refine wpN_seq (WpN.of_wp ?_)
    have d0 := blk_cell HX1.out 0
    have d1 := blk_cell HX1.out 1
    have d2 := blk_cell HX1.out 2
    have d3 := blk_cell HX1.out 3
    have d4 := blk_cell HX1.out 4
    have d5 := blk_cell HX1.out 5
    have HL := Aside0.mk hl
    have HST := Aside0.mk hstep
    have HR3 := Aside0.mk r3
    have HR5 := Aside0.mk r5
    have HBF := Aside0.mk hbuf
    clear hl hstep r3 r5 hbuf
    have HMM := Aside0.mk (show (Kd.tag f k41).M W w.heap.size (fun k_ => ∃ cells, W.heap[k_]? = some (Obj.cells cells 3 (0, 0))) y1 [.int .i64 y1.1.f0, .int .i64 y1.1.f1, .bool y1.1.f2, .slice A31 y1.1.f3.length c31, .bool y1.1.f4, .slice A51 y1.1.f5.length c51] from k41_mkM _ _ _ y1.1 (Kd.R_mono HR3.out.1 (fun k hk => ⟨Kd.R_typed HR3.out.1 k hk.symm, HR3.out.2 k hk.symm⟩)) (Kd.R_mono HR5.out.1.1 (fun k hk => ⟨Kd.R_typed HR5.out.1.1 k hk.symm, HR5.out.1.2 k hk.symm⟩)) HR5.out.2)
    go_wp2_with (first | ((with_reducible refine gate_builtin (b := .append) (xs := #[.tmp 65, .tmp 67]) rfl ?_); at_builtin; refine Kd.R_append (Kd.tag f k41) (w0 := w) w.heap.size rfl (.tmp 65) (.tmp 67) 32 41 (.agg #[.int .i64 0, .int .i64 0, .bool false, .slice none 0 0, .bool false, .slice none 0 0]) 80 rfl Try.underlying32 (by kernel_rfl) rfl (show 0 < k41.sz by decide) (by omega) v6 xs y1 [.int .i64 y1.1.f0, .int .i64 y1.1.f1, .bool y1.1.f2, .slice A31 y1.1.f3.length c31, .bool y1.1.f4, .slice A51 y1.1.f5.length c51] (fun k => k ≠ b1 ∧ k ≠ b2) (fun k_ => ∃ cells, W.heap[k_]? = some (Obj.cells cells 3 (0, 0))) rfl rfl HMM.out (okp_of HX1.out HX2.out HI.out.2.1) (fresh_of HX1.out HX2.out) HI.out.2.1 HI.out.2.2 HI.out.2.2.size (by have := HI.out.1.2; omega) ?_; intro v8 W2 ho2 hb2 hg2 hat2))
    clear d0 d1 d2 d3 d4 d5
    obtain ⟨p1, p2, p3⟩ := grown3 HI.out.2.1 hg2
    have hcq := (p1 _ _ _ _ _ _ _ HC1.out).trans HC1.out
    have hxq : BoxR W2 b1 y1.1 A31 c31 A51 c51 := (p2 _ (.inl rfl) (blk_lt HX1.out)).trans HX1.out
    have hso : Src f W2 w.heap.size g2 b2 two lb := Src.grown HS2.out HI.out.2.1 hg2 (.inr rfl)
    have hbq := HBF.out.kp p3
    have HSO2 := Aside0.mk hso
    have HOB := Aside0.mk (And.intro ho2 hb2)
    have HCQ := Aside0.mk hcq
    have HXQ := Aside0.mk hxq
    have HBQ := Aside0.mk hbq
    have hgl := blk_lt hcq
    have HGL := Aside0.mk hgl
    clear p1 p2 p3 hso hbq hg2 hat2 ho2 hb2 hcq hxq hgl
    refine wpN_region ?_
    refine regN_val (rest := [1, 2, 3, 4, 5, 6]) (v := .chan (some g1)) (w' := W2) rfl rfl (by simp [go_sem]) ?_
    simp only [Act.put, List.setIfInBounds_toArray, List.set_cons_zero, List.set_cons_succ]
    obtain hl2 | ⟨x, l', hl2⟩ := list_cases la'
    · have hbuf' := HBQ.out
      rw [hl2] at hbuf'
      obtain rfl : buf1 = #[] := Array.eq_empty_of_size_eq_zero (by rw [hbuf'.1]; rfl)
      have HL2 := Aside0.mk hl2
      clear hl2 hbuf'
      refine regN_shut (ok := true) (rest := [2, 3, 4, 5, 6]) (c := g1) (z := .agg #[.int .i64 0, .int .i64 0, .bool false, .slice none 0 0, .bool false, .slice none 0 0]) (w' := W2) rfl rfl (by simp [go_sem, rcase]) HCQ.out ?_
      simp only [Act.put, List.setIfInBounds_toArray, List.set_cons_zero, List.set_cons_succ, got, if_true]
      refine regN_drop (n := 2) rfl ?_
      simp only [List.drop_succ_cons, List.drop_zero]
      have d0 := blk_cell HXQ.out 0
      have d1 := blk_cell HXQ.out 1
      have d2 := blk_cell HXQ.out 2
      have d3 := blk_cell HXQ.out 3
      have d4 := blk_cell HXQ.out 4
      have d5 := blk_cell HXQ.out 5
      have f := blk_frozen HXQ.out
      go_wp2
      clear d0 d1 d2 d3 d4 d5 f
      obtain ⟨W3, hW3, hb3, hot3, hk3, hbl3⟩ := HXQ.out.set (.int .i64 0) (.int .i64 0) (.bool false) (.slice none 0 0) (.bool false) (.slice none 0 0)
      rw [← hW3]
      obtain ⟨ho2, hb2⟩ := HOB.out
      have hl2 := HL2.out
      subst hl2
      have hl := HL.out
      have hgb : g1 ≠ b1 := ne_cb HCQ.out HXQ.out
      have S0 : Src f W3 w.heap.size g1 b1 false [] := ⟨_, _, _, _, (z41, 0), none, 0, none, 0, (hot3 _ hgb).trans HCQ.out, hb3, .inl ⟨rfl, rfl, rfl⟩⟩
      have HSO : Src f W3 w.heap.size g2 b2 two lb := HSO2.out.other hot3 HXQ.out (by have := HN.out; omega) hk3
      refine hK.out ([].length + lb.length) _ _ (by rw [hl]; simp) ⟨false, two, [], lb, xs ++ [y1], v8, ⟨rfl, rfl, rfl, rfl, rfl, rfl, rfl, rfl, rfl, rfl, rfl, rfl, rfl⟩, rfl, ?_, ?_, S0, HSO, R_cb ho2 HCQ.out (.inl rfl) (fun k h1 h2 => hot3 k h2), hbl3 _ _ HN.out.2.2.1 hb2⟩
      · rw [List.append_assoc, ← HI.out.1.1, HST.out]
        rfl
      · have := HI.out.1.2
        rw [hl] at this
        simp only [List.length_append, List.length_cons, List.length_nil] at this ⊢
        omega
    · have hbuf' := HBQ.out
      rw [hl2] at hbuf'
      obtain ⟨h0, hx, hrest⟩ := hbuf'.pop
      have hk := Kp3.chan HCQ.out cap1 (buf1.extract 1 buf1.size) true s1 (q1 + 1) false
      have hcc := heap_setChan W2 g1 cap1 (buf1.extract 1 buf1.size) true s1 (q1 + 1) false HGL.out
      have hbl := below_setChan HOB.out.2 HN.out.1 cap1 (buf1.extract 1 buf1.size) true s1 (q1 + 1) false
      have hot : ∀ k, k ≠ g1 → (W2.setChan g1 cap1 (buf1.extract 1 buf1.size) true s1 (q1 + 1) false).heap[k]? = W2.heap[k]? := fun k hk => by simp only [World.setChan]; rw [Array.getElem?_setIfInBounds_ne (by omega)]
      refine regN_recv (ok := true) (rest := [2, 3, 4, 5, 6]) (c := g1) (z := .agg #[.int .i64 0, .int .i64 0, .bool false, .slice none 0 0, .bool false, .slice none 0 0]) (w' := W2) rfl rfl (by simp [go_sem, rcase]) HCQ.out h0 ?_
      simp only [Act.put, List.setIfInBounds_toArray, List.set_cons_zero, List.set_cons_succ, got, if_true]
      obtain ⟨A3, c3, A5, c5, hval, h3, h5⟩ := hx
      rw [hval]
      generalize W2.setChan _ _ _ _ _ _ _ = W1 at hk hcc hbl hot ⊢
      have hgb : g1 ≠ b1 := ne_cb HCQ.out HXQ.out
      have hx1 : BoxR W1 b1 y1.1 A31 c31 A51 c51 := (hot _ hgb.symm).trans HXQ.out
      have HX := Aside0.mk (And.intro (And.intro h3 h5) (And.intro hl2 hrest))
      have HW := Aside0.mk (And.intro (And.intro hk hcc) (And.intro hbl hot))
      have HGB := Aside0.mk hgb
      have HXQ1 := Aside0.mk hx1
      clear h3 h5 hl2 hrest hk hcc hbl hot hbuf' h0 hval hgb hx1
      refine regN_drop (n := 2) rfl ?_
      simp only [List.drop_succ_cons, List.drop_zero]
      have d0 := blk_cell HXQ1.out 0
      have d1 := blk_cell HXQ1.out 1
      have d2 := blk_cell HXQ1.out 2
      have d3 := blk_cell HXQ1.out 3
      have d4 := blk_cell HXQ1.out 4
      have d5 := blk_cell HXQ1.out 5
      have f := blk_frozen HXQ1.out
      go_wp2
      clear d0 d1 d2 d3 d4 d5 f
      obtain ⟨⟨h3, h5⟩, hl2, hrest⟩ := HX.out
      obtain ⟨⟨hk, hcc⟩, hbl, hot⟩ := HW.out
      have hgb := HGB.out
      obtain ⟨W3, hW3, hb3, hot3, hk3, hbl3⟩ := HXQ1.out.set (.int .i64 x.1.f0) (.int .i64 x.1.f1) (.bool x.1.f2) (.slice A3 x.1.f3.length c3) (.bool x.1.f4) (.slice A5 x.1.f5.length c5)
      rw [← hW3]
      obtain ⟨ho2, hb2⟩ := HOB.out
      subst hl2
      have hl := HL.out
      have hkk := hk.trans hk3
      have hott : ∀ k, k ≠ g1 → k ≠ b1 → W3.heap[k]? = W2.heap[k]? := fun k h1 h2 => (hot3 k h2).trans (hot k h1)
      have S0 : Src f W3 w.heap.size g1 b1 true (x :: l') := ⟨_, _, _, _, x, A3, c3, A5, c5, (hot3 _ hgb).trans hcc, hb3, .inr ⟨rfl, l', rfl, ⟨h3.kp hkk, h5.kp hkk⟩, hrest.kp hkk⟩⟩
      have HSO : Src f W3 w.heap.size g2 b2 two lb := HSO2.out.other2 hott HCQ.out HXQ.out (by have := HN.out; omega) (by have := HN.out; omega) hkk
      refine hK.out ((x :: l').length + lb.length) _ _ (by rw [hl]; simp) ⟨true, two, x :: l', lb, xs ++ [y1], v8, ⟨rfl, rfl, rfl, rfl, rfl, rfl, rfl, rfl, rfl, rfl, rfl, rfl, rfl⟩, rfl, ?_, ?_, S0, HSO, R_cb ho2 HCQ.out (.inl rfl) hott, hbl3 _ _ HN.out.2.2.1 hbl⟩
      · rw [List.append_assoc, ← HI.out.1.1, HST.out]
        rfl
      · have := HI.out.1.2
        rw [hl] at this
        simp only [List.length_append, List.length_cons, List.length_nil] at this ⊢
        omega
end Go.Proofs.Ythlnbbehcpdnfaa.G

namespace Go.Proofs.Ythlnbbehcpdnfaa.G
open Go.RowKit Go.Proofs.YthlnbbehcpdnfaaW.PrintWords Go.Proofs.YthlnbbehcpdnfaaW.PrintLast Go.Proofs.YthlnbbehcpdnfaaW.PrintMore
set_option linter.unusedVariables false
variable {P : Program} {ops : Array Oper} {Q : Exit → Act → World → Prop} {md : Region.Mode} {S : World → Prop} {ds : List Nat} {oi : Oper} {v : Value} {fuel : Nat} {l : Array Bool} {a a' : Act} {w w1 : World} {K : Act → World → Prop}
theorem tpu (i : Nat) (N : Option Tmp) (l' : Array Bool) (h : wpAnyLast P md ops Q S ds fuel l' a' w) (hi : ops[i]? = some oi := by exact rfl) (hN : oi.dst = N := by exact rfl) (hc : anyB md ops l l' i = true := by exact any_of HT_.out (by kernel_rfl)) (hQ : ∀ c a w, Q (.panic c) (a.put oi.dst v) w → Q (.panic c) a w := by exact fun _ _ _ h => h) (hw : Region.wanted oi (yielded ops a.tmps) = true := by rfl) (hy : ∀ w, (execOp a.eval oi).run P w = .ok (.value v) w := by intro w'; go_simp; with_reducible rfl) (ha : a.put N v = a' := by simp only [Act.put, List.setIfInBounds_toArray, List.set_cons_zero, List.set_cons_succ, i64_w, i32_w]; rfl) : wpAnyLast P md ops Q S ds (fuel + 1) l a w := pure_ l' hi hN hc hQ (.inl ⟨hw, hy⟩) ha h
theorem tta (i : Nat) (N : Option Tmp) (l' : Array Bool) (hS : S w) (h : wpAnyLast P md ops Q S ds fuel l' a' w) (hi : ops[i]? = some oi := by exact rfl) (hN : oi.dst = N := by exact rfl) (hc : takeB md ops ds l l' i = true := by exact take_ofW HT_.out HW_.out (by kernel_rfl)) (hQ : ∀ c a w, Q (.panic c) (a.put oi.dst v) w → Q (.panic c) a w := by exact fun _ _ _ h => h) (hw : Region.wanted oi (yielded ops a.tmps) = true := by rfl) (hy : ∀ w, S w → (execOp a.eval oi).run P w = .ok (.value v) w) (ha : a.put N v = a' := by simp only [Act.put, List.setIfInBounds_toArray, List.set_cons_zero, List.set_cons_succ, i64_w, i32_w]; rfl) : wpAnyLast P md ops Q S ds (fuel + 1) l a w := take_ l' hi hN hc hQ (.inl ⟨hw, hy⟩) hS ha h
theorem tnm {N' : Option Tmp} {b : Act} (N : Option Tmp) (h : wpAnyLast P md ops Q S ds fuel l a' w) (hN : N' = N := by exact rfl) (ha : b.put N v = a' := by simp only [Act.put, List.setIfInBounds_toArray, List.set_cons_zero, List.set_cons_succ, i64_w, i32_w]; rfl) : wpAnyLast P md ops Q S ds fuel l (b.put N' v) w := norm_ (by rw [hN]; exact ha) h
end Go.Proofs.Ythlnbbehcpdnfaa.G

namespace Go.Proofs.Ythlnbbehcpdnfaa.Pu
open Go.RowKit Go.Proofs.YthlnbbehcpdnfaaW.PrintWords Go.Proofs.YthlnbbehcpdnfaaW.PrintLast
set_option linter.unusedVariables false
set_option linter.unusedSimpArgs false
theorem w64 {a : Int} (h0 : -9223372036854775808 ≤ a) (h1 : a ≤ 9223372036854775807) : wrap64 a = a := by unfold wrap64; omega
/-- (Not by 'rfl': a large number in a test behind it would be counted up by the kernel.) -/
theorem bindS {α β : Type} (x : α) (f : α → Option β) : (some x).bind f = f x := Eq.trans (Option.bind_some x f) (Eq.refl _)
/-- It ends, in something of which P holds. -/
def EndsIn {α : Type} (g : Nat → Option α) (P : α → Prop) : Prop := ∃ r, Ev g r ∧ P r
theorem EndsIn.of {α : Type} {g : Nat → Option α} {P : α → Prop} {r : α} (h : Ev g r) (hp : P r) : EndsIn g P := ⟨r, h, hp⟩
theorem EndsIn.bind {α β : Type} {g : Nat → Option α} {f : Nat → α → Option β} {P : α → Prop} {Q : β → Prop} (h : EndsIn g P) (k : ∀ a, P a → EndsIn (fun n => f n a) Q) : EndsIn (fun n => (g n).bind (f n)) Q := by
  obtain ⟨a, ha, hp⟩ := h
  obtain ⟨b, hb, hq⟩ := k a hp
  exact ⟨b, Ev.bind ha hb, hq⟩
theorem EndsIn.step {α : Type} {g f : Nat → Option α} {P : α → Prop} (h : ∀ k, g (k + 1) = f k) (k : EndsIn f P) : EndsIn g P := by
  obtain ⟨a, ha, hp⟩ := k
  exact ⟨a, Ev.step h ha, hp⟩
theorem EndsIn.now {α : Type} {P : α → Prop} (r : α) (hp : P r) : EndsIn (fun _ => some r) P := ⟨r, Ev.now r, hp⟩
theorem EndsIn.mono {α : Type} {g : Nat → Option α} {P Q : α → Prop} (h : EndsIn g P) (k : ∀ a, P a → Q a) : EndsIn g Q := by
  obtain ⟨a, ha, hp⟩ := h
  exact ⟨a, ha, k a hp⟩
/-! lists that are filled place by place -/
theorem fill_set {α β : Type} (f : α → β) (z : β) (l : List α) (i : Nat) (h : i < l.length) :
    ((l.take i).map f ++ List.replicate (l.length - i) z).set i (f l[i]) = (l.take (i + 1)).map f ++ List.replicate (l.length - (i + 1)) z := by
  have hlen : ((l.take i).map f).length = i := by simp; omega
  rw [List.set_append_right _ _ (by omega), hlen, Nat.sub_self]
  obtain ⟨m, hm⟩ : ∃ m, l.length - i = m + 1 := ⟨l.length - i - 1, by omega⟩
  rw [hm, List.replicate_succ, List.set_cons_zero, List.take_succ_eq_append_getElem h, List.map_append, show l.length - (i + 1) = m by omega]
  simp
theorem fill_len {α β : Type} (f : α → β) (z : β) (l : List α) (i : Nat) (h : i ≤ l.length) : ((l.take i).map f ++ List.replicate (l.length - i) z).length = l.length := by
  simp; omega
end Go.Proofs.Ythlnbbehcpdnfaa.Pu

namespace Go.Proofs.Ythlnbbehcpdnfaa.G
open Go.RowKit Go.Proofs.YthlnbbehcpdnfaaW.PrintWords Go.Proofs.YthlnbbehcpdnfaaW.PrintLast Go.Proofs.YthlnbbehcpdnfaaW.PrintMore
attribute [local go_sem] max2_int min2_int max_two min_two max_three min_three max_four min_four   -- for this text's walks alone
set_option linter.unusedVariables false
set_option linter.unusedSimpArgs false

def spec_l6In.f (a0 : Int) (a1 : Int) (a2 : Int) : Option (Bool) := if a0 ≥ a1 then (some (decide (a0 ≤ a2))) else (some false)
set_option maxHeartbeats 8000000 in
set_option maxRecDepth 100000 in
theorem spec_l6In.calls (a0 : Int) (a1 : Int) (a2 : Int) (r : Bool) (w : World) (h : spec_l6In.f a0 a1 a2 = some r) :
  Calls Try.prog 58 #[.int .i64 a0, .int .i64 a1, .int .i64 a2] w fun e w' => e = .returned (.bool r) ∧ Drawn0 w w' := by
 have H : (if a0 ≥ a1 then (some (decide (a0 ≤ a2))) else (some false)) = some r := h
 clear h
 by_cases c4 : a0 ≥ a1
 ·rw [if_pos c4] at H
  have c4b0 : decide (a1 ≤ a0) = true := decide_eq_true c4
  clear c4
  obtain rfl := Option.some.inj H
  go_enter Try.func58, Try.ntmps58
  go_wp2
  go_ret
  exact ⟨by first | rfl | (simp; done) | (simp [*]; done), by repeat (first | exact Drawn0.refl _ | apply Drawn0.step)⟩
 ·rw [if_neg c4] at H
  have c4b0 : decide (a1 ≤ a0) = false := decide_eq_false c4
  clear c4
  obtain rfl := Option.some.inj H
  go_enter Try.func58, Try.ntmps58
  go_wp2
  go_ret
  exact ⟨by first | rfl | (simp; done) | (simp [*]; done), by repeat (first | exact Drawn0.refl _ | apply Drawn0.step)⟩

def spec_l1Ok.l0 : Nat → List Int → Int → Option (Bool)
 | 0, _, _ => none
 | k + 1, x0, x3 => if x3 < (x0.length : Int) then (if 0 ≤ x3 then ((spec_l6In.f (rd x0 x3) 0 255).bind fun t165 => (if t165 = true then (spec_l1Ok.l0 k x0 (wrap64 (x3 + 1))) else (some false))) else (none)) else (some true)
def spec_l1Ok.f (k : Nat) (l0 : List Int) : Option (Bool) := spec_l1Ok.l0 k l0 0
set_option maxHeartbeats 8000000 in
set_option maxRecDepth 100000 in
theorem spec_l1Ok.calls (k : Nat) (A0 : Option Addr) (c0 : Nat) (l0 : List Int) (r : Bool) (w : World) (hr0 : Kd.C (Kd.int .i64) w A0 l0.length l0) (hc0 : l0.length ≤ c0) (h : spec_l1Ok.f k l0 = some r) :
  Calls Try.prog 79 #[.slice A0 l0.length c0] w fun e w' => e = .returned (.bool r) ∧ Drawn0 w w' := by
 have HR0 := Aside0.mk hr0
 have HC0 := Aside0.mk hc0
 clear hr0 hc0
 have H : (spec_l1Ok.l0 k l0 0) = some r := h
 clear h
 have H' := Aside0.mk H
 clear H
 go_enter Try.func79, Try.ntmps79
 go_wp2
 go_loopg [3] k (fun kq v3 w' => ∃ (x3_1 : Int), v3 = .int .i64 x3_1 ∧ Aside0 (spec_l1Ok.l0 kq l0 x3_1 = some r) ∧ Aside0 (kq ≤ k) ∧ Drawn0 w w')
 case atStart => exact ⟨(0), tr, H', ⟨Nat.le_refl _⟩, by repeat (first | exact Drawn0.refl _ | apply Drawn0.step)⟩
 case round =>
  clear H'
  obtain ⟨x3_1, rfl, HA, HK1, ⟨m1, rfl⟩⟩ := hrel
  cases gk with
  | zero => exact absurd HA.out (by simp [spec_l1Ok.l0])
  | succ k1 =>
   have H := HA.out
   clear HA
   simp only [spec_l1Ok.l0] at H
   by_cases c2 : x3_1 < (l0.length : Int)
   ·rw [if_pos c2] at H
    have c2b0 : decide (x3_1 < (l0.length : Int)) = true := decide_eq_true c2
    clear c2
    by_cases c3 : 0 ≤ x3_1
    ·rw [if_pos c3] at H
     have c3b0 : decide (0 ≤ x3_1) = true := decide_eq_true c3
     clear c3
     replace H := tbe H
     obtain ⟨t165, A4, H⟩ := H
     by_cases c5 : t165 = true
     ·subst c5
      rw [if_pos rfl] at H
      have H' := Aside0.mk H
      clear H
      have p164 : 0 ≤ (x3_1 : Int) := td
      have q164 : x3_1 < (l0.length : Int) := td
      obtain ⟨ad164, e164, hx164_0⟩ := Kd.at_int HR0.out x3_1 p164 q164
      cases e164
      replace p164 := eq_true p164
      replace q164 := eq_true q164
      go_wp2_with (first | ((with_reducible refine gate_callee (f := 58) rfl ?_); refine goesL_ (some 14) rfl rfl Try.func58 (by kernel_rfl) rfl #[.int .i64 (rd l0 x3_1), .int .i64 0, .int .i64 255] rfl tq ?_; (with_reducible refine (spec_l6In.calls (rd l0 x3_1) 0 255 true _ A4.out).mono ?_); rintro e w' ⟨rfl, ⟨nd, rfl⟩⟩; refine ⟨_, rfl, ?_⟩))
      go_roundg k1
      case measure => have := HK1.out; omega
      case rel => exact ⟨(wrap64 (x3_1 + 1)), tr, H', ⟨by have := HK1.out; omega⟩, by repeat (first | exact Drawn0.refl _ | apply Drawn0.step)⟩
     ·replace c5 := Bool.eq_false_iff.mpr c5
      subst c5
      rw [if_neg (show ¬ (false = true) by decide)] at H
      obtain rfl := Option.some.inj H
      have p164 : 0 ≤ (x3_1 : Int) := td
      have q164 : x3_1 < (l0.length : Int) := td
      obtain ⟨ad164, e164, hx164_0⟩ := Kd.at_int HR0.out x3_1 p164 q164
      cases e164
      replace p164 := eq_true p164
      replace q164 := eq_true q164
      go_wp2_with (first | ((with_reducible refine gate_callee (f := 58) rfl ?_); refine goesL_ (some 14) rfl rfl Try.func58 (by kernel_rfl) rfl #[.int .i64 (rd l0 x3_1), .int .i64 0, .int .i64 255] rfl tq ?_; (with_reducible refine (spec_l6In.calls (rd l0 x3_1) 0 255 false _ A4.out).mono ?_); rintro e w' ⟨rfl, ⟨nd, rfl⟩⟩; refine ⟨_, rfl, ?_⟩))
      go_ret
      exact ⟨by first | rfl | (simp; done) | (simp [*]; done), by repeat (first | exact Drawn0.refl _ | apply Drawn0.step)⟩
    ·rw [if_neg c3] at H
     exact absurd H (by simp)
   ·rw [if_neg c2] at H
    have c2b0 : decide (x3_1 < (l0.length : Int)) = false := decide_eq_false c2
    clear c2
    obtain rfl := Option.some.inj H
    go_wp2
    go_ret
    exact ⟨by first | rfl | (simp; done) | (simp [*]; done), by repeat (first | exact Drawn0.refl _ | apply Drawn0.step)⟩

def spec_l3Part.f (k : Nat) (a0 : Bool) (l1 : List Int) : Option (Bool) := if a0 = true then ((spec_l1Ok.f k l1).bind fun t166 => (if t166 = true then (some (decide ((l1.length : Int) ≤ 12))) else (some false))) else (if (l1.length : Int) = 0 then ((spec_l1Ok.f k l1).bind fun t167 => (if t167 = true then (some (decide ((l1.length : Int) ≤ 12))) else (some false))) else (some false))
set_option maxHeartbeats 8000000 in
set_option maxRecDepth 100000 in
theorem spec_l3Part.calls (k : Nat) (a0 : Bool) (A1 : Option Addr) (c1 : Nat) (l1 : List Int) (r : Bool) (w : World) (hr1 : Kd.C (Kd.int .i64) w A1 l1.length l1) (hc1 : l1.length ≤ c1) (h : spec_l3Part.f k a0 l1 = some r) :
  Calls Try.prog 75 #[.bool a0, .slice A1 l1.length c1] w fun e w' => e = .returned (.bool r) ∧ Drawn0 w w' := by
 have HR1 := Aside0.mk hr1
 have HC1 := Aside0.mk hc1
 clear hr1 hc1
 have H : (if a0 = true then ((spec_l1Ok.f k l1).bind fun t166 => (if t166 = true then (some (decide ((l1.length : Int) ≤ 12))) else (some false))) else (if (l1.length : Int) = 0 then ((spec_l1Ok.f k l1).bind fun t167 => (if t167 = true then (some (decide ((l1.length : Int) ≤ 12))) else (some false))) else (some false))) = some r := h
 clear h
 by_cases c3 : a0 = true
 ·subst c3
  rw [if_pos rfl] at H
  replace H := tbe H
  obtain ⟨t166, A4, H⟩ := H
  by_cases c5 : t166 = true
  ·subst c5
   rw [if_pos rfl] at H
   obtain rfl := Option.some.inj H
   go_enter Try.func75, Try.ntmps75
   go_wp2_with (first | (go_at_call 79; (with_reducible refine (spec_l1Ok.calls k _ _ l1 true _ ?side1 ?side2 A4.out).mono ?_); (case side1 => exact tC HR1.out); (case side2 => exact HC1.out); rintro e w' ⟨rfl, ⟨nd, rfl⟩⟩))
   go_ret
   exact ⟨by first | rfl | (simp; done) | (simp [*]; done), by repeat (first | exact Drawn0.refl _ | apply Drawn0.step)⟩
  ·replace c5 := Bool.eq_false_iff.mpr c5
   subst c5
   rw [if_neg (show ¬ (false = true) by decide)] at H
   obtain rfl := Option.some.inj H
   go_enter Try.func75, Try.ntmps75
   go_wp2_with (first | (go_at_call 79; (with_reducible refine (spec_l1Ok.calls k _ _ l1 false _ ?side1 ?side2 A4.out).mono ?_); (case side1 => exact tC HR1.out); (case side2 => exact HC1.out); rintro e w' ⟨rfl, ⟨nd, rfl⟩⟩))
   go_ret
   exact ⟨by first | rfl | (simp; done) | (simp [*]; done), by repeat (first | exact Drawn0.refl _ | apply Drawn0.step)⟩
 ·replace c3 := Bool.eq_false_iff.mpr c3
  subst c3
  rw [if_neg (show ¬ (false = true) by decide)] at H
  by_cases c6 : (l1.length : Int) = 0
  ·rw [if_pos c6] at H
   have c6b0 : ((l1.length : Int) == 0) = true := beq_iff_eq.mpr c6
   have c6b1 : ((l1.length : Int) != 0) = false := bne_eq_false_iff_eq.mpr c6
   clear c6
   replace H := tbe H
   obtain ⟨t167, A7, H⟩ := H
   by_cases c8 : t167 = true
   ·subst c8
    rw [if_pos rfl] at H
    obtain rfl := Option.some.inj H
    go_enter Try.func75, Try.ntmps75
    go_wp2_with (first | (go_at_call 79; (with_reducible refine (spec_l1Ok.calls k _ _ l1 true _ ?side1 ?side2 A7.out).mono ?_); (case side1 => exact tC HR1.out); (case side2 => exact HC1.out); rintro e w' ⟨rfl, ⟨nd, rfl⟩⟩))
    go_ret
    exact ⟨by first | rfl | (simp; done) | (simp [*]; done), by repeat (first | exact Drawn0.refl _ | apply Drawn0.step)⟩
   ·replace c8 := Bool.eq_false_iff.mpr c8
    subst c8
    rw [if_neg (show ¬ (false = true) by decide)] at H
    obtain rfl := Option.some.inj H
    go_enter Try.func75, Try.ntmps75
    go_wp2_with (first | (go_at_call 79; (with_reducible refine (spec_l1Ok.calls k _ _ l1 false _ ?side1 ?side2 A7.out).mono ?_); (case side1 => exact tC HR1.out); (case side2 => exact HC1.out); rintro e w' ⟨rfl, ⟨nd, rfl⟩⟩))
    go_ret
    exact ⟨by first | rfl | (simp; done) | (simp [*]; done), by repeat (first | exact Drawn0.refl _ | apply Drawn0.step)⟩
  ·rw [if_neg c6] at H
   have c6b0 : ((l1.length : Int) == 0) = false := beq_eq_false_iff_ne.mpr c6
   have c6b1 : ((l1.length : Int) != 0) = true := bne_iff_ne.mpr c6
   have c6b2 : ¬ (l1 = []) := fun h_ => c6 (by rw [h_]; rfl)
   obtain rfl := Option.some.inj H
   go_enter Try.func75, Try.ntmps75
   go_wp2
   go_ret
   exact ⟨by first | rfl | (simp; done) | (simp [*]; done), by repeat (first | exact Drawn0.refl _ | apply Drawn0.step)⟩

def spec_RecordValid.f (k : Nat) (a0_0 : Int) (a0_1 : Int) (a0_2 : Bool) (l0_3 : List Int) (a0_4 : Bool) (l0_5 : List Int) : Option (Bool) := (spec_l6In.f a0_0 0 99999).bind fun t169 => (if t169 = true then ((spec_l6In.f a0_1 0 99999).bind fun t170 => (if t170 = true then ((spec_l3Part.f k a0_2 l0_3).bind fun t171 => (if t171 = true then ((spec_l3Part.f k a0_4 l0_5).bind fun t172 => (some t172)) else (some false))) else (some false))) else (some false))
set_option maxHeartbeats 8000000 in
set_option maxRecDepth 100000 in
theorem spec_RecordValid.calls (k : Nat) (a0_0 : Int) (a0_1 : Int) (a0_2 : Bool) (A0_3 : Option Addr) (c0_3 : Nat) (l0_3 : List Int) (a0_4 : Bool) (A0_5 : Option Addr) (c0_5 : Nat) (l0_5 : List Int) (r : Bool) (w : World) (hr0_3 : Kd.C (Kd.int .i64) w A0_3 l0_3.length l0_3) (hc0_3 : l0_3.length ≤ c0_3) (hr0_5 : Kd.C (Kd.int .i64) w A0_5 l0_5.length l0_5) (hc0_5 : l0_5.length ≤ c0_5) (h : spec_RecordValid.f k a0_0 a0_1 a0_2 l0_3 a0_4 l0_5 = some r) :
  Calls Try.prog 66 #[.agg #[.int .i64 a0_0, .int .i64 a0_1, .bool a0_2, .slice A0_3 l0_3.length c0_3, .bool a0_4, .slice A0_5 l0_5.length c0_5]] w fun e w' => e = .returned (.bool r) ∧ Below w.heap.size w w' := by
 have hu41 := Try.underlying41
 have HR0_3 := Aside0.mk hr0_3
 have HC0_3 := Aside0.mk hc0_3
 clear hr0_3 hc0_3
 have HR0_5 := Aside0.mk hr0_5
 have HC0_5 := Aside0.mk hc0_5
 clear hr0_5 hc0_5
 have HB := Aside0.mk (Below.refl w.heap.size w)
 have H : ((spec_l6In.f a0_0 0 99999).bind fun t169 => (if t169 = true then ((spec_l6In.f a0_1 0 99999).bind fun t170 => (if t170 = true then ((spec_l3Part.f k a0_2 l0_3).bind fun t171 => (if t171 = true then ((spec_l3Part.f k a0_4 l0_5).bind fun t172 => (some t172)) else (some false))) else (some false))) else (some false))) = some r := h
 clear h
 replace H := tbe H
 obtain ⟨t169, A2, H⟩ := H
 by_cases c3 : t169 = true
 ·subst c3
  rw [if_pos rfl] at H
  replace H := tbe H
  obtain ⟨t170, A4, H⟩ := H
  by_cases c5 : t170 = true
  ·subst c5
   rw [if_pos rfl] at H
   replace H := tbe H
   obtain ⟨t171, A6, H⟩ := H
   by_cases c7 : t171 = true
   ·subst c7
    rw [if_pos rfl] at H
    replace H := tbe H
    obtain ⟨t172, A8, H⟩ := H
    obtain rfl := Option.some.inj H
    go_enter Try.func66, Try.ntmps66
    go_wp2_with (first | ((with_reducible refine gate_dst (N := 1) rfl ?_); refine box_event ?hg (N := 1) ?hd (cs := #[.int .i64 a0_0, .int .i64 a0_1, .bool a0_2, .slice A0_3 l0_3.length c0_3, .bool a0_4, .slice A0_5 l0_5.length c0_5]) (t := 41) ?hr ?_; (case hd => rfl); (case hg => rfl); (case hr => first | (go_simp; done) | (go_simp; rfl)); intro gb168 hg w9 hbox hb; have BK168 := Aside0.mk (hbox); have GW168 := tge HB hg; have GE168 := tge HB hg; replace HB := tBs HB hb; clear hb hbox hg; obtain ⟨hcz10_0, hcz10_1, hcz10_2, hcz10_3, hcz10_4, hcz10_5, hfz10_0, hfz10_1, hfz10_2, hfz10_3, hfz10_4, hfz10_5⟩ := cells6 BK168.out) | ((with_reducible refine gate_callee (f := 58) rfl ?_); refine goesL_ (some 5) rfl rfl Try.func58 (by kernel_rfl) rfl #[.int .i64 a0_0, .int .i64 0, .int .i64 99999] rfl tq ?_; (with_reducible refine (spec_l6In.calls a0_0 0 99999 true _ A2.out).mono ?_); rintro e w' ⟨rfl, ⟨nd, rfl⟩⟩; refine ⟨_, rfl, ?_⟩) | (go_at_call 58; (with_reducible refine (spec_l6In.calls a0_1 0 99999 true _ A4.out).mono ?_); rintro e w' ⟨rfl, ⟨nd, rfl⟩⟩) | (go_at_call 75; (with_reducible refine (spec_l3Part.calls k a0_2 _ _ l0_3 true _ ?side1 ?side2 A6.out).mono ?_); (case side1 => exact tC (Kd.C_below HR0_3.out zb)); (case side2 => exact HC0_3.out); rintro e w' ⟨rfl, ⟨nd, rfl⟩⟩) | (go_at_call 75; (with_reducible refine (spec_l3Part.calls k a0_4 _ _ l0_5 t172 _ ?side1 ?side2 A8.out).mono ?_); (case side1 => exact tC (Kd.C_below HR0_5.out zb)); (case side2 => exact HC0_5.out); rintro e w' ⟨rfl, ⟨nd, rfl⟩⟩))
    go_ret
    exact ⟨by first | rfl | (simp [errW_none, errW_some] <;> rfl) | (simp [*, errW_none, errW_some] <;> rfl), zb⟩
   ·replace c7 := Bool.eq_false_iff.mpr c7
    subst c7
    rw [if_neg (show ¬ (false = true) by decide)] at H
    obtain rfl := Option.some.inj H
    go_enter Try.func66, Try.ntmps66
    go_wp2_with (first | ((with_reducible refine gate_dst (N := 1) rfl ?_); refine box_event ?hg (N := 1) ?hd (cs := #[.int .i64 a0_0, .int .i64 a0_1, .bool a0_2, .slice A0_3 l0_3.length c0_3, .bool a0_4, .slice A0_5 l0_5.length c0_5]) (t := 41) ?hr ?_; (case hd => rfl); (case hg => rfl); (case hr => first | (go_simp; done) | (go_simp; rfl)); intro gb168 hg w11 hbox hb; have BK168 := Aside0.mk (hbox); have GW168 := tge HB hg; have GE168 := tge HB hg; replace HB := tBs HB hb; clear hb hbox hg; obtain ⟨hcz12_0, hcz12_1, hcz12_2, hcz12_3, hcz12_4, hcz12_5, hfz12_0, hfz12_1, hfz12_2, hfz12_3, hfz12_4, hfz12_5⟩ := cells6 BK168.out) | ((with_reducible refine gate_callee (f := 58) rfl ?_); refine goesL_ (some 5) rfl rfl Try.func58 (by kernel_rfl) rfl #[.int .i64 a0_0, .int .i64 0, .int .i64 99999] rfl tq ?_; (with_reducible refine (spec_l6In.calls a0_0 0 99999 true _ A2.out).mono ?_); rintro e w' ⟨rfl, ⟨nd, rfl⟩⟩; refine ⟨_, rfl, ?_⟩) | (go_at_call 58; (with_reducible refine (spec_l6In.calls a0_1 0 99999 true _ A4.out).mono ?_); rintro e w' ⟨rfl, ⟨nd, rfl⟩⟩) | (go_at_call 75; (with_reducible refine (spec_l3Part.calls k a0_2 _ _ l0_3 false _ ?side1 ?side2 A6.out).mono ?_); (case side1 => exact tC (Kd.C_below HR0_3.out zb)); (case side2 => exact HC0_3.out); rintro e w' ⟨rfl, ⟨nd, rfl⟩⟩))
    go_ret
    exact ⟨by first | rfl | (simp [errW_none, errW_some] <;> rfl) | (simp [*, errW_none, errW_some] <;> rfl), zb⟩
  ·replace c5 := Bool.eq_false_iff.mpr c5
   subst c5
   rw [if_neg (show ¬ (false = true) by decide)] at H
   obtain rfl := Option.some.inj H
   go_enter Try.func66, Try.ntmps66
   go_wp2_with (first | ((with_reducible refine gate_dst (N := 1) rfl ?_); refine box_event ?hg (N := 1) ?hd (cs := #[.int .i64 a0_0, .int .i64 a0_1, .bool a0_2, .slice A0_3 l0_3.length c0_3, .bool a0_4, .slice A0_5 l0_5.length c0_5]) (t := 41) ?hr ?_; (case hd => rfl); (case hg => rfl); (case hr => first | (go_simp; done) | (go_simp; rfl)); intro gb168 hg w13 hbox hb; have BK168 := Aside0.mk (hbox); have GW168 := tge HB hg; have GE168 := tge HB hg; replace HB := tBs HB hb; clear hb hbox hg; obtain ⟨hcz14_0, hcz14_1, hcz14_2, hcz14_3, hcz14_4, hcz14_5, hfz14_0, hfz14_1, hfz14_2, hfz14_3, hfz14_4, hfz14_5⟩ := cells6 BK168.out) | ((with_reducible refine gate_callee (f := 58) rfl ?_); refine goesL_ (some 5) rfl rfl Try.func58 (by kernel_rfl) rfl #[.int .i64 a0_0, .int .i64 0, .int .i64 99999] rfl tq ?_; (with_reducible refine (spec_l6In.calls a0_0 0 99999 true _ A2.out).mono ?_); rintro e w' ⟨rfl, ⟨nd, rfl⟩⟩; refine ⟨_, rfl, ?_⟩) | (go_at_call 58; (with_reducible refine (spec_l6In.calls a0_1 0 99999 false _ A4.out).mono ?_); rintro e w' ⟨rfl, ⟨nd, rfl⟩⟩))
   go_ret
   exact ⟨by first | rfl | (simp [errW_none, errW_some] <;> rfl) | (simp [*, errW_none, errW_some] <;> rfl), zb⟩
 ·replace c3 := Bool.eq_false_iff.mpr c3
  subst c3
  rw [if_neg (show ¬ (false = true) by decide)] at H
  obtain rfl := Option.some.inj H
  go_enter Try.func66, Try.ntmps66
  go_wp2_with (first | ((with_reducible refine gate_dst (N := 1) rfl ?_); refine box_event ?hg (N := 1) ?hd (cs := #[.int .i64 a0_0, .int .i64 a0_1, .bool a0_2, .slice A0_3 l0_3.length c0_3, .bool a0_4, .slice A0_5 l0_5.length c0_5]) (t := 41) ?hr ?_; (case hd => rfl); (case hg => rfl); (case hr => first | (go_simp; done) | (go_simp; rfl)); intro gb168 hg w15 hbox hb; have BK168 := Aside0.mk (hbox); have GW168 := tge HB hg; have GE168 := tge HB hg; replace HB := tBs HB hb; clear hb hbox hg; obtain ⟨hcz16_0, hcz16_1, hcz16_2, hcz16_3, hcz16_4, hcz16_5, hfz16_0, hfz16_1, hfz16_2, hfz16_3, hfz16_4, hfz16_5⟩ := cells6 BK168.out) | ((with_reducible refine gate_callee (f := 58) rfl ?_); refine goesL_ (some 5) rfl rfl Try.func58 (by kernel_rfl) rfl #[.int .i64 a0_0, .int .i64 0, .int .i64 99999] rfl tq ?_; (with_reducible refine (spec_l6In.calls a0_0 0 99999 false _ A2.out).mono ?_); rintro e w' ⟨rfl, ⟨nd, rfl⟩⟩; refine ⟨_, rfl, ?_⟩))
  go_ret
  exact ⟨by first | rfl | (simp [errW_none, errW_some] <;> rfl) | (simp [*, errW_none, errW_some] <;> rfl), zb⟩

end Go.Proofs.Ythlnbbehcpdnfaa.G

