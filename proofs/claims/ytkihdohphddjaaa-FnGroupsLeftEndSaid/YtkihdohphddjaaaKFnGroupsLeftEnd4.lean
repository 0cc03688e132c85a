/- A text of seat Ytkihdohphddjaaa: what the law FnGroupsLeftEnd needs of this repo's texts (by pack.py). Not trusted: Lean checks it. -/
import Derived.Test.YtkihdohphddjaaaKFnGroupsLeftEnd3
import Derived.Test.YtkihdohphddjaaaProg
import Derived.Below
import Derived.Deep.Draws
import Derived.Deep.AppendLies
import Derived.Maps.AppendAt
import Derived.OwnWalk
import Derived.Laws.BytesArg
import Derived.Laws.MakeOwn
import Derived.Laws.OwnMore
import Derived.Deep.OwnRows
import Derived.Tactics
import Derived.Lib.ConvBytes
import Derived.Laws.Slices
import Derived.WalkKit
import Derived.KernelRfl
import Derived.RowKit3
import Derived.Deep.LoopGhost
import Derived.Deep.QuietTactic
import Derived.BigQuiet
import Derived.WideLaws
import Derived.Deep.DeepCutAuto
import Derived.Deep.CutBlock
import Derived.Deep.RegionHeld3
import Derived.Laws.Rows
import Derived.Lib.AppendStr
import Derived.ArgAppend
import Derived.Laws.IdiomCopy
import Derived.OrdersHeld
import Derived.Laws.BitsLemmas
import Derived.RowKit
import Derived.WalkLawsBesides
import Derived.OwnWalkIn
import Derived.RangeFuncNested
import Derived.RangeFuncBound
import Derived.RangeFuncCalls
import Derived.RangeFuncLeaves
import Derived.Shelf.Abstract
import Derived.Shelf.RegionOpen
import Derived.TacticsInMore
import Derived.LoopNIn
import Derived.LoopIn
namespace Go.Proofs.Ytkihdohphddjaaa.G
open Go.RowKit Go.Proofs.YtkihdohphddjaaaW.PrintWords Go.Proofs.YtkihdohphddjaaaW.PrintLast Go.Proofs.YtkihdohphddjaaaW.PrintMore
attribute [local go_sem] max2_int min2_int max_two min_two max_three min_three max_four min_four   -- for this text's walks alone
set_option linter.unusedVariables false
set_option linter.unusedSimpArgs false



def errW : Option Int → Value
 | none => .nilIface
 | some c => .iface 0 (.int .i64 c)
theorem errW_none : errW none = .nilIface := rfl
theorem errW_some (c : Int) : errW (some c) = .iface 0 (.int .i64 c) := rfl

theorem info3 : (Try.prog.info? 3).map (fun i => (i.zero, i.size, i.bytes)) = some (some (.int .i64 0), 1, 8) := by kernel_rfl
theorem info5 : (Try.prog.info? 5).map (fun i => (i.zero, i.size, i.bytes)) = some (some (.int .u8 0), 1, 1) := by kernel_rfl
theorem info25 : (Try.prog.info? 25).map (fun i => (i.zero, i.size, i.bytes)) = some (some (.agg #[(.string ⟨#[]⟩), (.int .i64 0)]), 2, 24) := by kernel_rfl
theorem info75 : (Try.prog.info? 75).map (fun i => (i.zero, i.size, i.bytes)) = some (some (.agg #[(.bool false), (.bool false), (.int .i64 0), (.int .i64 0), (.int .i64 0), (.slice none 0 0)]), 6, 56) := by kernel_rfl
theorem info78 : (Try.prog.info? 78).map (fun i => (i.zero, i.size, i.bytes)) = some (some (.agg #[(.int .i64 0), (.int .i64 0), (.bool false), (.slice none 0 0), (.bool false), (.slice none 0 0)]), 6, 80) := by kernel_rfl
-- the values' own types
structure S25 where
 f0 : ByteArray
 f1 : Int
def z25 : S25 := ⟨(⟨#[]⟩ : ByteArray), (0 : Int)⟩
def k25 : Kd S25 := Kd.iso (Kd.pair Kd.string (Kd.int .i64)) (fun x : S25 => (x.f0, x.f1))
theorem k25_open {w : World} {x : S25} {cs : List Value} (h : k25.K w x cs) : cs = [.string x.f0, .int .i64 x.f1] := by
 obtain ⟨_, _, rfl, rfl, rfl⟩ := h
 exact rfl
theorem k25_openM {w : World} {base : Nat} {ok : Nat → Prop} {x : S25} {cs : List Value} (h : k25.M w base ok x cs) : cs = [.string x.f0, .int .i64 x.f1] := by
 obtain ⟨_, _, rfl, rfl, rfl⟩ := h
 exact rfl
theorem k25_mk (w : World) (x : S25)  : k25.K w x [.string x.f0, .int .i64 x.f1] := ⟨[.string x.f0], [.int .i64 x.f1], rfl, rfl, rfl⟩
theorem k25_mkM (w : World) (base : Nat) (ok : Nat → Prop) (x : S25)  : k25.M w base ok x [.string x.f0, .int .i64 x.f1] := ⟨[.string x.f0], [.int .i64 x.f1], rfl, rfl, rfl⟩
def rd_T25 (xs : List S25) (i : Int) : S25 := xs.getD i.toNat z25
theorem at_T25 {w : World} {A : Option Addr} {n : Nat} {xs : List S25} (h : Kd.C k25 w A n xs) (i : Int) (h0 : 0 ≤ i) (h1 : i < n) : ∃ ad , A = some ad ∧ w.cell? (ad.add (i.toNat * 2)) = some (.string (rd_T25 xs i).f0) ∧ w.cell? ⟨(ad.add (i.toNat * 2)).block, (ad.add (i.toNat * 2)).off + 1, none⟩ = some (.int .i64 (rd_T25 xs i).f1) := by
 obtain ⟨ad, c, e, _, hK, hc0⟩ := Kd.C_get h z25 i h0 h1
 have hc : ∀ j u, c[j]? = some u → w.cell? (ad.add (i.toNat * 2 + j)) = some u := hc0
 obtain rfl := k25_open hK
 exact ⟨ad, e, hc 0 _ rfl, by rw [← add_field _ _ 1 (by omega)]; exact hc 1 _ rfl⟩

structure S78 where
 f0 : Int
 f1 : Int
 f2 : Bool
 f3 : (List Int)
 f4 : Bool
 f5 : (List Int)
def z78 : S78 := ⟨(0 : Int), (0 : Int), false, ([] : List Int), false, ([] : List Int)⟩
def k78 : Kd S78 := Kd.iso (Kd.pair (Kd.int .i64) (Kd.pair (Kd.int .i64) (Kd.pair Kd.bool (Kd.pair (Kd.slice 3 (Kd.int .i64)) (Kd.pair Kd.bool (Kd.slice 3 (Kd.int .i64))))))) (fun x : S78 => (x.f0, x.f1, x.f2, x.f3, x.f4, x.f5))
theorem k78_heap : Kd.Heap k78 := Kd.heap_iso _ (Kd.heap_pair (Kd.heap_int .i64) (Kd.heap_pair (Kd.heap_int .i64) (Kd.heap_pair Kd.heap_bool (Kd.heap_pair (Kd.heap_slice 3 (Kd.heap_int .i64)) (Kd.heap_pair Kd.heap_bool (Kd.heap_slice 3 (Kd.heap_int .i64)))))))
theorem k78_open {w : World} {x : S78} {cs : List Value} (h : k78.K w x cs) : ∃ A3 c3 A5 c5, cs = [.int .i64 x.f0, .int .i64 x.f1, .bool x.f2, .slice A3 x.f3.length c3, .bool x.f4, .slice A5 x.f5.length c5] ∧ x.f3.length ≤ c3 ∧ (Kd.int .i64).C w A3 x.f3.length x.f3 ∧ x.f5.length ≤ c5 ∧ (Kd.int .i64).C w A5 x.f5.length x.f5 := by
 obtain ⟨_, _, rfl, rfl, ⟨_, _, rfl, rfl, ⟨_, _, rfl, rfl, ⟨_, _, rfl, ⟨A3, c3, rfl, l3, g3⟩, ⟨_, _, rfl, rfl, ⟨A5, c5, rfl, l5, g5⟩⟩⟩⟩⟩⟩ := h
 exact ⟨A3, c3, A5, c5, rfl, l3, g3, l5, g5⟩
theorem k78_mk (w : World) (x : S78) {A3 : Option Addr} {c3 : Nat} (l3 : x.f3.length ≤ c3) (g3 : (Kd.int .i64).C w A3 x.f3.length x.f3) {A5 : Option Addr} {c5 : Nat} (l5 : x.f5.length ≤ c5) (g5 : (Kd.int .i64).C w A5 x.f5.length x.f5) : k78.K w x [.int .i64 x.f0, .int .i64 x.f1, .bool x.f2, .slice A3 x.f3.length c3, .bool x.f4, .slice A5 x.f5.length c5] := ⟨[.int .i64 x.f0], [.int .i64 x.f1, .bool x.f2, .slice A3 x.f3.length c3, .bool x.f4, .slice A5 x.f5.length c5], rfl, rfl, ⟨[.int .i64 x.f1], [.bool x.f2, .slice A3 x.f3.length c3, .bool x.f4, .slice A5 x.f5.length c5], rfl, rfl, ⟨[.bool x.f2], [.slice A3 x.f3.length c3, .bool x.f4, .slice A5 x.f5.length c5], rfl, rfl, ⟨[.slice A3 x.f3.length c3], [.bool x.f4, .slice A5 x.f5.length c5], rfl, ⟨A3, c3, rfl, l3, g3⟩, ⟨[.bool x.f4], [.slice A5 x.f5.length c5], rfl, rfl, ⟨A5, c5, rfl, l5, g5⟩⟩⟩⟩⟩⟩
theorem k78_mkM (w : World) (base : Nat) (ok : Nat → Prop) (x : S78) {v3 : Value} (g3 : (Kd.int .i64).R 3 w base ok v3 x.f3) {v5 : Value} (g5 : (Kd.int .i64).R 3 w base ok v5 x.f5) : k78.M w base ok x [.int .i64 x.f0, .int .i64 x.f1, .bool x.f2, v3, .bool x.f4, v5] := ⟨[.int .i64 x.f0], [.int .i64 x.f1, .bool x.f2, v3, .bool x.f4, v5], rfl, rfl, ⟨[.int .i64 x.f1], [.bool x.f2, v3, .bool x.f4, v5], rfl, rfl, ⟨[.bool x.f2], [v3, .bool x.f4, v5], rfl, rfl, ⟨[v3], [.bool x.f4, v5], rfl, ⟨v3, rfl, g3⟩, ⟨[.bool x.f4], [v5], rfl, rfl, ⟨v5, rfl, g5⟩⟩⟩⟩⟩⟩
theorem k78_openF {W : World} {ok : Nat → Prop} {x : S78} {cs : List Value} (h : Kd.FK k78 W ok x cs) : ∃ A3 c3 A5 c5, cs = [.int .i64 x.f0, .int .i64 x.f1, .bool x.f2, .slice A3 x.f3.length c3, .bool x.f4, .slice A5 x.f5.length c5] ∧ x.f3.length ≤ c3 ∧ Kd.F (Kd.int .i64) W ok A3 x.f3.length x.f3 ∧ x.f5.length ≤ c5 ∧ Kd.F (Kd.int .i64) W ok A5 x.f5.length x.f5 := by
 obtain ⟨A3, c3, A5, c5, rfl, l3, _, l5, _⟩ := k78_open (Kd.FK_now h)
 exact ⟨A3, c3, A5, c5, rfl, l3, (fun W' hW => by obtain ⟨A3_, c3_, A5_, c5_, he, l3_, g3_, l5_, g5_⟩ := k78_open (h W' hW); injection (Option.some.inj (show some (Value.slice A3 x.f3.length c3) = some (Value.slice A3_ x.f3.length c3_) from congrArg (fun l => l[3]?) he)) with ha_ _ _; rw [ha_]; exact g3_), l5, (fun W' hW => by obtain ⟨A3_, c3_, A5_, c5_, he, l3_, g3_, l5_, g5_⟩ := k78_open (h W' hW); injection (Option.some.inj (show some (Value.slice A5 x.f5.length c5) = some (Value.slice A5_ x.f5.length c5_) from congrArg (fun l => l[5]?) he)) with ha_ _ _; rw [ha_]; exact g5_)⟩
theorem k78_mkF (W : World) (ok : Nat → Prop) (x : S78) {A3 : Option Addr} {c3 : Nat} (l3 : x.f3.length ≤ c3) (g3 : Kd.F (Kd.int .i64) W ok A3 x.f3.length x.f3) {A5 : Option Addr} {c5 : Nat} (l5 : x.f5.length ≤ c5) (g5 : Kd.F (Kd.int .i64) W ok A5 x.f5.length x.f5) : Kd.FK k78 W ok x [.int .i64 x.f0, .int .i64 x.f1, .bool x.f2, .slice A3 x.f3.length c3, .bool x.f4, .slice A5 x.f5.length c5] := fun W2 hW => k78_mk W2 x l3 (g3 W2 hW) l5 (g5 W2 hW)
def rd_T78 (xs : List S78) (i : Int) : S78 := xs.getD i.toNat z78
theorem at_T78 {w : World} {A : Option Addr} {n : Nat} {xs : List S78} (h : Kd.C k78 w A n xs) (i : Int) (h0 : 0 ≤ i) (h1 : i < n) : ∃ ad A3 c3 A5 c5, A = some ad ∧ w.cell? (ad.add (i.toNat * 6)) = some (.int .i64 (rd_T78 xs i).f0) ∧ w.cell? ⟨(ad.add (i.toNat * 6)).block, (ad.add (i.toNat * 6)).off + 1, none⟩ = some (.int .i64 (rd_T78 xs i).f1) ∧ w.cell? ⟨(ad.add (i.toNat * 6)).block, (ad.add (i.toNat * 6)).off + 2, none⟩ = some (.bool (rd_T78 xs i).f2) ∧ w.cell? ⟨(ad.add (i.toNat * 6)).block, (ad.add (i.toNat * 6)).off + 3, none⟩ = some (.slice A3 (rd_T78 xs i).f3.length c3) ∧ w.cell? ⟨(ad.add (i.toNat * 6)).block, (ad.add (i.toNat * 6)).off + 4, none⟩ = some (.bool (rd_T78 xs i).f4) ∧ w.cell? ⟨(ad.add (i.toNat * 6)).block, (ad.add (i.toNat * 6)).off + 5, none⟩ = some (.slice A5 (rd_T78 xs i).f5.length c5) ∧ (rd_T78 xs i).f3.length ≤ c3 ∧ (Kd.int .i64).C w A3 (rd_T78 xs i).f3.length (rd_T78 xs i).f3 ∧ (rd_T78 xs i).f5.length ≤ c5 ∧ (Kd.int .i64).C w A5 (rd_T78 xs i).f5.length (rd_T78 xs i).f5 := by
 obtain ⟨ad, c, e, _, hK, hc0⟩ := Kd.C_get h z78 i h0 h1
 have hc : ∀ j u, c[j]? = some u → w.cell? (ad.add (i.toNat * 6 + j)) = some u := hc0
 obtain ⟨A3, c3, A5, c5, rfl, l3, g3, l5, g5⟩ := k78_open hK
 exact ⟨ad, A3, c3, A5, c5, e, hc 0 _ rfl, by rw [← add_field _ _ 1 (by omega)]; exact hc 1 _ rfl, by rw [← add_field _ _ 2 (by omega)]; exact hc 2 _ rfl, by rw [← add_field _ _ 3 (by omega)]; exact hc 3 _ rfl, by rw [← add_field _ _ 4 (by omega)]; exact hc 4 _ rfl, by rw [← add_field _ _ 5 (by omega)]; exact hc 5 _ rfl, l3, g3, l5, g5⟩

structure S75 where
 f0 : Bool
 f1 : Bool
 f2 : Int
 f3 : Int
 f4 : Int
 f5 : (List S78)
def z75 : S75 := ⟨false, false, (0 : Int), (0 : Int), (0 : Int), ([] : List S78)⟩
def k75 : Kd S75 := Kd.iso (Kd.pair Kd.bool (Kd.pair Kd.bool (Kd.pair (Kd.int .i64) (Kd.pair (Kd.int .i64) (Kd.pair (Kd.int .i64) (Kd.slice 78 k78)))))) (fun x : S75 => (x.f0, x.f1, x.f2, x.f3, x.f4, x.f5))
theorem k75_heap : Kd.Heap k75 := Kd.heap_iso _ (Kd.heap_pair Kd.heap_bool (Kd.heap_pair Kd.heap_bool (Kd.heap_pair (Kd.heap_int .i64) (Kd.heap_pair (Kd.heap_int .i64) (Kd.heap_pair (Kd.heap_int .i64) (Kd.heap_slice 78 k78_heap))))))
theorem k75_open {w : World} {x : S75} {cs : List Value} (h : k75.K w x cs) : ∃ A5 c5, cs = [.bool x.f0, .bool x.f1, .int .i64 x.f2, .int .i64 x.f3, .int .i64 x.f4, .slice A5 x.f5.length c5] ∧ x.f5.length ≤ c5 ∧ k78.C w A5 x.f5.length x.f5 := by
 obtain ⟨_, _, rfl, rfl, ⟨_, _, rfl, rfl, ⟨_, _, rfl, rfl, ⟨_, _, rfl, rfl, ⟨_, _, rfl, rfl, ⟨A5, c5, rfl, l5, g5⟩⟩⟩⟩⟩⟩ := h
 exact ⟨A5, c5, rfl, l5, g5⟩
theorem k75_mk (w : World) (x : S75) {A5 : Option Addr} {c5 : Nat} (l5 : x.f5.length ≤ c5) (g5 : k78.C w A5 x.f5.length x.f5) : k75.K w x [.bool x.f0, .bool x.f1, .int .i64 x.f2, .int .i64 x.f3, .int .i64 x.f4, .slice A5 x.f5.length c5] := ⟨[.bool x.f0], [.bool x.f1, .int .i64 x.f2, .int .i64 x.f3, .int .i64 x.f4, .slice A5 x.f5.length c5], rfl, rfl, ⟨[.bool x.f1], [.int .i64 x.f2, .int .i64 x.f3, .int .i64 x.f4, .slice A5 x.f5.length c5], rfl, rfl, ⟨[.int .i64 x.f2], [.int .i64 x.f3, .int .i64 x.f4, .slice A5 x.f5.length c5], rfl, rfl, ⟨[.int .i64 x.f3], [.int .i64 x.f4, .slice A5 x.f5.length c5], rfl, rfl, ⟨[.int .i64 x.f4], [.slice A5 x.f5.length c5], rfl, rfl, ⟨A5, c5, rfl, l5, g5⟩⟩⟩⟩⟩⟩
theorem k75_openF {W : World} {ok : Nat → Prop} {x : S75} {cs : List Value} (h : Kd.FK k75 W ok x cs) : ∃ A5 c5, cs = [.bool x.f0, .bool x.f1, .int .i64 x.f2, .int .i64 x.f3, .int .i64 x.f4, .slice A5 x.f5.length c5] ∧ x.f5.length ≤ c5 ∧ Kd.F k78 W ok A5 x.f5.length x.f5 := by
 obtain ⟨A5, c5, rfl, l5, _⟩ := k75_open (Kd.FK_now h)
 exact ⟨A5, c5, rfl, l5, (fun W' hW => by obtain ⟨A5_, c5_, he, l5_, g5_⟩ := k75_open (h W' hW); injection (Option.some.inj (show some (Value.slice A5 x.f5.length c5) = some (Value.slice A5_ x.f5.length c5_) from congrArg (fun l => l[5]?) he)) with ha_ _ _; rw [ha_]; exact g5_)⟩
theorem k75_mkF (W : World) (ok : Nat → Prop) (x : S75) {A5 : Option Addr} {c5 : Nat} (l5 : x.f5.length ≤ c5) (g5 : Kd.F k78 W ok A5 x.f5.length x.f5) : Kd.FK k75 W ok x [.bool x.f0, .bool x.f1, .int .i64 x.f2, .int .i64 x.f3, .int .i64 x.f4, .slice A5 x.f5.length c5] := fun W2 hW => k75_mk W2 x l5 (g5 W2 hW)
def rd_T75 (xs : List S75) (i : Int) : S75 := xs.getD i.toNat z75
theorem at_T75 {w : World} {A : Option Addr} {n : Nat} {xs : List S75} (h : Kd.C k75 w A n xs) (i : Int) (h0 : 0 ≤ i) (h1 : i < n) : ∃ ad A5 c5, A = some ad ∧ w.cell? (ad.add (i.toNat * 6)) = some (.bool (rd_T75 xs i).f0) ∧ w.cell? ⟨(ad.add (i.toNat * 6)).block, (ad.add (i.toNat * 6)).off + 1, none⟩ = some (.bool (rd_T75 xs i).f1) ∧ w.cell? ⟨(ad.add (i.toNat * 6)).block, (ad.add (i.toNat * 6)).off + 2, none⟩ = some (.int .i64 (rd_T75 xs i).f2) ∧ w.cell? ⟨(ad.add (i.toNat * 6)).block, (ad.add (i.toNat * 6)).off + 3, none⟩ = some (.int .i64 (rd_T75 xs i).f3) ∧ w.cell? ⟨(ad.add (i.toNat * 6)).block, (ad.add (i.toNat * 6)).off + 4, none⟩ = some (.int .i64 (rd_T75 xs i).f4) ∧ w.cell? ⟨(ad.add (i.toNat * 6)).block, (ad.add (i.toNat * 6)).off + 5, none⟩ = some (.slice A5 (rd_T75 xs i).f5.length c5) ∧ (rd_T75 xs i).f5.length ≤ c5 ∧ k78.C w A5 (rd_T75 xs i).f5.length (rd_T75 xs i).f5 := by
 obtain ⟨ad, c, e, _, hK, hc0⟩ := Kd.C_get h z75 i h0 h1
 have hc : ∀ j u, c[j]? = some u → w.cell? (ad.add (i.toNat * 6 + j)) = some u := hc0
 obtain ⟨A5, c5, rfl, l5, g5⟩ := k75_open hK
 exact ⟨ad, A5, c5, e, hc 0 _ rfl, by rw [← add_field _ _ 1 (by omega)]; exact hc 1 _ rfl, by rw [← add_field _ _ 2 (by omega)]; exact hc 2 _ rfl, by rw [← add_field _ _ 3 (by omega)]; exact hc 3 _ rfl, by rw [← add_field _ _ 4 (by omega)]; exact hc 4 _ rfl, by rw [← add_field _ _ 5 (by omega)]; exact hc 5 _ rfl, l5, g5⟩

end Go.Proofs.Ytkihdohphddjaaa.G

namespace Go.Proofs.Ytkihdohphddjaaa.G
open Go.RowKit Go.Proofs.YtkihdohphddjaaaW.PrintWords Go.Proofs.YtkihdohphddjaaaW.PrintLast Go.Proofs.YtkihdohphddjaaaW.PrintMore
attribute [local go_sem] max2_int min2_int max_two min_two max_three min_three max_four min_four   -- for this text's walks alone
set_option linter.unusedVariables false
set_option linter.unusedSimpArgs false

def spec_l6In.f (a0 : Int) (a1 : Int) (a2 : Int) : Option (Bool) := if a0 ≥ a1 then (some (decide (a0 ≤ a2))) else (some false)
set_option maxHeartbeats 8000000 in
set_option maxRecDepth 100000 in
theorem spec_l6In.calls (a0 : Int) (a1 : Int) (a2 : Int) (r : Bool) (w : World) (h : spec_l6In.f a0 a1 a2 = some r) :
  Calls Try.prog 50 #[.int .i64 a0, .int .i64 a1, .int .i64 a2] w fun e w' => e = .returned (.bool r) ∧ Drawn0 w w' := by
 have H : (if a0 ≥ a1 then (some (decide (a0 ≤ a2))) else (some false)) = some r := h
 clear h
 by_cases c4 : a0 ≥ a1
 ·rw [if_pos c4] at H
  have c4b0 : decide (a1 ≤ a0) = true := decide_eq_true c4
  clear c4
  obtain rfl := Option.some.inj H
  go_enter Try.func50, Try.ntmps50
  go_wp2
  go_ret
  exact ⟨by first | rfl | (simp; done) | (simp [*]; done), by repeat (first | exact Drawn0.refl _ | apply Drawn0.step)⟩
 ·rw [if_neg c4] at H
  have c4b0 : decide (a1 ≤ a0) = false := decide_eq_false c4
  clear c4
  obtain rfl := Option.some.inj H
  go_enter Try.func50, Try.ntmps50
  go_wp2
  go_ret
  exact ⟨by first | rfl | (simp; done) | (simp [*]; done), by repeat (first | exact Drawn0.refl _ | apply Drawn0.step)⟩

end Go.Proofs.Ytkihdohphddjaaa.G

namespace Go.Proofs.Ytkihdohphddjaaa.G
open Go.RowKit Go.Proofs.YtkihdohphddjaaaW.PrintWords Go.Proofs.YtkihdohphddjaaaW.PrintLast Go.Proofs.YtkihdohphddjaaaW.PrintMore
attribute [local go_sem] max2_int min2_int max_two min_two max_three min_three max_four min_four   -- for this text's walks alone
set_option linter.unusedVariables false
set_option linter.unusedSimpArgs false

def spec_l1Ok.l0 : Nat → List Int → Int → Option (Bool)
 | 0, _, _ => none
 | k + 1, x0, x3 => if x3 < (x0.length : Int) then (if 0 ≤ x3 then ((spec_l6In.f (rd x0 x3) 0 255).bind fun t454 => (if t454 = true then (spec_l1Ok.l0 k x0 (wrap64 (x3 + 1))) else (some false))) else (none)) else (some true)
def spec_l1Ok.f (k : Nat) (l0 : List Int) : Option (Bool) := spec_l1Ok.l0 k l0 0
set_option maxHeartbeats 8000000 in
set_option maxRecDepth 100000 in
theorem spec_l1Ok.calls (k : Nat) (A0 : Option Addr) (c0 : Nat) (l0 : List Int) (r : Bool) (w : World) (hr0 : Kd.C (Kd.int .i64) w A0 l0.length l0) (hc0 : l0.length ≤ c0) (h : spec_l1Ok.f k l0 = some r) :
  Calls Try.prog 90 #[.slice A0 l0.length c0] w fun e w' => e = .returned (.bool r) ∧ Drawn0 w w' := by
 have HR0 := Aside0.mk hr0
 have HC0 := Aside0.mk hc0
 clear hr0 hc0
 have H : (spec_l1Ok.l0 k l0 0) = some r := h
 clear h
 have H' := Aside0.mk H
 clear H
 go_enter Try.func90, Try.ntmps90
 go_wp2
 go_loopg [3] k (fun kq v3 w' => ∃ (x3_1 : Int), v3 = .int .i64 x3_1 ∧ Aside0 (spec_l1Ok.l0 kq l0 x3_1 = some r) ∧ Aside0 (kq ≤ k) ∧ Drawn0 w w')
 case atStart => exact ⟨(0), tr, H', ⟨Nat.le_refl _⟩, by repeat (first | exact Drawn0.refl _ | apply Drawn0.step)⟩
 case round =>
  clear H'
  obtain ⟨x3_1, rfl, HA, HK1, ⟨m1, rfl⟩⟩ := hrel
  cases gk with
  | zero => exact absurd HA.out (by simp [spec_l1Ok.l0])
  | succ k1 =>
   have H := HA.out
   clear HA
   simp only [spec_l1Ok.l0] at H
   by_cases c2 : x3_1 < (l0.length : Int)
   ·rw [if_pos c2] at H
    have c2b0 : decide (x3_1 < (l0.length : Int)) = true := decide_eq_true c2
    clear c2
    by_cases c3 : 0 ≤ x3_1
    ·rw [if_pos c3] at H
     have c3b0 : decide (0 ≤ x3_1) = true := decide_eq_true c3
     clear c3
     replace H := tbe H
     obtain ⟨t454, A4, H⟩ := H
     by_cases c5 : t454 = true
     ·subst c5
      rw [if_pos rfl] at H
      have H' := Aside0.mk H
      clear H
      have p453 : 0 ≤ (x3_1 : Int) := td
      have q453 : x3_1 < (l0.length : Int) := td
      obtain ⟨ad453, e453, hx453_0⟩ := Kd.at_int HR0.out x3_1 p453 q453
      cases e453
      replace p453 := eq_true p453
      replace q453 := eq_true q453
      go_wp2_with (first | ((with_reducible refine gate_callee (f := 50) rfl ?_); refine goesL_ (some 14) rfl rfl Try.func50 (by kernel_rfl) rfl #[.int .i64 (rd l0 x3_1), .int .i64 0, .int .i64 255] rfl tq ?_; (with_reducible refine (spec_l6In.calls (rd l0 x3_1) 0 255 true _ A4.out).mono ?_); rintro e w' ⟨rfl, ⟨nd, rfl⟩⟩; refine ⟨_, rfl, ?_⟩))
      go_roundg k1
      case measure => have := HK1.out; omega
      case rel => exact ⟨(wrap64 (x3_1 + 1)), tr, H', ⟨by have := HK1.out; omega⟩, by repeat (first | exact Drawn0.refl _ | apply Drawn0.step)⟩
     ·replace c5 := Bool.eq_false_iff.mpr c5
      subst c5
      rw [if_neg (show ¬ (false = true) by decide)] at H
      obtain rfl := Option.some.inj H
      have p453 : 0 ≤ (x3_1 : Int) := td
      have q453 : x3_1 < (l0.length : Int) := td
      obtain ⟨ad453, e453, hx453_0⟩ := Kd.at_int HR0.out x3_1 p453 q453
      cases e453
      replace p453 := eq_true p453
      replace q453 := eq_true q453
      go_wp2_with (first | ((with_reducible refine gate_callee (f := 50) rfl ?_); refine goesL_ (some 14) rfl rfl Try.func50 (by kernel_rfl) rfl #[.int .i64 (rd l0 x3_1), .int .i64 0, .int .i64 255] rfl tq ?_; (with_reducible refine (spec_l6In.calls (rd l0 x3_1) 0 255 false _ A4.out).mono ?_); rintro e w' ⟨rfl, ⟨nd, rfl⟩⟩; refine ⟨_, rfl, ?_⟩))
      go_ret
      exact ⟨by first | rfl | (simp; done) | (simp [*]; done), by repeat (first | exact Drawn0.refl _ | apply Drawn0.step)⟩
    ·rw [if_neg c3] at H
     exact absurd H (by simp)
   ·rw [if_neg c2] at H
    have c2b0 : decide (x3_1 < (l0.length : Int)) = false := decide_eq_false c2
    clear c2
    obtain rfl := Option.some.inj H
    go_wp2
    go_ret
    exact ⟨by first | rfl | (simp; done) | (simp [*]; done), by repeat (first | exact Drawn0.refl _ | apply Drawn0.step)⟩

def spec_l3Part.f (k : Nat) (a0 : Bool) (l1 : List Int) : Option (Bool) := if a0 = true then ((spec_l1Ok.f k l1).bind fun t455 => (if t455 = true then (some (decide ((l1.length : Int) ≤ 12))) else (some false))) else (if (l1.length : Int) = 0 then ((spec_l1Ok.f k l1).bind fun t456 => (if t456 = true then (some (decide ((l1.length : Int) ≤ 12))) else (some false))) else (some false))
set_option maxHeartbeats 8000000 in
set_option maxRecDepth 100000 in
theorem spec_l3Part.calls (k : Nat) (a0 : Bool) (A1 : Option Addr) (c1 : Nat) (l1 : List Int) (r : Bool) (w : World) (hr1 : Kd.C (Kd.int .i64) w A1 l1.length l1) (hc1 : l1.length ≤ c1) (h : spec_l3Part.f k a0 l1 = some r) :
  Calls Try.prog 88 #[.bool a0, .slice A1 l1.length c1] w fun e w' => e = .returned (.bool r) ∧ Drawn0 w w' := by
 have HR1 := Aside0.mk hr1
 have HC1 := Aside0.mk hc1
 clear hr1 hc1
 have H : (if a0 = true then ((spec_l1Ok.f k l1).bind fun t455 => (if t455 = true then (some (decide ((l1.length : Int) ≤ 12))) else (some false))) else (if (l1.length : Int) = 0 then ((spec_l1Ok.f k l1).bind fun t456 => (if t456 = true then (some (decide ((l1.length : Int) ≤ 12))) else (some false))) else (some false))) = some r := h
 clear h
 by_cases c3 : a0 = true
 ·subst c3
  rw [if_pos rfl] at H
  replace H := tbe H
  obtain ⟨t455, A4, H⟩ := H
  by_cases c5 : t455 = true
  ·subst c5
   rw [if_pos rfl] at H
   obtain rfl := Option.some.inj H
   go_enter Try.func88, Try.ntmps88
   go_wp2_with (first | (go_at_call 90; (with_reducible refine (spec_l1Ok.calls k _ _ l1 true _ ?side1 ?side2 A4.out).mono ?_); (case side1 => exact tC HR1.out); (case side2 => exact HC1.out); rintro e w' ⟨rfl, ⟨nd, rfl⟩⟩))
   go_ret
   exact ⟨by first | rfl | (simp; done) | (simp [*]; done), by repeat (first | exact Drawn0.refl _ | apply Drawn0.step)⟩
  ·replace c5 := Bool.eq_false_iff.mpr c5
   subst c5
   rw [if_neg (show ¬ (false = true) by decide)] at H
   obtain rfl := Option.some.inj H
   go_enter Try.func88, Try.ntmps88
   go_wp2_with (first | (go_at_call 90; (with_reducible refine (spec_l1Ok.calls k _ _ l1 false _ ?side1 ?side2 A4.out).mono ?_); (case side1 => exact tC HR1.out); (case side2 => exact HC1.out); rintro e w' ⟨rfl, ⟨nd, rfl⟩⟩))
   go_ret
   exact ⟨by first | rfl | (simp; done) | (simp [*]; done), by repeat (first | exact Drawn0.refl _ | apply Drawn0.step)⟩
 ·replace c3 := Bool.eq_false_iff.mpr c3
  subst c3
  rw [if_neg (show ¬ (false = true) by decide)] at H
  by_cases c6 : (l1.length : Int) = 0
  ·rw [if_pos c6] at H
   have c6b0 : ((l1.length : Int) == 0) = true := beq_iff_eq.mpr c6
   have c6b1 : ((l1.length : Int) != 0) = false := bne_eq_false_iff_eq.mpr c6
   clear c6
   replace H := tbe H
   obtain ⟨t456, A7, H⟩ := H
   by_cases c8 : t456 = true
   ·subst c8
    rw [if_pos rfl] at H
    obtain rfl := Option.some.inj H
    go_enter Try.func88, Try.ntmps88
    go_wp2_with (first | (go_at_call 90; (with_reducible refine (spec_l1Ok.calls k _ _ l1 true _ ?side1 ?side2 A7.out).mono ?_); (case side1 => exact tC HR1.out); (case side2 => exact HC1.out); rintro e w' ⟨rfl, ⟨nd, rfl⟩⟩))
    go_ret
    exact ⟨by first | rfl | (simp; done) | (simp [*]; done), by repeat (first | exact Drawn0.refl _ | apply Drawn0.step)⟩
   ·replace c8 := Bool.eq_false_iff.mpr c8
    subst c8
    rw [if_neg (show ¬ (false = true) by decide)] at H
    obtain rfl := Option.some.inj H
    go_enter Try.func88, Try.ntmps88
    go_wp2_with (first | (go_at_call 90; (with_reducible refine (spec_l1Ok.calls k _ _ l1 false _ ?side1 ?side2 A7.out).mono ?_); (case side1 => exact tC HR1.out); (case side2 => exact HC1.out); rintro e w' ⟨rfl, ⟨nd, rfl⟩⟩))
    go_ret
    exact ⟨by first | rfl | (simp; done) | (simp [*]; done), by repeat (first | exact Drawn0.refl _ | apply Drawn0.step)⟩
  ·rw [if_neg c6] at H
   have c6b0 : ((l1.length : Int) == 0) = false := beq_eq_false_iff_ne.mpr c6
   have c6b1 : ((l1.length : Int) != 0) = true := bne_iff_ne.mpr c6
   have c6b2 : ¬ (l1 = []) := fun h_ => c6 (by rw [h_]; rfl)
   obtain rfl := Option.some.inj H
   go_enter Try.func88, Try.ntmps88
   go_wp2
   go_ret
   exact ⟨by first | rfl | (simp; done) | (simp [*]; done), by repeat (first | exact Drawn0.refl _ | apply Drawn0.step)⟩

def spec_RecordValid.f (k : Nat) (a0_0 : Int) (a0_1 : Int) (a0_2 : Bool) (l0_3 : List Int) (a0_4 : Bool) (l0_5 : List Int) : Option (Bool) := (spec_l6In.f a0_0 0 99999).bind fun t458 => (if t458 = true then ((spec_l6In.f a0_1 0 99999).bind fun t459 => (if t459 = true then ((spec_l3Part.f k a0_2 l0_3).bind fun t460 => (if t460 = true then ((spec_l3Part.f k a0_4 l0_5).bind fun t461 => (some t461)) else (some false))) else (some false))) else (some false))
set_option maxHeartbeats 8000000 in
set_option maxRecDepth 100000 in
theorem spec_RecordValid.calls (k : Nat) (a0_0 : Int) (a0_1 : Int) (a0_2 : Bool) (A0_3 : Option Addr) (c0_3 : Nat) (l0_3 : List Int) (a0_4 : Bool) (A0_5 : Option Addr) (c0_5 : Nat) (l0_5 : List Int) (r : Bool) (w : World) (hr0_3 : Kd.C (Kd.int .i64) w A0_3 l0_3.length l0_3) (hc0_3 : l0_3.length ≤ c0_3) (hr0_5 : Kd.C (Kd.int .i64) w A0_5 l0_5.length l0_5) (hc0_5 : l0_5.length ≤ c0_5) (h : spec_RecordValid.f k a0_0 a0_1 a0_2 l0_3 a0_4 l0_5 = some r) :
  Calls Try.prog 77 #[.agg #[.int .i64 a0_0, .int .i64 a0_1, .bool a0_2, .slice A0_3 l0_3.length c0_3, .bool a0_4, .slice A0_5 l0_5.length c0_5]] w fun e w' => e = .returned (.bool r) ∧ Below w.heap.size w w' := by
 have hu78 := Try.underlying78
 have HR0_3 := Aside0.mk hr0_3
 have HC0_3 := Aside0.mk hc0_3
 clear hr0_3 hc0_3
 have HR0_5 := Aside0.mk hr0_5
 have HC0_5 := Aside0.mk hc0_5
 clear hr0_5 hc0_5
 have HB := Aside0.mk (Below.refl w.heap.size w)
 have H : ((spec_l6In.f a0_0 0 99999).bind fun t458 => (if t458 = true then ((spec_l6In.f a0_1 0 99999).bind fun t459 => (if t459 = true then ((spec_l3Part.f k a0_2 l0_3).bind fun t460 => (if t460 = true then ((spec_l3Part.f k a0_4 l0_5).bind fun t461 => (some t461)) else (some false))) else (some false))) else (some false))) = some r := h
 clear h
 replace H := tbe H
 obtain ⟨t458, A2, H⟩ := H
 by_cases c3 : t458 = true
 ·subst c3
  rw [if_pos rfl] at H
  replace H := tbe H
  obtain ⟨t459, A4, H⟩ := H
  by_cases c5 : t459 = true
  ·subst c5
   rw [if_pos rfl] at H
   replace H := tbe H
   obtain ⟨t460, A6, H⟩ := H
   by_cases c7 : t460 = true
   ·subst c7
    rw [if_pos rfl] at H
    replace H := tbe H
    obtain ⟨t461, A8, H⟩ := H
    obtain rfl := Option.some.inj H
    go_enter Try.func77, Try.ntmps77
    go_wp2_with (first | ((with_reducible refine gate_dst (N := 1) rfl ?_); refine box_event ?hg (N := 1) ?hd (cs := #[.int .i64 a0_0, .int .i64 a0_1, .bool a0_2, .slice A0_3 l0_3.length c0_3, .bool a0_4, .slice A0_5 l0_5.length c0_5]) (t := 78) ?hr ?_; (case hd => rfl); (case hg => rfl); (case hr => first | (go_simp; done) | (go_simp; rfl)); intro gb457 hg w9 hbox hb; have BK457 := Aside0.mk (hbox); have GW457 := tge HB hg; have GE457 := tge HB hg; replace HB := tBs HB hb; clear hb hbox hg; obtain ⟨hcz10_0, hcz10_1, hcz10_2, hcz10_3, hcz10_4, hcz10_5, hfz10_0, hfz10_1, hfz10_2, hfz10_3, hfz10_4, hfz10_5⟩ := cells6 BK457.out) | ((with_reducible refine gate_callee (f := 50) rfl ?_); refine goesL_ (some 5) rfl rfl Try.func50 (by kernel_rfl) rfl #[.int .i64 a0_0, .int .i64 0, .int .i64 99999] rfl tq ?_; (with_reducible refine (spec_l6In.calls a0_0 0 99999 true _ A2.out).mono ?_); rintro e w' ⟨rfl, ⟨nd, rfl⟩⟩; refine ⟨_, rfl, ?_⟩) | (go_at_call 50; (with_reducible refine (spec_l6In.calls a0_1 0 99999 true _ A4.out).mono ?_); rintro e w' ⟨rfl, ⟨nd, rfl⟩⟩) | (go_at_call 88; (with_reducible refine (spec_l3Part.calls k a0_2 _ _ l0_3 true _ ?side1 ?side2 A6.out).mono ?_); (case side1 => exact tC (Kd.C_below HR0_3.out zb)); (case side2 => exact HC0_3.out); rintro e w' ⟨rfl, ⟨nd, rfl⟩⟩) | (go_at_call 88; (with_reducible refine (spec_l3Part.calls k a0_4 _ _ l0_5 t461 _ ?side1 ?side2 A8.out).mono ?_); (case side1 => exact tC (Kd.C_below HR0_5.out zb)); (case side2 => exact HC0_5.out); rintro e w' ⟨rfl, ⟨nd, rfl⟩⟩))
    go_ret
    exact ⟨by first | rfl | (simp [errW_none, errW_some] <;> rfl) | (simp [*, errW_none, errW_some] <;> rfl), zb⟩
   ·replace c7 := Bool.eq_false_iff.mpr c7
    subst c7
    rw [if_neg (show ¬ (false = true) by decide)] at H
    obtain rfl := Option.some.inj H
    go_enter Try.func77, Try.ntmps77
    go_wp2_with (first | ((with_reducible refine gate_dst (N := 1) rfl ?_); refine box_event ?hg (N := 1) ?hd (cs := #[.int .i64 a0_0, .int .i64 a0_1, .bool a0_2, .slice A0_3 l0_3.length c0_3, .bool a0_4, .slice A0_5 l0_5.length c0_5]) (t := 78) ?hr ?_; (case hd => rfl); (case hg => rfl); (case hr => first | (go_simp; done) | (go_simp; rfl)); intro gb457 hg w11 hbox hb; have BK457 := Aside0.mk (hbox); have GW457 := tge HB hg; have GE457 := tge HB hg; replace HB := tBs HB hb; clear hb hbox hg; obtain ⟨hcz12_0, hcz12_1, hcz12_2, hcz12_3, hcz12_4, hcz12_5, hfz12_0, hfz12_1, hfz12_2, hfz12_3, hfz12_4, hfz12_5⟩ := cells6 BK457.out) | ((with_reducible refine gate_callee (f := 50) rfl ?_); refine goesL_ (some 5) rfl rfl Try.func50 (by kernel_rfl) rfl #[.int .i64 a0_0, .int .i64 0, .int .i64 99999] rfl tq ?_; (with_reducible refine (spec_l6In.calls a0_0 0 99999 true _ A2.out).mono ?_); rintro e w' ⟨rfl, ⟨nd, rfl⟩⟩; refine ⟨_, rfl, ?_⟩) | (go_at_call 50; (with_reducible refine (spec_l6In.calls a0_1 0 99999 true _ A4.out).mono ?_); rintro e w' ⟨rfl, ⟨nd, rfl⟩⟩) | (go_at_call 88; (with_reducible refine (spec_l3Part.calls k a0_2 _ _ l0_3 false _ ?side1 ?side2 A6.out).mono ?_); (case side1 => exact tC (Kd.C_below HR0_3.out zb)); (case side2 => exact HC0_3.out); rintro e w' ⟨rfl, ⟨nd, rfl⟩⟩))
    go_ret
    exact ⟨by first | rfl | (simp [errW_none, errW_some] <;> rfl) | (simp [*, errW_none, errW_some] <;> rfl), zb⟩
  ·replace c5 := Bool.eq_false_iff.mpr c5
   subst c5
   rw [if_neg (show ¬ (false = true) by decide)] at H
   obtain rfl := Option.some.inj H
   go_enter Try.func77, Try.ntmps77
   go_wp2_with (first | ((with_reducible refine gate_dst (N := 1) rfl ?_); refine box_event ?hg (N := 1) ?hd (cs := #[.int .i64 a0_0, .int .i64 a0_1, .bool a0_2, .slice A0_3 l0_3.length c0_3, .bool a0_4, .slice A0_5 l0_5.length c0_5]) (t := 78) ?hr ?_; (case hd => rfl); (case hg => rfl); (case hr => first | (go_simp; done) | (go_simp; rfl)); intro gb457 hg w13 hbox hb; have BK457 := Aside0.mk (hbox); have GW457 := tge HB hg; have GE457 := tge HB hg; replace HB := tBs HB hb; clear hb hbox hg; obtain ⟨hcz14_0, hcz14_1, hcz14_2, hcz14_3, hcz14_4, hcz14_5, hfz14_0, hfz14_1, hfz14_2, hfz14_3, hfz14_4, hfz14_5⟩ := cells6 BK457.out) | ((with_reducible refine gate_callee (f := 50) rfl ?_); refine goesL_ (some 5) rfl rfl Try.func50 (by kernel_rfl) rfl #[.int .i64 a0_0, .int .i64 0, .int .i64 99999] rfl tq ?_; (with_reducible refine (spec_l6In.calls a0_0 0 99999 true _ A2.out).mono ?_); rintro e w' ⟨rfl, ⟨nd, rfl⟩⟩; refine ⟨_, rfl, ?_⟩) | (go_at_call 50; (with_reducible refine (spec_l6In.calls a0_1 0 99999 false _ A4.out).mono ?_); rintro e w' ⟨rfl, ⟨nd, rfl⟩⟩))
   go_ret
   exact ⟨by first | rfl | (simp [errW_none, errW_some] <;> rfl) | (simp [*, errW_none, errW_some] <;> rfl), zb⟩
 ·replace c3 := Bool.eq_false_iff.mpr c3
  subst c3
  rw [if_neg (show ¬ (false = true) by decide)] at H
  obtain rfl := Option.some.inj H
  go_enter Try.func77, Try.ntmps77
  go_wp2_with (first | ((with_reducible refine gate_dst (N := 1) rfl ?_); refine box_event ?hg (N := 1) ?hd (cs := #[.int .i64 a0_0, .int .i64 a0_1, .bool a0_2, .slice A0_3 l0_3.length c0_3, .bool a0_4, .slice A0_5 l0_5.length c0_5]) (t := 78) ?hr ?_; (case hd => rfl); (case hg => rfl); (case hr => first | (go_simp; done) | (go_simp; rfl)); intro gb457 hg w15 hbox hb; have BK457 := Aside0.mk (hbox); have GW457 := tge HB hg; have GE457 := tge HB hg; replace HB := tBs HB hb; clear hb hbox hg; obtain ⟨hcz16_0, hcz16_1, hcz16_2, hcz16_3, hcz16_4, hcz16_5, hfz16_0, hfz16_1, hfz16_2, hfz16_3, hfz16_4, hfz16_5⟩ := cells6 BK457.out) | ((with_reducible refine gate_callee (f := 50) rfl ?_); refine goesL_ (some 5) rfl rfl Try.func50 (by kernel_rfl) rfl #[.int .i64 a0_0, .int .i64 0, .int .i64 99999] rfl tq ?_; (with_reducible refine (spec_l6In.calls a0_0 0 99999 false _ A2.out).mono ?_); rintro e w' ⟨rfl, ⟨nd, rfl⟩⟩; refine ⟨_, rfl, ?_⟩))
  go_ret
  exact ⟨by first | rfl | (simp [errW_none, errW_some] <;> rfl) | (simp [*, errW_none, errW_some] <;> rfl), zb⟩

end Go.Proofs.Ytkihdohphddjaaa.G

namespace Go.Proofs.Ytkihdohphddjaaa.G
open Go.RowKit Go.Proofs.YtkihdohphddjaaaW.PrintWords Go.Proofs.YtkihdohphddjaaaW.PrintLast Go.Proofs.YtkihdohphddjaaaW.PrintMore
attribute [local go_sem] max2_int min2_int max_two min_two max_three min_three max_four min_four   -- for this text's walks alone
set_option linter.unusedVariables false
set_option linter.unusedSimpArgs false

def impl_within.f (a0 : Int) (a1 : Int) (a2 : Int) : Option (Bool) := if a0 ≥ a1 then (some (decide (a0 ≤ a2))) else (some false)
set_option maxHeartbeats 8000000 in
set_option maxRecDepth 100000 in
theorem impl_within.calls (a0 : Int) (a1 : Int) (a2 : Int) (r : Bool) (w : World) (h : impl_within.f a0 a1 a2 = some r) :
  Calls Try.prog 43 #[.int .i64 a0, .int .i64 a1, .int .i64 a2] w fun e w' => e = .returned (.bool r) ∧ Drawn0 w w' := by
 have H : (if a0 ≥ a1 then (some (decide (a0 ≤ a2))) else (some false)) = some r := h
 clear h
 by_cases c4 : a0 ≥ a1
 ·rw [if_pos c4] at H
  have c4b0 : decide (a1 ≤ a0) = true := decide_eq_true c4
  clear c4
  obtain rfl := Option.some.inj H
  go_enter Try.func43, Try.ntmps43
  go_wp2
  go_ret
  exact ⟨by first | rfl | (simp; done) | (simp [*]; done), by repeat (first | exact Drawn0.refl _ | apply Drawn0.step)⟩
 ·rw [if_neg c4] at H
  have c4b0 : decide (a1 ≤ a0) = false := decide_eq_false c4
  clear c4
  obtain rfl := Option.some.inj H
  go_enter Try.func43, Try.ntmps43
  go_wp2
  go_ret
  exact ⟨by first | rfl | (simp; done) | (simp [*]; done), by repeat (first | exact Drawn0.refl _ | apply Drawn0.step)⟩

end Go.Proofs.Ytkihdohphddjaaa.G

namespace Go.Proofs.Ytkihdohphddjaaa.G
open Go.RowKit Go.Proofs.YtkihdohphddjaaaW.PrintWords Go.Proofs.YtkihdohphddjaaaW.PrintLast Go.Proofs.YtkihdohphddjaaaW.PrintMore
attribute [local go_sem] max2_int min2_int max_two min_two max_three min_three max_four min_four   -- for this text's walks alone
set_option linter.unusedVariables false
set_option linter.unusedSimpArgs false

def impl_Batch_last.f (a0_0 : Bool) (a0_1 : Bool) (a0_2 : Int) (a0_3 : Int) (a0_4 : Int) (l0_5 : List (S78)) : Option (Int) := if 0 ≤ (wrap64 ((l0_5.length : Int) - 1)) then (if (wrap64 ((l0_5.length : Int) - 1)) < (l0_5.length : Int) then (some ((rd_T78 l0_5 (wrap64 ((l0_5.length : Int) - 1))).f0)) else (none)) else (none)
set_option maxHeartbeats 8000000 in
set_option maxRecDepth 100000 in
theorem impl_Batch_last.calls (a0_0 : Bool) (a0_1 : Bool) (a0_2 : Int) (a0_3 : Int) (a0_4 : Int) (A0_5 : Option Addr) (c0_5 : Nat) (l0_5 : List (S78)) (r : Int) (w : World) (hr0_5 : Kd.C k78 w A0_5 l0_5.length l0_5) (hc0_5 : l0_5.length ≤ c0_5) (h : impl_Batch_last.f a0_0 a0_1 a0_2 a0_3 a0_4 l0_5 = some r) :
  Calls Try.prog 41 #[.agg #[.bool a0_0, .bool a0_1, .int .i64 a0_2, .int .i64 a0_3, .int .i64 a0_4, .slice A0_5 l0_5.length c0_5]] w fun e w' => e = .returned (.int .i64 r) ∧ Below w.heap.size w w' := by
 have hu75 := Try.underlying75
 have HR0_5 := Aside0.mk hr0_5
 have HC0_5 := Aside0.mk hc0_5
 clear hr0_5 hc0_5
 have HB := Aside0.mk (Below.refl w.heap.size w)
 have H : (if 0 ≤ (wrap64 ((l0_5.length : Int) - 1)) then (if (wrap64 ((l0_5.length : Int) - 1)) < (l0_5.length : Int) then (some ((rd_T78 l0_5 (wrap64 ((l0_5.length : Int) - 1))).f0)) else (none)) else (none)) = some r := h
 clear h
 obtain ⟨ji2, hji2⟩ : ∃ j_ : Int, (wrap64 ((l0_5.length : Int) - 1)) = j_ := ⟨_, rfl⟩
 replace H : (if 0 ≤ (ji2) then (if (ji2) < (l0_5.length : Int) then (some ((rd_T78 l0_5 (ji2)).f0)) else (none)) else (none)) = some r := by first | (rw [hji2] at H; exact H) | (simp only [hji2] at H ⊢; exact H)
 have hji2w : (IntKind.i64.wrap ((l0_5.length : Int) - 1)) = ji2 := (i64_w _).trans hji2
 by_cases c3 : 0 ≤ (ji2)
 ·rw [if_pos c3] at H
  have c3b0 : decide (0 ≤ (ji2)) = true := decide_eq_true c3
  clear c3
  by_cases c4 : (ji2) < (l0_5.length : Int)
  ·rw [if_pos c4] at H
   have c4b0 : decide ((ji2) < (l0_5.length : Int)) = true := decide_eq_true c4
   clear c4
   obtain rfl := Option.some.inj H
   go_enter Try.func41, Try.ntmps41
   go_wp2_with (first | ((with_reducible refine gate_dst (N := 1) rfl ?_); refine box_event ?hg (N := 1) ?hd (cs := #[.bool a0_0, .bool a0_1, .int .i64 a0_2, .int .i64 a0_3, .int .i64 a0_4, .slice A0_5 l0_5.length c0_5]) (t := 75) ?hr ?_; (case hd => rfl); (case hg => rfl); (case hr => first | (go_simp; done) | (go_simp; rfl)); intro gb526 hg w5 hbox hb; have BK526 := Aside0.mk (hbox); have GW526 := tge HB hg; have GE526 := tge HB hg; replace HB := tBs HB hb; clear hb hbox hg; obtain ⟨hcz6_0, hcz6_1, hcz6_2, hcz6_3, hcz6_4, hcz6_5, hfz6_0, hfz6_1, hfz6_2, hfz6_3, hfz6_4, hfz6_5⟩ := cells6 BK526.out; have p527 : 0 ≤ ((ji2) : Int) := td; have q527 : (ji2) < (l0_5.length : Int) := td; obtain ⟨ad527, A527_3, c527_3, A527_5, c527_5, e527, hx527_0, hx527_1, hx527_2, hx527_3, hx527_4, hx527_5, hl527_3, hi527_3, hl527_5, hi527_5⟩ := at_T78 HR0_5.out (ji2) p527 q527; cases e527; replace hx527_0 := tcl HB hx527_0; replace hx527_1 := tcl HB hx527_1; replace hx527_2 := tcl HB hx527_2; replace hx527_3 := tcl HB hx527_3; replace hx527_4 := tcl HB hx527_4; replace hx527_5 := tcl HB hx527_5; have HR527_3 := Aside0.mk hi527_3; have HC527_3 := Aside0.mk hl527_3; clear hi527_3 hl527_3; have HR527_5 := Aside0.mk hi527_5; have HC527_5 := Aside0.mk hl527_5; clear hi527_5 hl527_5; replace p527 := eq_true p527; replace q527 := eq_true q527))
   go_ret
   exact ⟨by first | rfl | (simp [errW_none, errW_some] <;> rfl) | (simp only [← hji2]; first | rfl | (simp [errW_none, errW_some] <;> rfl)) | (simp [*, errW_none, errW_some] <;> rfl), zb⟩
  ·rw [if_neg c4] at H
   exact absurd H (by simp)
 ·rw [if_neg c3] at H
  exact absurd H (by simp)

def impl_idValid.f (a0 : Int) : Option (Bool) := (impl_within.f a0 0 254).bind fun t528 => (some t528)
set_option maxHeartbeats 8000000 in
set_option maxRecDepth 100000 in
theorem impl_idValid.calls (a0 : Int) (r : Bool) (w : World) (h : impl_idValid.f a0 = some r) :
  Calls Try.prog 65 #[.int .i64 a0] w fun e w' => e = .returned (.bool r) ∧ Drawn0 w w' := by
 have H : ((impl_within.f a0 0 254).bind fun t528 => (some t528)) = some r := h
 clear h
 replace H := tbe H
 obtain ⟨t528, A2, H⟩ := H
 obtain rfl := Option.some.inj H
 go_enter Try.func65, Try.ntmps65
 go_wp2_with (first | ((with_reducible refine gate_callee (f := 43) rfl ?_); refine goesL_ (some 4) rfl rfl Try.func43 (by kernel_rfl) rfl #[.int .i64 a0, .int .i64 0, .int .i64 254] rfl tq ?_; (with_reducible refine (impl_within.calls a0 0 254 t528 _ A2.out).mono ?_); rintro e w' ⟨rfl, ⟨nd, rfl⟩⟩; refine ⟨_, rfl, ?_⟩))
 go_ret
 exact ⟨by first | rfl | (simp; done) | (simp [*]; done), by repeat (first | exact Drawn0.refl _ | apply Drawn0.step)⟩

def impl_baseValid.f (a0 : Int) (a1 : Int) : Option (Bool) := (impl_within.f a0 0 99999).bind fun t529 => (if t529 = true then ((impl_within.f a1 0 99999).bind fun t530 => (some t530)) else (some false))
set_option maxHeartbeats 8000000 in
set_option maxRecDepth 100000 in
theorem impl_baseValid.calls (a0 : Int) (a1 : Int) (r : Bool) (w : World) (h : impl_baseValid.f a0 a1 = some r) :
  Calls Try.prog 78 #[.int .i64 a0, .int .i64 a1] w fun e w' => e = .returned (.bool r) ∧ Drawn0 w w' := by
 have H : ((impl_within.f a0 0 99999).bind fun t529 => (if t529 = true then ((impl_within.f a1 0 99999).bind fun t530 => (some t530)) else (some false))) = some r := h
 clear h
 replace H := tbe H
 obtain ⟨t529, A3, H⟩ := H
 by_cases c4 : t529 = true
 ·subst c4
  rw [if_pos rfl] at H
  replace H := tbe H
  obtain ⟨t530, A5, H⟩ := H
  obtain rfl := Option.some.inj H
  go_enter Try.func78, Try.ntmps78
  go_wp2_with (first | ((with_reducible refine gate_callee (f := 43) rfl ?_); refine goesL_ (some 6) rfl rfl Try.func43 (by kernel_rfl) rfl #[.int .i64 a0, .int .i64 0, .int .i64 99999] rfl tq ?_; (with_reducible refine (impl_within.calls a0 0 99999 true _ A3.out).mono ?_); rintro e w' ⟨rfl, ⟨nd, rfl⟩⟩; refine ⟨_, rfl, ?_⟩) | (go_at_call 43; (with_reducible refine (impl_within.calls a1 0 99999 t530 _ A5.out).mono ?_); rintro e w' ⟨rfl, ⟨nd, rfl⟩⟩))
  go_ret
  exact ⟨by first | rfl | (simp; done) | (simp [*]; done), by repeat (first | exact Drawn0.refl _ | apply Drawn0.step)⟩
 ·replace c4 := Bool.eq_false_iff.mpr c4
  subst c4
  rw [if_neg (show ¬ (false = true) by decide)] at H
  obtain rfl := Option.some.inj H
  go_enter Try.func78, Try.ntmps78
  go_wp2_with (first | ((with_reducible refine gate_callee (f := 43) rfl ?_); refine goesL_ (some 6) rfl rfl Try.func43 (by kernel_rfl) rfl #[.int .i64 a0, .int .i64 0, .int .i64 99999] rfl tq ?_; (with_reducible refine (impl_within.calls a0 0 99999 false _ A3.out).mono ?_); rintro e w' ⟨rfl, ⟨nd, rfl⟩⟩; refine ⟨_, rfl, ?_⟩))
  go_ret
  exact ⟨by first | rfl | (simp; done) | (simp [*]; done), by repeat (first | exact Drawn0.refl _ | apply Drawn0.step)⟩

def impl_isByte.f (a0 : Int) : Option (Bool) := if a0 ≥ 0 then (some (decide (a0 ≤ 255))) else (some false)
set_option maxHeartbeats 8000000 in
set_option maxRecDepth 100000 in
theorem impl_isByte.calls (a0 : Int) (r : Bool) (w : World) (h : impl_isByte.f a0 = some r) :
  Calls Try.prog 91 #[.int .i64 a0] w fun e w' => e = .returned (.bool r) ∧ Drawn0 w w' := by
 have H : (if a0 ≥ 0 then (some (decide (a0 ≤ 255))) else (some false)) = some r := h
 clear h
 by_cases c2 : a0 ≥ 0
 ·rw [if_pos c2] at H
  have c2b0 : decide (0 ≤ a0) = true := decide_eq_true c2
  clear c2
  obtain rfl := Option.some.inj H
  go_enter Try.func91, Try.ntmps91
  go_wp2
  go_ret
  exact ⟨by first | rfl | (simp; done) | (simp [*]; done), by repeat (first | exact Drawn0.refl _ | apply Drawn0.step)⟩
 ·rw [if_neg c2] at H
  have c2b0 : decide (0 ≤ a0) = false := decide_eq_false c2
  clear c2
  obtain rfl := Option.some.inj H
  go_enter Try.func91, Try.ntmps91
  go_wp2
  go_ret
  exact ⟨by first | rfl | (simp; done) | (simp [*]; done), by repeat (first | exact Drawn0.refl _ | apply Drawn0.step)⟩

def impl_allBytes.l0 : Nat → List Int → Int → Int → Option (Bool)
 | 0, _, _, _ => none
 | k + 1, x5, x6, x7 => if x7 < x6 then (if 0 ≤ x7 then (if x7 < (x5.length : Int) then ((impl_isByte.f (rd x5 x7)).bind fun t532 => (if t532 = true then (impl_allBytes.l0 k x5 x6 (wrap64 (x7 + 1))) else (some false))) else (none)) else (none)) else (some true)
def impl_allBytes.f (k : Nat) (l0 : List Int) : Option (Bool) := impl_allBytes.l0 k l0 (l0.length : Int) 0
set_option maxHeartbeats 8000000 in
set_option maxRecDepth 100000 in
theorem impl_allBytes.calls (k : Nat) (A0 : Option Addr) (c0 : Nat) (l0 : List Int) (r : Bool) (w : World) (hr0 : Kd.C (Kd.int .i64) w A0 l0.length l0) (hc0 : l0.length ≤ c0) (h : impl_allBytes.f k l0 = some r) :
  Calls Try.prog 89 #[.slice A0 l0.length c0] w fun e w' => e = .returned (.bool r) ∧ Drawn0 w w' := by
 have HR0 := Aside0.mk hr0
 have HC0 := Aside0.mk hc0
 clear hr0 hc0
 have H : (impl_allBytes.l0 k l0 (l0.length : Int) 0) = some r := h
 clear h
 have H' := Aside0.mk H
 clear H
 go_enter Try.func89, Try.ntmps89
 go_wp2
 go_loopg [7] k (fun kq v7 w' => ∃ (x7_1 : Int), v7 = .int .i64 x7_1 ∧ Aside0 (impl_allBytes.l0 kq l0 (l0.length : Int) x7_1 = some r) ∧ Aside0 (kq ≤ k) ∧ Drawn0 w w')
 case atStart => exact ⟨(0), tr, H', ⟨Nat.le_refl _⟩, by repeat (first | exact Drawn0.refl _ | apply Drawn0.step)⟩
 case round =>
  clear H'
  obtain ⟨x7_1, rfl, HA, HK1, ⟨m1, rfl⟩⟩ := hrel
  cases gk with
  | zero => exact absurd HA.out (by simp [impl_allBytes.l0])
  | succ k1 =>
   have H := HA.out
   clear HA
   simp only [impl_allBytes.l0] at H
   by_cases c2 : x7_1 < (l0.length : Int)
   ·rw [if_pos c2] at H
    have c2b0 : decide (x7_1 < (l0.length : Int)) = true := decide_eq_true c2
    clear c2
    by_cases c3 : 0 ≤ x7_1
    ·rw [if_pos c3] at H
     have c3b0 : decide (0 ≤ x7_1) = true := decide_eq_true c3
     clear c3
     by_cases c4 : x7_1 < (l0.length : Int)
     ·rw [if_pos c4] at H
      have c4b0 : decide (x7_1 < (l0.length : Int)) = true := decide_eq_true c4
      clear c4
      replace H := tbe H
      obtain ⟨t532, A5, H⟩ := H
      by_cases c6 : t532 = true
      ·subst c6
       rw [if_pos rfl] at H
       have H' := Aside0.mk H
       clear H
       have p531 : 0 ≤ (x7_1 : Int) := td
       have q531 : x7_1 < (l0.length : Int) := td
       obtain ⟨ad531, e531, hx531_0⟩ := Kd.at_int HR0.out x7_1 p531 q531
       cases e531
       replace p531 := eq_true p531
       replace q531 := eq_true q531
       go_wp2_with (first | ((with_reducible refine gate_callee (f := 91) rfl ?_); refine goesL_ (some 12) rfl rfl Try.func91 (by kernel_rfl) rfl #[.int .i64 (rd l0 x7_1)] rfl tq ?_; (with_reducible refine (impl_isByte.calls (rd l0 x7_1) true _ A5.out).mono ?_); rintro e w' ⟨rfl, ⟨nd, rfl⟩⟩; refine ⟨_, rfl, ?_⟩))
       go_roundg k1
       case measure => have := HK1.out; omega
       case rel => exact ⟨(wrap64 (x7_1 + 1)), tr, H', ⟨by have := HK1.out; omega⟩, by repeat (first | exact Drawn0.refl _ | apply Drawn0.step)⟩
      ·replace c6 := Bool.eq_false_iff.mpr c6
       subst c6
       rw [if_neg (show ¬ (false = true) by decide)] at H
       obtain rfl := Option.some.inj H
       have p531 : 0 ≤ (x7_1 : Int) := td
       have q531 : x7_1 < (l0.length : Int) := td
       obtain ⟨ad531, e531, hx531_0⟩ := Kd.at_int HR0.out x7_1 p531 q531
       cases e531
       replace p531 := eq_true p531
       replace q531 := eq_true q531
       go_wp2_with (first | ((with_reducible refine gate_callee (f := 91) rfl ?_); refine goesL_ (some 12) rfl rfl Try.func91 (by kernel_rfl) rfl #[.int .i64 (rd l0 x7_1)] rfl tq ?_; (with_reducible refine (impl_isByte.calls (rd l0 x7_1) false _ A5.out).mono ?_); rintro e w' ⟨rfl, ⟨nd, rfl⟩⟩; refine ⟨_, rfl, ?_⟩))
       go_ret
       exact ⟨by first | rfl | (simp; done) | (simp [*]; done), by repeat (first | exact Drawn0.refl _ | apply Drawn0.step)⟩
     ·rw [if_neg c4] at H
      exact absurd H (by simp)
    ·rw [if_neg c3] at H
     exact absurd H (by simp)
   ·rw [if_neg c2] at H
    have c2b0 : decide (x7_1 < (l0.length : Int)) = false := decide_eq_false c2
    clear c2
    obtain rfl := Option.some.inj H
    go_wp2
    go_ret
    exact ⟨by first | rfl | (simp; done) | (simp [*]; done), by repeat (first | exact Drawn0.refl _ | apply Drawn0.step)⟩

def impl_partValid.f (k : Nat) (a0 : Bool) (l1 : List Int) : Option (Bool) := if a0 = true then (if (l1.length : Int) ≤ 12 then ((impl_allBytes.f k l1).bind fun t533 => (some t533)) else (some false)) else (some ((l1.length : Int) == 0))
set_option maxHeartbeats 8000000 in
set_option maxRecDepth 100000 in
theorem impl_partValid.calls (k : Nat) (a0 : Bool) (A1 : Option Addr) (c1 : Nat) (l1 : List Int) (r : Bool) (w : World) (hr1 : Kd.C (Kd.int .i64) w A1 l1.length l1) (hc1 : l1.length ≤ c1) (h : impl_partValid.f k a0 l1 = some r) :
  Calls Try.prog 79 #[.bool a0, .slice A1 l1.length c1] w fun e w' => e = .returned (.bool r) ∧ Drawn0 w w' := by
 have HR1 := Aside0.mk hr1
 have HC1 := Aside0.mk hc1
 clear hr1 hc1
 have H : (if a0 = true then (if (l1.length : Int) ≤ 12 then ((impl_allBytes.f k l1).bind fun t533 => (some t533)) else (some false)) else (some ((l1.length : Int) == 0))) = some r := h
 clear h
 by_cases c3 : a0 = true
 ·subst c3
  rw [if_pos rfl] at H
  by_cases c4 : (l1.length : Int) ≤ 12
  ·rw [if_pos c4] at H
   have c4b0 : decide ((l1.length : Int) ≤ 12) = true := decide_eq_true c4
   have c4b1 : decide (l1.length ≤ 12) = true := decide_eq_true (by omega)
   clear c4
   replace H := tbe H
   obtain ⟨t533, A5, H⟩ := H
   obtain rfl := Option.some.inj H
   go_enter Try.func79, Try.ntmps79
   go_wp2_with (first | (go_at_call 89; (with_reducible refine (impl_allBytes.calls k _ _ l1 t533 _ ?side1 ?side2 A5.out).mono ?_); (case side1 => exact tC HR1.out); (case side2 => exact HC1.out); rintro e w' ⟨rfl, ⟨nd, rfl⟩⟩))
   go_ret
   exact ⟨by first | rfl | (simp; done) | (simp [*]; done), by repeat (first | exact Drawn0.refl _ | apply Drawn0.step)⟩
  ·rw [if_neg c4] at H
   have c4b0 : decide ((l1.length : Int) ≤ 12) = false := decide_eq_false c4
   have c4b1 : decide (l1.length ≤ 12) = false := decide_eq_false (by omega)
   clear c4
   obtain rfl := Option.some.inj H
   go_enter Try.func79, Try.ntmps79
   go_wp2
   go_ret
   exact ⟨by first | rfl | (simp; done) | (simp [*]; done), by repeat (first | exact Drawn0.refl _ | apply Drawn0.step)⟩
 ·replace c3 := Bool.eq_false_iff.mpr c3
  subst c3
  rw [if_neg (show ¬ (false = true) by decide)] at H
  obtain rfl := Option.some.inj H
  go_enter Try.func79, Try.ntmps79
  go_wp2
  go_ret
  exact ⟨by first | rfl | (simp; done) | (simp [*]; done), by repeat (first | exact Drawn0.refl _ | apply Drawn0.step)⟩

def impl_RecordValid.f (k : Nat) (a0_0 : Int) (a0_1 : Int) (a0_2 : Bool) (l0_3 : List Int) (a0_4 : Bool) (l0_5 : List Int) : Option (Bool) := (impl_baseValid.f a0_0 a0_1).bind fun t535 => (if t535 = true then ((impl_partValid.f k a0_2 l0_3).bind fun t536 => (if t536 = true then ((impl_partValid.f k a0_4 l0_5).bind fun t537 => (some t537)) else (some false))) else (some false))
set_option maxHeartbeats 8000000 in
set_option maxRecDepth 100000 in
theorem impl_RecordValid.calls (k : Nat) (a0_0 : Int) (a0_1 : Int) (a0_2 : Bool) (A0_3 : Option Addr) (c0_3 : Nat) (l0_3 : List Int) (a0_4 : Bool) (A0_5 : Option Addr) (c0_5 : Nat) (l0_5 : List Int) (r : Bool) (w : World) (hr0_3 : Kd.C (Kd.int .i64) w A0_3 l0_3.length l0_3) (hc0_3 : l0_3.length ≤ c0_3) (hr0_5 : Kd.C (Kd.int .i64) w A0_5 l0_5.length l0_5) (hc0_5 : l0_5.length ≤ c0_5) (h : impl_RecordValid.f k a0_0 a0_1 a0_2 l0_3 a0_4 l0_5 = some r) :
  Calls Try.prog 66 #[.agg #[.int .i64 a0_0, .int .i64 a0_1, .bool a0_2, .slice A0_3 l0_3.length c0_3, .bool a0_4, .slice A0_5 l0_5.length c0_5]] w fun e w' => e = .returned (.bool r) ∧ Below w.heap.size w w' := by
 have hu78 := Try.underlying78
 have HR0_3 := Aside0.mk hr0_3
 have HC0_3 := Aside0.mk hc0_3
 clear hr0_3 hc0_3
 have HR0_5 := Aside0.mk hr0_5
 have HC0_5 := Aside0.mk hc0_5
 clear hr0_5 hc0_5
 have HB := Aside0.mk (Below.refl w.heap.size w)
 have H : ((impl_baseValid.f a0_0 a0_1).bind fun t535 => (if t535 = true then ((impl_partValid.f k a0_2 l0_3).bind fun t536 => (if t536 = true then ((impl_partValid.f k a0_4 l0_5).bind fun t537 => (some t537)) else (some false))) else (some false))) = some r := h
 clear h
 replace H := tbe H
 obtain ⟨t535, A2, H⟩ := H
 by_cases c3 : t535 = true
 ·subst c3
  rw [if_pos rfl] at H
  replace H := tbe H
  obtain ⟨t536, A4, H⟩ := H
  by_cases c5 : t536 = true
  ·subst c5
   rw [if_pos rfl] at H
   replace H := tbe H
   obtain ⟨t537, A6, H⟩ := H
   obtain rfl := Option.some.inj H
   go_enter Try.func66, Try.ntmps66
   go_wp2_with (first | ((with_reducible refine gate_dst (N := 1) rfl ?_); refine box_event ?hg (N := 1) ?hd (cs := #[.int .i64 a0_0, .int .i64 a0_1, .bool a0_2, .slice A0_3 l0_3.length c0_3, .bool a0_4, .slice A0_5 l0_5.length c0_5]) (t := 78) ?hr ?_; (case hd => rfl); (case hg => rfl); (case hr => first | (go_simp; done) | (go_simp; rfl)); intro gb534 hg w7 hbox hb; have BK534 := Aside0.mk (hbox); have GW534 := tge HB hg; have GE534 := tge HB hg; replace HB := tBs HB hb; clear hb hbox hg; obtain ⟨hcz8_0, hcz8_1, hcz8_2, hcz8_3, hcz8_4, hcz8_5, hfz8_0, hfz8_1, hfz8_2, hfz8_3, hfz8_4, hfz8_5⟩ := cells6 BK534.out) | ((with_reducible refine gate_callee (f := 78) rfl ?_); refine goesL_ (some 7) rfl rfl Try.func78 (by kernel_rfl) rfl #[.int .i64 a0_0, .int .i64 a0_1] rfl tq ?_; (with_reducible refine (impl_baseValid.calls a0_0 a0_1 true _ A2.out).mono ?_); rintro e w' ⟨rfl, ⟨nd, rfl⟩⟩; refine ⟨_, rfl, ?_⟩) | (go_at_call 79; (with_reducible refine (impl_partValid.calls k a0_2 _ _ l0_3 true _ ?side1 ?side2 A4.out).mono ?_); (case side1 => exact tC (Kd.C_below HR0_3.out zb)); (case side2 => exact HC0_3.out); rintro e w' ⟨rfl, ⟨nd, rfl⟩⟩) | (go_at_call 79; (with_reducible refine (impl_partValid.calls k a0_4 _ _ l0_5 t537 _ ?side1 ?side2 A6.out).mono ?_); (case side1 => exact tC (Kd.C_below HR0_5.out zb)); (case side2 => exact HC0_5.out); rintro e w' ⟨rfl, ⟨nd, rfl⟩⟩))
   go_ret
   exact ⟨by first | rfl | (simp [errW_none, errW_some] <;> rfl) | (simp [*, errW_none, errW_some] <;> rfl), zb⟩
  ·replace c5 := Bool.eq_false_iff.mpr c5
   subst c5
   rw [if_neg (show ¬ (false = true) by decide)] at H
   obtain rfl := Option.some.inj H
   go_enter Try.func66, Try.ntmps66
   go_wp2_with (first | ((with_reducible refine gate_dst (N := 1) rfl ?_); refine box_event ?hg (N := 1) ?hd (cs := #[.int .i64 a0_0, .int .i64 a0_1, .bool a0_2, .slice A0_3 l0_3.length c0_3, .bool a0_4, .slice A0_5 l0_5.length c0_5]) (t := 78) ?hr ?_; (case hd => rfl); (case hg => rfl); (case hr => first | (go_simp; done) | (go_simp; rfl)); intro gb534 hg w9 hbox hb; have BK534 := Aside0.mk (hbox); have GW534 := tge HB hg; have GE534 := tge HB hg; replace HB := tBs HB hb; clear hb hbox hg; obtain ⟨hcz10_0, hcz10_1, hcz10_2, hcz10_3, hcz10_4, hcz10_5, hfz10_0, hfz10_1, hfz10_2, hfz10_3, hfz10_4, hfz10_5⟩ := cells6 BK534.out) | ((with_reducible refine gate_callee (f := 78) rfl ?_); refine goesL_ (some 7) rfl rfl Try.func78 (by kernel_rfl) rfl #[.int .i64 a0_0, .int .i64 a0_1] rfl tq ?_; (with_reducible refine (impl_baseValid.calls a0_0 a0_1 true _ A2.out).mono ?_); rintro e w' ⟨rfl, ⟨nd, rfl⟩⟩; refine ⟨_, rfl, ?_⟩) | (go_at_call 79; (with_reducible refine (impl_partValid.calls k a0_2 _ _ l0_3 false _ ?side1 ?side2 A4.out).mono ?_); (case side1 => exact tC (Kd.C_below HR0_3.out zb)); (case side2 => exact HC0_3.out); rintro e w' ⟨rfl, ⟨nd, rfl⟩⟩))
   go_ret
   exact ⟨by first | rfl | (simp [errW_none, errW_some] <;> rfl) | (simp [*, errW_none, errW_some] <;> rfl), zb⟩
 ·replace c3 := Bool.eq_false_iff.mpr c3
  subst c3
  rw [if_neg (show ¬ (false = true) by decide)] at H
  obtain rfl := Option.some.inj H
  go_enter Try.func66, Try.ntmps66
  go_wp2_with (first | ((with_reducible refine gate_dst (N := 1) rfl ?_); refine box_event ?hg (N := 1) ?hd (cs := #[.int .i64 a0_0, .int .i64 a0_1, .bool a0_2, .slice A0_3 l0_3.length c0_3, .bool a0_4, .slice A0_5 l0_5.length c0_5]) (t := 78) ?hr ?_; (case hd => rfl); (case hg => rfl); (case hr => first | (go_simp; done) | (go_simp; rfl)); intro gb534 hg w11 hbox hb; have BK534 := Aside0.mk (hbox); have GW534 := tge HB hg; have GE534 := tge HB hg; replace HB := tBs HB hb; clear hb hbox hg; obtain ⟨hcz12_0, hcz12_1, hcz12_2, hcz12_3, hcz12_4, hcz12_5, hfz12_0, hfz12_1, hfz12_2, hfz12_3, hfz12_4, hfz12_5⟩ := cells6 BK534.out) | ((with_reducible refine gate_callee (f := 78) rfl ?_); refine goesL_ (some 7) rfl rfl Try.func78 (by kernel_rfl) rfl #[.int .i64 a0_0, .int .i64 a0_1] rfl tq ?_; (with_reducible refine (impl_baseValid.calls a0_0 a0_1 false _ A2.out).mono ?_); rintro e w' ⟨rfl, ⟨nd, rfl⟩⟩; refine ⟨_, rfl, ?_⟩))
  go_ret
  exact ⟨by first | rfl | (simp [errW_none, errW_some] <;> rfl) | (simp [*, errW_none, errW_some] <;> rfl), zb⟩

end Go.Proofs.Ytkihdohphddjaaa.G

namespace Go.Proofs.Ytkihdohphddjaaa.Pu
open Go.RowKit Go.Proofs.YtkihdohphddjaaaW.PrintWords Go.Proofs.YtkihdohphddjaaaW.PrintLast Go.Proofs.Ytkihdohphddjaaa.G
set_option linter.unusedVariables false
set_option linter.unusedSimpArgs false
/-- A loop that asks each element, and stops at the first that says no. -/
theorem ev_all {α : Type} (l : List α) (hl : l.length ≤ 9223372036854775807) (L : Nat → Int → Option Bool) (F : Nat → Nat → Option Bool) (p : α → Bool) (last : Bool)
    (hend : ∀ k, L (k + 1) (l.length : Int) = some last)
    (hstep : ∀ k (i : Nat), i < l.length → L (k + 1) (i : Int) = (F k i).bind fun t => if t = true then L k (wrap64 ((i : Int) + 1)) else some false)
    (hF : ∀ i (h : i < l.length), Ev (fun k => F k i) (p l[i])) : ∀ d i, l.length - i = d → i ≤ l.length → Ev (fun k => L k (i : Int)) ((l.drop i).all p && last) := by
  intro d
  induction d with
  | zero =>
    intro i hi hle
    obtain rfl : i = l.length := by omega
    refine Ev.step (fun k => hend k) ?_
    rw [List.drop_length]
    exact Ev.now _
  | succ d ih =>
    intro i hi hle
    have hlt : i < l.length := by omega
    refine Ev.step (fun k => hstep k i hlt) ?_
    refine Ev.bind (hF i hlt) ?_
    rw [List.drop_eq_getElem_cons hlt, List.all_cons]
    cases hp : p l[i]
    · exact Ev.now _
    · simp only [if_true, Bool.true_and, w64 (a := (i : Int) + 1) (by omega) (by omega)]
      exact ih (i + 1) (by omega) (by omega)
theorem rdi_nat (l : List Int) (i : Nat) (h : i < l.length) : rd l (i : Int) = l[i] := by
  unfold rd
  simp [h]
theorem within_ev (a b c : Int) : impl_within.f a b c = some (decide (b ≤ a) && decide (a ≤ c)) := by
  unfold impl_within.f
  by_cases h : a ≥ b
  · rw [if_pos h, show decide (b ≤ a) = true from decide_eq_true h]; rfl
  · rw [if_neg h, show decide (b ≤ a) = false from decide_eq_false h]; rfl
theorem in_ev (a b c : Int) : spec_l6In.f a b c = some (decide (b ≤ a) && decide (a ≤ c)) := by
  unfold spec_l6In.f
  by_cases h : a ≥ b
  · rw [if_pos h, show decide (b ≤ a) = true from decide_eq_true h]; rfl
  · rw [if_neg h, show decide (b ≤ a) = false from decide_eq_false h]; rfl
def isB (x : Int) : Bool := decide (0 ≤ x) && decide (x ≤ 255)
theorem isByte_ev (x : Int) : impl_isByte.f x = some (isB x) := by
  unfold impl_isByte.f isB
  by_cases h : x ≥ 0
  · rw [if_pos h, show decide (0 ≤ x) = true from decide_eq_true h]; rfl
  · rw [if_neg h, show decide (0 ≤ x) = false from decide_eq_false h]; rfl
theorem allBytes_ev (l : List Int) (hl : l.length ≤ 9223372036854775807) : Ev (fun k => impl_allBytes.f k l) (l.all isB) := by
  unfold impl_allBytes.f
  have := ev_all l hl (fun k i => impl_allBytes.l0 k l (l.length : Int) i) (fun k i => some (isB (rd l (i : Int)))) isB true
    (fun k => by simp only [impl_allBytes.l0]; rw [if_neg (by omega)])
    (fun k i h => by simp only [impl_allBytes.l0]; rw [if_pos (by omega), if_pos (by omega), if_pos (by omega), isByte_ev])
    (fun i h => by rw [rdi_nat l i h]; exact Ev.now _) l.length 0 (by omega) (by omega)
  simpa using this
theorem l1Ok_ev (l : List Int) (hl : l.length ≤ 9223372036854775807) : Ev (fun k => spec_l1Ok.f k l) (l.all isB) := by
  unfold spec_l1Ok.f
  have := ev_all l hl (fun k i => spec_l1Ok.l0 k l i) (fun k i => some (isB (rd l (i : Int)))) isB true
    (fun k => by simp only [spec_l1Ok.l0]; rw [if_neg (by omega)])
    (fun k i h => by simp only [spec_l1Ok.l0]; rw [if_pos (by omega), if_pos (by omega), in_ev]; rfl)
    (fun i h => by rw [rdi_nat l i h]; exact Ev.now _) l.length 0 (by omega) (by omega)
  simpa using this
def partOk (has : Bool) (l : List Int) : Bool := if has = true then decide (l.length ≤ 12) && l.all isB else decide (l.length = 0)
theorem partValid_ev (has : Bool) (l : List Int) (hl : l.length ≤ 9223372036854775807) : Ev (fun k => impl_partValid.f k has l) (partOk has l) := by
  unfold impl_partValid.f partOk
  cases has
  · simp only [Bool.false_eq_true, if_false]
    rw [show ((l.length : Int) == 0) = decide (l.length = 0) from by rw [Bool.eq_iff_iff]; simp]
    exact Ev.now _
  · simp only [if_true]
    by_cases h : (l.length : Int) ≤ 12
    · simp only [if_pos h]
      rw [show decide (l.length ≤ 12) = true from decide_eq_true (by omega), Bool.true_and]
      exact Ev.bind (allBytes_ev l hl) (Ev.now _)
    · simp only [if_neg h]
      rw [show decide (l.length ≤ 12) = false from decide_eq_false (by omega)]
      exact Ev.now _
theorem l3Part_ev (has : Bool) (l : List Int) (hl : l.length ≤ 9223372036854775807) : Ev (fun k => spec_l3Part.f k has l) (partOk has l) := by
  unfold spec_l3Part.f partOk
  cases has
  · simp only [Bool.false_eq_true, if_false]
    by_cases h : (l.length : Int) = 0
    · simp only [if_pos h]
      obtain rfl : l = [] := List.length_eq_zero_iff.1 (by omega)
      refine Ev.bind (l1Ok_ev [] (by simp)) ?_
      exact Ev.now _
    · simp only [if_neg h]
      rw [show decide (l.length = 0) = false from decide_eq_false (by omega)]
      exact Ev.now _
  · simp only [if_true]
    refine Ev.bind (l1Ok_ev l hl) ?_
    rw [show decide ((l.length : Int) ≤ 12) = decide (l.length ≤ 12) from decide_eq_decide.2 (by omega)]
    cases l.all isB
    · simp only [Bool.false_eq_true, if_false, Bool.and_false]
      exact Ev.now _
    · simp only [if_true, Bool.and_true]
      exact Ev.now _
def rng (x : Int) : Bool := decide (0 ≤ x) && decide (x ≤ 99999)
def recOk (r : S78) : Bool := (rng r.f0 && rng r.f1) && (partOk r.f2 r.f3 && partOk r.f4 r.f5)
/-- Lengths that can be told. -/
def Lens (r : S78) : Prop := r.f3.length ≤ 9223372036854775807 ∧ r.f5.length ≤ 9223372036854775807
theorem RecordValid_ev (r : S78) (hr : Lens r) : Ev (fun k => impl_RecordValid.f k r.f0 r.f1 r.f2 r.f3 r.f4 r.f5) (recOk r) := by
  unfold impl_RecordValid.f recOk impl_baseValid.f
  simp only [within_ev, Option.bind_some]
  change Ev (fun k => ((if rng r.f0 = true then some (rng r.f1) else some false)).bind _) _
  cases rng r.f0
  · simp only [Bool.false_eq_true, if_false, Option.bind_some, Bool.false_and]
    exact Ev.now _
  · cases rng r.f1
    · simp only [if_true, Option.bind_some, Bool.false_eq_true, if_false, Bool.true_and, Bool.false_and]
      exact Ev.now _
    · simp only [if_true, Option.bind_some, Bool.true_and]
      refine Ev.bind (partValid_ev _ _ hr.1) ?_
      cases partOk r.f2 r.f3
      · exact Ev.now _
      · simp only [if_true, Bool.true_and]
        exact Ev.bind (partValid_ev _ _ hr.2) (Ev.now _)
theorem sRecordValid_ev (r : S78) (hr : Lens r) : Ev (fun k => spec_RecordValid.f k r.f0 r.f1 r.f2 r.f3 r.f4 r.f5) (recOk r) := by
  unfold spec_RecordValid.f recOk
  simp only [in_ev, Option.bind_some]
  change Ev (fun k => if rng r.f0 = true then (if rng r.f1 = true then _ else some false) else some false) _
  cases rng r.f0
  · simp only [Bool.false_eq_true, if_false, Bool.false_and]
    exact Ev.now _
  · cases rng r.f1
    · simp only [if_true, Bool.false_eq_true, if_false, Bool.true_and, Bool.false_and]
      exact Ev.now _
    · simp only [if_true, Bool.true_and]
      refine Ev.bind (l3Part_ev _ _ hr.1) ?_
      cases partOk r.f2 r.f3
      · exact Ev.now _
      · simp only [if_true, Bool.true_and]
        exact Ev.bind (l3Part_ev _ _ hr.2) (Ev.now _)
theorem rdR_nat (l : List S78) (i : Nat) (h : i < l.length) : rd_T78 l (i : Int) = l[i] := by
  unfold rd_T78
  simp [h]
end Go.Proofs.Ytkihdohphddjaaa.Pu

namespace Go.Proofs.Ytkihdohphddjaaa.Pu
open Go.RowKit Go.Proofs.YtkihdohphddjaaaW.PrintWords Go.Proofs.YtkihdohphddjaaaW.PrintLast Go.Proofs.YtkihdohphddjaaaW.PrintMore Go.Proofs.Ytkihdohphddjaaa.G
set_option linter.unusedVariables false
set_option linter.unusedSimpArgs false
def recStep (l : List S78) (i : Nat) : Bool := recOk (rd_T78 l (i : Int)) && (decide (i = 0) || decide ((rd_T78 l ((i : Int) - 1)).f0 < (rd_T78 l (i : Int)).f0))
def recsInc (l : List S78) : Bool := (List.range' 0 l.length).all (recStep l)
def lenOk (l : List S78) : Bool := decide (1 ≤ (l.length : Int)) && decide ((l.length : Int) ≤ 6)
/-- Rows of records that can be told. -/
def RowR (l : List S78) : Prop := l.length ≤ 9223372036854775807 ∧ ∀ r ∈ l, Lens r
theorem RowR.rd {l : List S78} (h : RowR l) (i : Nat) (hi : i < l.length) : Lens (rd_T78 l (i : Int)) := by
  rw [rdR_nat l i hi]
  exact h.2 _ (List.getElem_mem _)
def headOk (b1 : Bool) (b2 b3 b4 : Int) : Bool := if b2 = 255 then decide (b3 = 0) && (decide (b4 = 0) && !b1) else (decide (0 ≤ b2) && decide (b2 ≤ 254)) && ((decide (0 ≤ b3) && decide (b3 ≤ 99)) && (decide (0 ≤ b4) && decide (b4 ≤ 9999)))
def batOk (b : S75) : Bool := headOk b.f1 b.f2 b.f3 b.f4 && (lenOk b.f5 && ((!b.f1 || decide ((b.f5.length : Int) = 1)) && recsInc b.f5))
theorem incs_of {l : List S78} (h : ∀ j, j < l.length → recStep l j = true) : recsInc l = true := List.all_eq_true.2 fun j hj => h j (by have := List.mem_range'.1 hj; omega)
theorem incs_no {l : List S78} {j : Nat} (hj : j < l.length) (h : recStep l j = false) : recsInc l = false := by
  cases hr : recsInc l
  · rfl
  · have := List.all_eq_true.1 hr j (List.mem_range'.2 ⟨j, by omega, by omega⟩)
    rw [h] at this
    cases this
/-! rows of batches -/
theorem rdB_nat (l : List S75) (i : Nat) (h : i < l.length) : rd_T75 l (i : Int) = l[i] := by
  unfold rd_T75
  simp [h]
def lastOf (b : S75) : Int := (rd_T78 b.f5 ((b.f5.length : Int) - 1)).f0
def firstOf (b : S75) : Int := (rd_T78 b.f5 0).f0
def batStep (l : List S75) (i : Nat) : Bool := batOk (rd_T75 l (i : Int)) && (decide (i = 0) || decide (lastOf (rd_T75 l ((i : Int) - 1)) < firstOf (rd_T75 l (i : Int))))
def logOk (l : List S75) : Bool := (List.range' 0 l.length).all (batStep l) && decide ((l.length : Int) ≤ 8)
theorem logs_of {l : List S75} (h : ∀ j, j < l.length → batStep l j = true) : (List.range' 0 l.length).all (batStep l) = true := List.all_eq_true.2 fun j hj => h j (by have := List.mem_range'.1 hj; omega)
theorem logs_no {l : List S75} {j : Nat} (hj : j < l.length) (h : batStep l j = false) : (List.range' 0 l.length).all (batStep l) = false := by
  cases hr : (List.range' 0 l.length).all (batStep l)
  · rfl
  · have := List.all_eq_true.1 hr j (List.mem_range'.2 ⟨j, by omega, by omega⟩)
    rw [h] at this
    cases this
/-- Rows of batches that can be told. -/
def RowB (l : List S75) : Prop := l.length ≤ 9223372036854775807 ∧ ∀ b ∈ l, RowR b.f5
theorem RowB.rd {l : List S75} (h : RowB l) (i : Nat) (hi : i < l.length) : RowR (rd_T75 l (i : Int)).f5 := by
  rw [rdB_nat l i hi]
  exact h.2 _ (List.getElem_mem _)
theorem batOk_len {b : S75} (h : batOk b = true) : 1 ≤ b.f5.length ∧ b.f5.length ≤ 6 := by
  unfold batOk lenOk at h
  simp only [Bool.and_eq_true, decide_eq_true_eq] at h
  have := h.2.1
  omega
/-! what a valid row is -/
theorem logOk_bat {l : List S75} (h : logOk l = true) (i : Nat) (hi : i < l.length) : batOk l[i] = true := by
  unfold logOk at h
  have := List.all_eq_true.1 (Bool.and_eq_true_iff.1 h).1 i (by simp [List.mem_range']; omega)
  unfold batStep at this
  rw [rdB_nat l i hi] at this
  exact (Bool.and_eq_true_iff.1 this).1
theorem batOk_rec {b : S75} (h : batOk b = true) (i : Nat) (hi : i < b.f5.length) : recOk b.f5[i] = true := by
  unfold batOk at h
  simp only [Bool.and_eq_true] at h
  have := List.all_eq_true.1 h.2.2.2 i (by simp [List.mem_range']; omega)
  unfold recStep at this
  rw [rdR_nat b.f5 i hi] at this
  exact (Bool.and_eq_true_iff.1 this).1

end Go.Proofs.Ytkihdohphddjaaa.Pu

namespace Go.Proofs.Ytkihdohphddjaaa.G
open Go.RowKit
section
variable {P : Program} {ops : Array Oper} {Q : Exit → Act → World → Prop} {md : Region.Mode} {S : World → Prop}
/-- The first i of n are listed. -/
def fN (n i : Nat) : Array Bool := (Array.range n).map fun j => decide (j < i)
theorem fN_zero (n : Nat) : Array.replicate n false = fN n 0 := by
  apply Array.ext
  · simp [fN]
  · intro j h1 h2
    simp [fN]
theorem fN_set {n i : Nat} : (fN n i).setIfInBounds i true = fN n (i + 1) := by
  apply Array.ext
  · simp [fN]
  · intro j h1 h2
    rw [Array.getElem_setIfInBounds (by simpa using h1)]
    simp only [fN, Array.getElem_map, Array.getElem_range]
    split
    · rename_i h
      rw [← h]
      simp
    · rename_i h
      exact decide_eq_decide.2 (by omega)
/-- What is left of the region from operation i on. -/
def Fr (P : Program) (l0 : List Oper) (Q : Exit → Act → World → Prop) (S : World → Prop) (n i : Nat) (l : List Oper) (a : Act) (w : World) : Prop :=
  l0.drop i = l → wpAnyH P .any l0.toArray Q S l.length (fN n i) a w
variable {l0 rest : List Oper}
theorem r_begin {id : Nat} {a : Act} {w : World} (S : World → Prop) (n : Nat) (hm : P.follows .mixedOrders = true) (hn : l0.length = n) (hS : S w.drew) (h : S w.drew → Fr P l0 Q S n 0 l0 a w.drew) : (Code.region id l0.toArray true).wp P Q a w := by
  refine wp_region_held (S := S) hm ?_
  have := h hS rfl
  rw [hn] at this
  rw [List.size_toArray, hn, fN_zero]
  exact this
theorem fr_at {i : Nat} {oi : Oper} (hd : l0.drop i = oi :: rest) : l0.toArray[i]? = some oi ∧ l0.drop (i + 1) = rest := by
  constructor
  · rw [List.getElem?_toArray]
    have := congrArg (fun l => l[0]?) hd
    simpa using this
  · rw [← List.drop_drop, hd]
    rfl
def tkB (l0 : List Oper) (n i : Nat) : Bool := Region.noSelect l0.toArray && Region.free .any l0.toArray (fN n i) i && (Region.ready .any l0.toArray (fN n i)).contains i
theorem r_take {n i : Nat} {oi : Oper} {v : Value} {a : Act} {w : World} (hc : tkB l0 n i = true)
    (hQ : ∀ c a w, Q (.panic c) (a.put oi.dst v) w → Q (.panic c) a w) (hy : YieldsIf P l0.toArray S oi v a) (hS : S w) (h : Fr P l0 Q S n (i + 1) rest (a.put oi.dst v) w) : Fr P l0 Q S n i (oi :: rest) a w := by
  intro hd
  obtain ⟨hi, hr⟩ := fr_at hd
  simp only [tkB, Bool.and_eq_true] at hc
  refine wpAnyH_take hi hc.1.1 hc.1.2 hc.2 hQ hy hS ?_
  rw [fN_set]
  exact h hr
/-- One that is not wanted. -/
theorem r_skip {n i : Nat} {oi : Oper} {a : Act} {w : World} (hc : tkB l0 n i = true) (hw : Region.wanted oi (yielded l0.toArray a.tmps) = false)
    (hQ : ∀ c a w, Q (.panic c) (a.put oi.dst undef) w → Q (.panic c) a w) (hS : S w) (h : Fr P l0 Q S n (i + 1) rest (a.put oi.dst undef) w) : Fr P l0 Q S n i (oi :: rest) a w :=
  r_take hc hQ (.inr ⟨hw, rfl⟩) hS h
/-- One that is. -/
theorem r_go {n i : Nat} {oi : Oper} {v : Value} {a : Act} {w : World} (hc : tkB l0 n i = true) (hw : Region.wanted oi (yielded l0.toArray a.tmps) = true)
    (hQ : ∀ c a w, Q (.panic c) (a.put oi.dst v) w → Q (.panic c) a w) (hS : S w) (hy : ∀ w, S w → (execOp a.eval oi).run P w = .ok (.value v) w) (h : Fr P l0 Q S n (i + 1) rest (a.put oi.dst v) w) : Fr P l0 Q S n i (oi :: rest) a w :=
  r_take hc hQ (.inl ⟨hw, hy⟩) hS h
def oneB (l0 : List Oper) (n i : Nat) : Bool := Region.ready .any l0.toArray (fN n i) == [i]
/-- One that comes up alone, and is wanted: a call. -/
theorem r_one {n i : Nat} {oi : Oper} {a : Act} {w : World} (hc : oneB l0 n i = true) (hw : Region.wanted oi (yielded l0.toArray a.tmps) = true)
    (h : ∀ K : Act → World → Prop, Shut (∀ a w, S w → (S w → Fr P l0 Q S n (i + 1) rest a w) → K a w) → Oper.wp P oi a w K Q) :
    Fr P l0 Q S n i (oi :: rest) a w := by
  intro hd
  obtain ⟨hi, hr⟩ := fr_at hd
  simp only [oneB, beq_iff_eq] at hc
  refine wpAnyH_ready hc (by simp) (AllReadyH.cons hi (fun K hK => ?_) AllReadyH.nil)
  rw [fN_set] at hK
  rw [if_pos hw]
  exact h K (fun a w hs hf => hK a w hs (fun hs => hf hs hr))
theorem r_done {n i : Nat} {a : Act} {w : World} (hc : Region.ready .any l0.toArray (fN n i) = []) (h : Q .normal a w) : Fr P l0 Q S n i [] a w := fun _ => wpAnyH_done hc h _
end
end Go.Proofs.Ytkihdohphddjaaa.G

namespace Go.Proofs.Ytkihdohphddjaaa.G
open Go.RowKit Go.Proofs.YtkihdohphddjaaaW.PrintWords Go.Proofs.YtkihdohphddjaaaW.PrintLast Go.Proofs.YtkihdohphddjaaaW.PrintMore Go.Proofs.Ytkihdohphddjaaa.Pu
set_option linter.unusedVariables false
set_option linter.unusedSimpArgs false
/-- The cells that hold a batch. -/
def CellsB (W : World) (p : Addr) (b : S75) (A : Option Addr) (c : Nat) : Prop :=
  W.cell? p = some (.bool b.f0) ∧ W.cell? ⟨p.block, p.off + 1, none⟩ = some (.bool b.f1) ∧ W.cell? ⟨p.block, p.off + 2, none⟩ = some (.int .i64 b.f2) ∧ W.cell? ⟨p.block, p.off + 3, none⟩ = some (.int .i64 b.f3) ∧ W.cell? ⟨p.block, p.off + 4, none⟩ = some (.int .i64 b.f4) ∧ W.cell? ⟨p.block, p.off + 5, none⟩ = some (.slice A b.f5.length c)
theorem CellsB.below {W W' : World} {p : Addr} {b : S75} {A : Option Addr} {c : Nat} (h : CellsB W p b A c) (hb : Below W.heap.size W W') : CellsB W' p b A c := ⟨pw_cell_below hb h.1, pw_cell_below hb h.2.1, pw_cell_below hb h.2.2.1, pw_cell_below hb h.2.2.2.1, pw_cell_below hb h.2.2.2.2.1, pw_cell_below hb h.2.2.2.2.2⟩
end Go.Proofs.Ytkihdohphddjaaa.G

namespace Go.Proofs.Ytkihdohphddjaaa.G
open Go.RowKit Go.Proofs.YtkihdohphddjaaaW.PrintWords Go.Proofs.YtkihdohphddjaaaW.PrintLast Go.Proofs.YtkihdohphddjaaaW.PrintMore Go.Proofs.Ytkihdohphddjaaa.Pu
set_option linter.unusedVariables false
set_option linter.unusedSimpArgs false
theorem head_no {b1 : Bool} {b2 b3 b4 : Int} (h : ((b2 == 255) = true ∧ (¬ b3 = 0 ∨ ¬ b4 = 0 ∨ b1 = true)) ∨ ((b2 == 255) = false ∧ (¬ (0 ≤ b2 ∧ b2 ≤ 254) ∨ ¬ (0 ≤ b3 ∧ b3 ≤ 99) ∨ ((!decide (0 ≤ b4)) = true ∨ (!decide (b4 ≤ 9999)) = true)))) : headOk b1 b2 b3 b4 = false := by
  unfold headOk
  grind
theorem head_y1 {b1 : Bool} {b2 b3 b4 : Int} (h : (b2 == 255) = true) (h3 : b3 = 0) (h4 : b4 = 0) (h1 : b1 = false) : headOk b1 b2 b3 b4 = true := by
  unfold headOk
  grind
theorem head_y2 {b1 : Bool} {b2 b3 b4 : Int} (h : (b2 == 255) = false) (h2 : 0 ≤ b2 ∧ b2 ≤ 254) (h3 : 0 ≤ b3 ∧ b3 ≤ 99) (h4 : (!decide (0 ≤ b4)) = false ∧ (!decide (b4 ≤ 9999)) = false) : headOk b1 b2 b3 b4 = true := by
  unfold headOk
  grind
theorem no_ {x y : Bool} (h : x = false) : Ending.returned (.bool false) = .returned (.bool (x && y)) := by rw [h]; rfl
theorem len_a {l : List S78} {x : Bool} (h : ¬(1 ≤ (l.length : Int) ∧ (l.length : Int) ≤ 6)) : Value.bool true = .bool (!(lenOk l && x)) := by
  have : lenOk l = false := by unfold lenOk; grind
  rw [this]
  rfl
theorem len_b {l : List S78} {x : Bool} (h : 1 ≤ (l.length : Int) ∧ (l.length : Int) ≤ 6) : Value.bool false = .bool (!(lenOk l && (!false || x))) := by
  have : lenOk l = true := by unfold lenOk; grind
  rw [this]
  rfl
theorem len_c {l : List S78} (h : 1 ≤ (l.length : Int) ∧ (l.length : Int) ≤ 6) : Value.bool ((l.length : Int) != 1) = .bool (!(lenOk l && (!true || decide ((l.length : Int) = 1)))) := by
  have : lenOk l = true := by unfold lenOk; grind
  rw [this]
  by_cases h1 : (l.length : Int) = 1 <;> simp [h1]
/-- A box that holds a record, in a world that grew. -/
def HeldR (W1 : World) (B : Nat) (r : S78) (A3 : Option Addr) (c3 : Nat) (A5 : Option Addr) (c5 : Nat) (W : World) : Prop :=
  W.cell? ⟨B, 0, none⟩ = some (.int .i64 r.f0) ∧ W.cell? ⟨B, 1, none⟩ = some (.int .i64 r.f1) ∧ W.cell? ⟨B, 2, none⟩ = some (.bool r.f2) ∧ W.cell? ⟨B, 3, none⟩ = some (.slice A3 r.f3.length c3) ∧ W.cell? ⟨B, 4, none⟩ = some (.bool r.f4) ∧ W.cell? ⟨B, 5, none⟩ = some (.slice A5 r.f5.length c5) ∧ Below W1.heap.size W1 W
theorem within_q (a b c : Int) (w : World) : Calls Try.prog 43 #[.int .i64 a, .int .i64 b, .int .i64 c] w fun e w' => e = .returned (.bool (decide (b ≤ a) && decide (a ≤ c))) ∧ ∃ n, w' = w.drewN n :=
  (impl_within.calls a b c _ w (within_ev a b c)).mono fun e w' h => ⟨h.1, h.2.out⟩
theorem idValid_q (a : Int) (w : World) : Calls Try.prog 65 #[.int .i64 a] w fun e w' => e = .returned (.bool (decide (0 ≤ a) && decide (a ≤ 254))) ∧ ∃ n, w' = w.drewN n :=
  (impl_idValid.calls a _ w (by unfold impl_idValid.f; rw [within_ev]; rfl)).mono fun e w' h => ⟨h.1, h.2.out⟩
set_option maxRecDepth 100000 in
set_option maxHeartbeats 4000000 in
theorem implbat_q (b : S75) (A : Option Addr) (c : Nat) (w : World) (hr : Kd.C k78 w A b.f5.length b.f5) (hc : b.f5.length ≤ c) :
    Calls Try.prog 54 #[.agg #[.bool b.f0, .bool b.f1, .int .i64 b.f2, .int .i64 b.f3, .int .i64 b.f4, .slice A b.f5.length c]] w fun e w' => e = .returned (.bool (batOk b)) ∧ Below w.heap.size w w' := by
  obtain ⟨b0, b1, b2, b3, b4, l⟩ := b
  simp only at hr hc ⊢
  have hl := hr.2.1
  unfold batOk
  simp only
  have HR := Aside0.mk hr
  clear hr
  go_enter Try.func54, Try.ntmps54
  go_upto_if 7 with fail
  go_cut [0] (fun v0 wc => headOk b1 b2 b3 b4 = true ∧ wc.heap[w.heap.size]? = some (.cells #[.bool b0, .bool b1, .int .i64 b2, .int .i64 b3, .int .i64 b4, .slice A l.length c] 75) ∧ Below w.heap.size w wc)
  case first =>
    go_wp2_with (first | (go_at_call 65; refine (idValid_q _ _).mono ?_; rintro e w' ⟨rfl, ⟨n, rfl⟩⟩) | (go_at_call 43; refine (within_q _ _ _ _).mono ?_; rintro e w' ⟨rfl, ⟨n, rfl⟩⟩))
    all_goals first | (go_ret; exact ⟨no_ (head_no (by first | exact .inl ⟨‹_›, .inl ‹_›⟩ | exact .inl ⟨‹_›, .inr (.inl ‹_›)⟩ | exact .inl ⟨‹_›, .inr (.inr ‹_›)⟩ | exact .inr ⟨‹_›, .inl ‹_›⟩ | exact .inr ⟨‹_›, .inr (.inl ‹_›)⟩ | exact .inr ⟨‹_›, .inr (.inr ‹_›)⟩)), by first | exact below_alloc (Below.refl _ _) _ | exact pw_below_drewN (below_alloc (Below.refl _ _) _) _⟩) | (go_meet; case rel => exact ⟨by first | exact head_y1 ‹_› ‹_› ‹_› ‹_› | exact head_y2 ‹_› ‹_› ‹_› ‹_›, by first | exact heap_alloc_new _ _ | (subst_vars; exact heap_alloc_new _ _), by first | exact below_alloc (Below.refl _ _) _ | exact pw_below_drewN (below_alloc (Below.refl _ _) _) _⟩)
  obtain ⟨hh, hw, hB⟩ := hcut
  go_upto_region 6 with (fail)
  go_cut [50] (fun v50 wc => v50 = .bool (!(lenOk l && (!b1 || decide ((l.length : Int) = 1)))) ∧ wc.heap[w.heap.size]? = some (.cells #[.bool b0, .bool b1, .int .i64 b2, .int .i64 b3, .int .i64 b4, .slice A l.length c] 75) ∧ Below w.heap.size w wc)
  case first =>
    have hc1 := blk_cell hw 1
    have hc5 := blk_cell hw 5
    cases b1
    all_goals go_wp2_with (go_at_call 43; refine (within_q _ _ _ _).mono ?_; rintro e w' ⟨rfl, ⟨n, rfl⟩⟩)
    all_goals (go_meet; case rel => exact ⟨by first | exact len_a ‹_› | exact len_b ‹_› | exact len_c ‹_›, hw, pw_below_drewN hB _⟩)
  obtain ⟨rfl, hw, hB⟩ := hcut
  have hc5 := blk_cell hw 5
  cases hk : (lenOk l && (!b1 || decide ((l.length : Int) = 1)))
  · go_wp2
    go_ret
    exact ⟨by rw [hh, Bool.true_and, ← Bool.and_assoc, hk]; rfl, hB⟩
  · go_wp2
    go_loopw [54] (fun v54 wr => ∃ i : Nat, v54 = .int .i64 i ∧ i ≤ l.length ∧ (∀ j, j < i → recStep l j = true) ∧ wr.heap[w.heap.size]? = some (.cells #[.bool b0, .bool b1, .int .i64 b2, .int .i64 b3, .int .i64 b4, .slice A l.length c] 75) ∧ Below w.heap.size w wr) (fun v54 _ => l.length - (intOf v54).toNat)
    case atStart => exact ⟨0, rfl, Nat.zero_le _, fun j hj => absurd hj (Nat.not_lt_zero j), hw, hB⟩
    case round =>
      obtain ⟨i, rfl, hi, hall, hw1, hB1⟩ := hrel
      by_cases hlt : i < l.length
      · obtain ⟨ad, A3, c3, A5, c5, rfl, e0, e1, e2, e3, e4, e5, l3, g3, l5, g5⟩ := at_T78 (Kd.C_below HR.out hB1) (i : Int) (by omega) (by omega)
        rw [show ((i : Int)).toNat = i from rfl] at e0 e1 e2 e3 e4 e5
        have hc5 := blk_cell hw1 5
        have hrec : recStep l i = (recOk (rd_T78 l (i : Int)) && (decide (i = 0) || decide ((rd_T78 l ((i : Int) - 1)).f0 < (rd_T78 l (i : Int)).f0))) := rfl
        generalize rd_T78 l (i : Int) = ri at *
        go_wp2
        have bR := heap_alloc_new wr (.cells #[.int .i64 ri.f0, .int .i64 ri.f1, .bool ri.f2, .slice A3 ri.f3.length c3, .bool ri.f4, .slice A5 ri.f5.length c5] 78)
        have hw2 := (Below.heap_alloc wr (.cells #[.int .i64 ri.f0, .int .i64 ri.f1, .bool ri.f2, .slice A3 ri.f3.length c3, .bool ri.f4, .slice A5 ri.f5.length c5] 78) _ (blk_lt hw1)).trans hw1
        have hB2 := below_alloc hB1 (.cells #[.int .i64 ri.f0, .int .i64 ri.f1, .bool ri.f2, .slice A3 ri.f3.length c3, .bool ri.f4, .slice A5 ri.f5.length c5] 78)
        have hBr := below_alloc (Below.refl wr.heap.size wr) (.cells #[.int .i64 ri.f0, .int .i64 ri.f1, .bool ri.f2, .slice A3 ri.f3.length c3, .bool ri.f4, .slice A5 ri.f5.length c5] 78)
        generalize wr.alloc _ = W1 at bR hw2 hB2 hBr ⊢
        obtain ⟨kR, hkR⟩ := (RecordValid_ev ri ⟨g3.2.1, g5.2.1⟩).rounds
        have hrc : ∀ (W2 : World), Below wr.heap.size wr W2 → Calls Try.prog 66 #[.agg #[.int .i64 ri.f0, .int .i64 ri.f1, .bool ri.f2, .slice A3 ri.f3.length c3, .bool ri.f4, .slice A5 ri.f5.length c5]] W2 fun e w' => e = .returned (.bool (recOk ri)) ∧ Below W2.heap.size W2 w' := fun (W2 : World) (hb : Below wr.heap.size wr W2) => impl_RecordValid.calls kR ri.f0 ri.f1 ri.f2 A3 c3 ri.f3 ri.f4 A5 c5 ri.f5 _ W2 (Kd.C_below g3 hb) l3 (Kd.C_below g5 hb) l5 hkR
        have HRC := Aside0.mk hrc
        clear hrc
        have kS : ∀ w' : World, Below W1.drew.heap.size W1.drew w' → HeldR W1 wr.heap.size ri A3 c3 A5 c5 w' := fun w' h => ⟨pw_cell_below h (blk_cell bR 0), pw_cell_below h (blk_cell bR 1), pw_cell_below h (blk_cell bR 2), pw_cell_below h (blk_cell bR 3), pw_cell_below h (blk_cell bR 4), pw_cell_below h (blk_cell bR 5), below_step (below_drew (Below.refl _ W1)) h⟩
        rcases hok : recOk ri with _ | _ <;> rw [hok] at hkR HRC
        · refine r_begin (HeldR W1 wr.heap.size ri A3 c3 A5 c5) 19 (by kernel_rfl) rfl (kS _ (Below.refl _ _)) (fun hH => ?_)
          repeat (first | (refine r_skip (by kernel_rfl) (by rfl) (fun _ _ _ h => h) hH ?_; simp only [Act.put, List.setIfInBounds_toArray, List.set_cons_zero, List.set_cons_succ, Nat.reduceAdd]) | (refine r_go (v := ?_) (by kernel_rfl) (by rfl) (fun _ _ _ h => h) hH ?_ ?_; rotate_left; (focus (intro w hS; obtain ⟨e0, e1, e2, e3, e4, e5, e6⟩ := hS; go_simp; first | done | with_reducible rfl)); simp only [Act.put, List.setIfInBounds_toArray, List.set_cons_zero, List.set_cons_succ, Nat.reduceAdd]) | (fail "x"))
          refine r_one (by kernel_rfl) (by rfl) (fun K hK => ?_)
          go_simp
          go_at_call 66
          refine (HRC.out _ (below_step hBr (below_drew (Below.refl _ W1)))).mono ?_
          rintro e w2 ⟨rfl, hb⟩
          go_wp2_with fail
          refine hK.out _ _ (kS _ hb) (fun hH => ?_)
          clear hK K
          simp only [Act.put, List.setIfInBounds_toArray, List.set_cons_zero, List.set_cons_succ, Nat.reduceAdd]
          repeat (first | (refine r_skip (by kernel_rfl) (by rfl) (fun _ _ _ h => h) hH ?_; simp only [Act.put, List.setIfInBounds_toArray, List.set_cons_zero, List.set_cons_succ, Nat.reduceAdd]) | (refine r_go (v := ?_) (by kernel_rfl) (by rfl) (fun _ _ _ h => h) hH ?_ ?_; rotate_left; (focus (intro w hS; obtain ⟨e0, e1, e2, e3, e4, e5, e6⟩ := hS; go_simp; first | done | with_reducible rfl)); simp only [Act.put, List.setIfInBounds_toArray, List.set_cons_zero, List.set_cons_succ, Nat.reduceAdd]) | (fail "x"))
          refine r_done (by kernel_rfl) ?_
          go_wp2
          go_ret
          exact ⟨by rw [hh, Bool.true_and, ← Bool.and_assoc, hk, incs_no hlt (hrec.trans (by rw [hok]; rfl))]; rfl, below_step hB2 hH.2.2.2.2.2.2⟩
        rcases i with _ | j
        · refine r_begin (HeldR W1 wr.heap.size ri A3 c3 A5 c5) 19 (by kernel_rfl) rfl (kS _ (Below.refl _ _)) (fun hH => ?_)
          repeat (first | (refine r_skip (by kernel_rfl) (by rfl) (fun _ _ _ h => h) hH ?_; simp only [Act.put, List.setIfInBounds_toArray, List.set_cons_zero, List.set_cons_succ, Nat.reduceAdd]) | (refine r_go (v := ?_) (by kernel_rfl) (by rfl) (fun _ _ _ h => h) hH ?_ ?_; rotate_left; (focus (intro w hS; obtain ⟨e0, e1, e2, e3, e4, e5, e6⟩ := hS; go_simp; first | done | with_reducible rfl)); simp only [Act.put, List.setIfInBounds_toArray, List.set_cons_zero, List.set_cons_succ, Nat.reduceAdd]) | (fail "x"))
          refine r_one (by kernel_rfl) (by rfl) (fun K hK => ?_)
          go_simp
          go_at_call 66
          refine (HRC.out _ (below_step hBr (below_drew (Below.refl _ W1)))).mono ?_
          rintro e w2 ⟨rfl, hb⟩
          go_wp2_with fail
          refine hK.out _ _ (kS _ hb) (fun hH => ?_)
          clear hK K
          simp only [Act.put, List.setIfInBounds_toArray, List.set_cons_zero, List.set_cons_succ, Nat.reduceAdd]
          repeat (first | (refine r_skip (by kernel_rfl) (by rfl) (fun _ _ _ h => h) hH ?_; simp only [Act.put, List.setIfInBounds_toArray, List.set_cons_zero, List.set_cons_succ, Nat.reduceAdd]) | (refine r_go (v := ?_) (by kernel_rfl) (by rfl) (fun _ _ _ h => h) hH ?_ ?_; rotate_left; (focus (intro w hS; obtain ⟨e0, e1, e2, e3, e4, e5, e6⟩ := hS; go_simp; first | done | with_reducible rfl)); simp only [Act.put, List.setIfInBounds_toArray, List.set_cons_zero, List.set_cons_succ, Nat.reduceAdd]) | (fail "x"))
          refine r_done (by kernel_rfl) ?_
          go_wp2
          go_roundw
          case rel =>
            repeat apply Exists.intro
            have hst : ∀ j, j < 0 + 1 → recStep l j = true := by
              intro j hj
              obtain rfl : j = 0 := by omega
              exact hrec.trans (by rw [hok]; rfl)
            exact ⟨⟨0 + 1, by simp, hlt, hst, (hb.block _ (blk_lt hw2)).trans hw2, below_step hB2 hH.2.2.2.2.2.2⟩, rfl⟩
          case measure => simp [intOf]; omega
        · obtain ⟨ad2, _, _, _, _, hq, f0, _⟩ := at_T78 (Kd.C_below HR.out hB1) (j : Int) (by omega) (by omega)
          cases hq
          rw [show ((j : Int)).toNat = j from rfl] at f0
          have hrec2 : recStep l (j + 1) = (recOk ri && (decide (j + 1 = 0) || decide ((rd_T78 l (j : Int)).f0 < ri.f0))) := by
            rw [hrec, show ((j + 1 : Nat) : Int) - 1 = (j : Int) by omega]
          generalize (rd_T78 l (j : Int)).f0 = pj at f0 hrec2
          have f1 := pw_cell_below hBr f0
          have hwj : IntKind.i64.wrap (j : Int) = (j : Int) := by rw [i64_w]; unfold wrap64; omega
          have hjl : (j : Int) < (l.length : Int) := by omega
          have kS2 : ∀ w' : World, Below W1.drew.heap.size W1.drew w' → HeldR W1 wr.heap.size ri A3 c3 A5 c5 w' ∧ w'.cell? (ad.add (j * 6)) = some (.int .i64 pj) ∧ w'.cell? ⟨w.heap.size, 5, none⟩ = some (.slice (some ad) l.length c) := fun w' h => ⟨kS w' h, pw_cell_below h f1, pw_cell_below h (blk_cell hw2 5)⟩
          refine r_begin (fun w' => HeldR W1 wr.heap.size ri A3 c3 A5 c5 w' ∧ w'.cell? (ad.add (j * 6)) = some (.int .i64 pj) ∧ w'.cell? ⟨w.heap.size, 5, none⟩ = some (.slice (some ad) l.length c)) 19 (by kernel_rfl) rfl (kS2 _ (Below.refl _ _)) (fun hH => ?_)
          repeat (first | (refine r_skip (by kernel_rfl) (by rfl) (fun _ _ _ h => h) hH ?_; simp only [Act.put, List.setIfInBounds_toArray, List.set_cons_zero, List.set_cons_succ, Nat.reduceAdd]) | (refine r_go (v := ?_) (by kernel_rfl) (by rfl) (fun _ _ _ h => h) hH ?_ ?_; rotate_left; (focus (intro w hS; obtain ⟨⟨e0, e1, e2, e3, e4, e5, e6⟩, e7, e8⟩ := hS; go_simp; first | done | with_reducible rfl)); simp only [Act.put, List.setIfInBounds_toArray, List.set_cons_zero, List.set_cons_succ, Nat.reduceAdd]) | (fail "x"))
          refine r_one (by kernel_rfl) (by rfl) (fun K hK => ?_)
          go_simp
          go_at_call 66
          refine (HRC.out _ (below_step hBr (below_drew (Below.refl _ W1)))).mono ?_
          rintro e w2 ⟨rfl, hb⟩
          go_wp2_with fail
          refine hK.out _ _ (kS2 _ hb) (fun hH => ?_)
          clear hK K
          simp only [Act.put, List.setIfInBounds_toArray, List.set_cons_zero, List.set_cons_succ, Nat.reduceAdd]
          repeat (first | (refine r_skip (by kernel_rfl) (by rfl) (fun _ _ _ h => h) hH ?_; simp only [Act.put, List.setIfInBounds_toArray, List.set_cons_zero, List.set_cons_succ, Nat.reduceAdd]) | (refine r_go (v := ?_) (by kernel_rfl) (by rfl) (fun _ _ _ h => h) hH ?_ ?_; rotate_left; (focus (intro w hS; obtain ⟨⟨e0, e1, e2, e3, e4, e5, e6⟩, e7, e8⟩ := hS; go_simp; first | done | with_reducible rfl)); simp only [Act.put, List.setIfInBounds_toArray, List.set_cons_zero, List.set_cons_succ, Nat.reduceAdd]) | (fail "x"))
          refine r_done (by kernel_rfl) ?_
          by_cases hlt2 : pj < ri.f0
          · have hng : ¬ ri.f0 ≤ pj := by omega
            go_wp2
            go_roundw
            case rel =>
              repeat apply Exists.intro
              have hst : ∀ j', j' < j + 1 + 1 → recStep l j' = true := by
                intro j' hj
                by_cases h' : j' < j + 1
                · exact hall j' h'
                · obtain rfl : j' = j + 1 := by omega
                  rw [hrec2, hok, decide_eq_true hlt2, Bool.or_true]; rfl
              refine ⟨⟨j + 1 + 1, ?_, hlt, hst, (hb.block _ (blk_lt hw2)).trans hw2, below_step hB2 hH.1.2.2.2.2.2.2⟩, by first | rfl | (repeat' apply And.intro) <;> rfl⟩
              simp
            case measure => simp [intOf]; omega
          · have hng : ri.f0 ≤ pj := by omega
            have hno := Aside0.mk (incs_no hlt (hrec2.trans (by rw [hok, decide_eq_false hlt2, decide_eq_false (show ¬ j + 1 = 0 by omega)]; rfl)))
            go_wp2
            go_ret
            exact ⟨by simp only [hh, Bool.true_and, ← Bool.and_assoc, hk, hno.out]; rfl, below_step hB2 hH.1.2.2.2.2.2.2⟩
      · obtain rfl : i = l.length := by omega
        go_wp2
        go_ret
        exact ⟨by rw [hh, Bool.true_and, ← Bool.and_assoc, hk, incs_of hall]; rfl, hB1⟩
end Go.Proofs.Ytkihdohphddjaaa.G

namespace Go.Proofs.Ytkihdohphddjaaa.G
open Go.RowKit Go.Proofs.YtkihdohphddjaaaW.PrintWords Go.Proofs.YtkihdohphddjaaaW.PrintLast Go.Proofs.YtkihdohphddjaaaW.PrintMore
attribute [local go_sem] max2_int min2_int max_two min_two max_three min_three max_four min_four   -- for this text's walks alone
set_option linter.unusedVariables false
set_option linter.unusedSimpArgs false

def impl_Batch_first.f (a0_0 : Bool) (a0_1 : Bool) (a0_2 : Int) (a0_3 : Int) (a0_4 : Int) (l0_5 : List (S78)) : Option (Int) := if 0 < (l0_5.length : Int) then (some ((rd_T78 l0_5 0).f0)) else (none)
set_option maxHeartbeats 8000000 in
set_option maxRecDepth 100000 in
theorem impl_Batch_first.calls (a0_0 : Bool) (a0_1 : Bool) (a0_2 : Int) (a0_3 : Int) (a0_4 : Int) (A0_5 : Option Addr) (c0_5 : Nat) (l0_5 : List (S78)) (r : Int) (w : World) (hr0_5 : Kd.C k78 w A0_5 l0_5.length l0_5) (hc0_5 : l0_5.length ≤ c0_5) (h : impl_Batch_first.f a0_0 a0_1 a0_2 a0_3 a0_4 l0_5 = some r) :
  Calls Try.prog 55 #[.agg #[.bool a0_0, .bool a0_1, .int .i64 a0_2, .int .i64 a0_3, .int .i64 a0_4, .slice A0_5 l0_5.length c0_5]] w fun e w' => e = .returned (.int .i64 r) ∧ Below w.heap.size w w' := by
 have hu75 := Try.underlying75
 have HR0_5 := Aside0.mk hr0_5
 have HC0_5 := Aside0.mk hc0_5
 clear hr0_5 hc0_5
 have HB := Aside0.mk (Below.refl w.heap.size w)
 have H : (if 0 < (l0_5.length : Int) then (some ((rd_T78 l0_5 0).f0)) else (none)) = some r := h
 clear h
 by_cases c2 : 0 < (l0_5.length : Int)
 ·rw [if_pos c2] at H
  have c2b0 : decide (0 < (l0_5.length : Int)) = true := decide_eq_true c2
  have c2b1 : decide (0 < l0_5.length) = true := decide_eq_true (by omega)
  clear c2
  obtain rfl := Option.some.inj H
  go_enter Try.func55, Try.ntmps55
  go_wp2_with (first | ((with_reducible refine gate_dst (N := 1) rfl ?_); refine box_event ?hg (N := 1) ?hd (cs := #[.bool a0_0, .bool a0_1, .int .i64 a0_2, .int .i64 a0_3, .int .i64 a0_4, .slice A0_5 l0_5.length c0_5]) (t := 75) ?hr ?_; (case hd => rfl); (case hg => rfl); (case hr => first | (go_simp; done) | (go_simp; rfl)); intro gb538 hg w3 hbox hb; have BK538 := Aside0.mk (hbox); have GW538 := tge HB hg; have GE538 := tge HB hg; replace HB := tBs HB hb; clear hb hbox hg; obtain ⟨hcz4_0, hcz4_1, hcz4_2, hcz4_3, hcz4_4, hcz4_5, hfz4_0, hfz4_1, hfz4_2, hfz4_3, hfz4_4, hfz4_5⟩ := cells6 BK538.out; have p539 : 0 ≤ (0 : Int) := (by omega); have q539 : 0 < (l0_5.length : Int) := td; obtain ⟨ad539, A539_3, c539_3, A539_5, c539_5, e539, hx539_0, hx539_1, hx539_2, hx539_3, hx539_4, hx539_5, hl539_3, hi539_3, hl539_5, hi539_5⟩ := at_T78 HR0_5.out 0 p539 q539; cases e539; have qi539 : (0 < l0_5.length) = True := eq_true (by omega); (try rw [show ((0 : Int)).toNat = 0 from rfl] at hx539_0); (try rw [show 0 * 6 = 0 from rfl] at hx539_0); (try rw [Addr.add_zero'] at hx539_0); (try rw [show ((0 : Int)).toNat = 0 from rfl] at hx539_1); (try rw [show 0 * 6 = 0 from rfl] at hx539_1); (try rw [Addr.add_zero'] at hx539_1); (try rw [show ((0 : Int)).toNat = 0 from rfl] at hx539_2); (try rw [show 0 * 6 = 0 from rfl] at hx539_2); (try rw [Addr.add_zero'] at hx539_2); (try rw [show ((0 : Int)).toNat = 0 from rfl] at hx539_3); (try rw [show 0 * 6 = 0 from rfl] at hx539_3); (try rw [Addr.add_zero'] at hx539_3); (try rw [show ((0 : Int)).toNat = 0 from rfl] at hx539_4); (try rw [show 0 * 6 = 0 from rfl] at hx539_4); (try rw [Addr.add_zero'] at hx539_4); (try rw [show ((0 : Int)).toNat = 0 from rfl] at hx539_5); (try rw [show 0 * 6 = 0 from rfl] at hx539_5); (try rw [Addr.add_zero'] at hx539_5); replace hx539_0 := tcl HB hx539_0; replace hx539_1 := tcl HB hx539_1; replace hx539_2 := tcl HB hx539_2; replace hx539_3 := tcl HB hx539_3; replace hx539_4 := tcl HB hx539_4; replace hx539_5 := tcl HB hx539_5; have HR539_3 := Aside0.mk hi539_3; have HC539_3 := Aside0.mk hl539_3; clear hi539_3 hl539_3; have HR539_5 := Aside0.mk hi539_5; have HC539_5 := Aside0.mk hl539_5; clear hi539_5 hl539_5; replace p539 := eq_true p539; replace q539 := eq_true q539))
  go_ret
  exact ⟨by first | rfl | (simp [errW_none, errW_some] <;> rfl) | (simp [*, errW_none, errW_some] <;> rfl), zb⟩
 ·rw [if_neg c2] at H
  exact absurd H (by simp)

end Go.Proofs.Ytkihdohphddjaaa.G

namespace Go.Proofs.Ytkihdohphddjaaa.G
open Go.RowKit Go.Proofs.YtkihdohphddjaaaW.PrintWords Go.Proofs.YtkihdohphddjaaaW.PrintLast Go.Proofs.YtkihdohphddjaaaW.PrintMore Go.Proofs.Ytkihdohphddjaaa.Pu
set_option linter.unusedVariables false
set_option linter.unusedSimpArgs false
theorem last_q (b : S75) (A : Option Addr) (c : Nat) (w : World) (hr : Kd.C k78 w A b.f5.length b.f5) (hc : b.f5.length ≤ c) (hn : 1 ≤ b.f5.length ∧ b.f5.length ≤ 6) : Calls Try.prog 41 #[.agg #[.bool b.f0, .bool b.f1, .int .i64 b.f2, .int .i64 b.f3, .int .i64 b.f4, .slice A b.f5.length c]] w fun e w' => e = .returned (.int .i64 (lastOf b)) ∧ Below w.heap.size w w' :=
  impl_Batch_last.calls _ _ _ _ _ A c b.f5 _ w hr hc (by
    unfold impl_Batch_last.f lastOf
    simp only [w64 (a := (b.f5.length : Int) - 1) (by omega) (by omega), if_pos (show (0 : Int) ≤ (b.f5.length : Int) - 1 by omega), if_pos (show (b.f5.length : Int) - 1 < (b.f5.length : Int) by omega), if_pos (show (0 : Int) < (b.f5.length : Int) by omega)])
theorem first_q (b : S75) (A : Option Addr) (c : Nat) (w : World) (hr : Kd.C k78 w A b.f5.length b.f5) (hc : b.f5.length ≤ c) (hn : 1 ≤ b.f5.length ∧ b.f5.length ≤ 6) : Calls Try.prog 55 #[.agg #[.bool b.f0, .bool b.f1, .int .i64 b.f2, .int .i64 b.f3, .int .i64 b.f4, .slice A b.f5.length c]] w fun e w' => e = .returned (.int .i64 (firstOf b)) ∧ Below w.heap.size w w' :=
  impl_Batch_first.calls _ _ _ _ _ A c b.f5 _ w hr hc (by
    unfold impl_Batch_first.f firstOf
    simp only [w64 (a := (b.f5.length : Int) - 1) (by omega) (by omega), if_pos (show (0 : Int) ≤ (b.f5.length : Int) - 1 by omega), if_pos (show (b.f5.length : Int) - 1 < (b.f5.length : Int) by omega), if_pos (show (0 : Int) < (b.f5.length : Int) by omega)])
set_option maxRecDepth 100000 in
set_option maxHeartbeats 4000000 in
theorem impllog_q (l : List S75) (A : Option Addr) (c : Nat) (w : World) (hr : Kd.C k75 w A l.length l) (hc : l.length ≤ c) :
    Calls Try.prog 37 #[.slice A l.length c] w fun e w' => e = .returned (.bool (logOk l)) ∧ Below w.heap.size w w' := by
  have hl := hr.2.1
  unfold logOk
  have HR := Aside0.mk hr
  clear hr
  by_cases h8 : (l.length : Int) ≤ 8
  · rw [decide_eq_true h8, Bool.and_true]
    go_enter Try.func37, Try.ntmps37
    go_wp2
    go_loopw [10] (fun v10 wr => ∃ i : Nat, v10 = .int .i64 i ∧ i ≤ l.length ∧ (∀ j, j < i → batStep l j = true) ∧ Below w.heap.size w wr) (fun v10 _ => l.length - (intOf v10).toNat)
    case atStart => exact ⟨0, rfl, Nat.zero_le _, fun j hj => absurd hj (Nat.not_lt_zero j), Below.refl _ _⟩
    case round =>
      obtain ⟨i, rfl, hi, hall, hB1⟩ := hrel
      by_cases hlt : i < l.length
      · obtain ⟨ad, A5, c5, rfl, e0, e1, e2, e3, e4, e5, l5, g5⟩ := at_T75 (Kd.C_below HR.out hB1) (i : Int) (by omega) (by omega)
        rw [show ((i : Int)).toNat = i from rfl] at e0 e1 e2 e3 e4 e5
        have hrec : batStep l i = (batOk (rd_T75 l (i : Int)) && (decide (i = 0) || decide (lastOf (rd_T75 l ((i : Int) - 1)) < firstOf (rd_T75 l (i : Int))))) := rfl
        generalize rd_T75 l (i : Int) = bi at *
        go_wp2
        have bR := heap_alloc_new wr (.cells #[.bool bi.f0, .bool bi.f1, .int .i64 bi.f2, .int .i64 bi.f3, .int .i64 bi.f4, .slice A5 bi.f5.length c5] 75)
        have hB2 := below_alloc hB1 (.cells #[.bool bi.f0, .bool bi.f1, .int .i64 bi.f2, .int .i64 bi.f3, .int .i64 bi.f4, .slice A5 bi.f5.length c5] 75)
        have hBr := below_alloc (Below.refl wr.heap.size wr) (.cells #[.bool bi.f0, .bool bi.f1, .int .i64 bi.f2, .int .i64 bi.f3, .int .i64 bi.f4, .slice A5 bi.f5.length c5] 75)
        generalize wr.alloc _ = W1 at bR hB2 hBr ⊢
        have HRC := Aside0.mk (fun (W2 : World) (hb : Below wr.heap.size wr W2) => implbat_q bi A5 c5 W2 (Kd.C_below g5 hb) l5)
        have HF := Aside0.mk (fun (W2 : World) (hb : Below wr.heap.size wr W2) (hn : 1 ≤ bi.f5.length ∧ bi.f5.length ≤ 6) => first_q bi A5 c5 W2 (Kd.C_below g5 hb) l5 hn)
        have kS : ∀ w' : World, Below W1.drew.heap.size W1.drew w' → CellsB w' ⟨wr.heap.size, 0, none⟩ bi A5 c5 ∧ Below W1.heap.size W1 w' := fun w' h => ⟨⟨pw_cell_below h (blk_cell bR 0), pw_cell_below h (blk_cell bR 1), pw_cell_below h (blk_cell bR 2), pw_cell_below h (blk_cell bR 3), pw_cell_below h (blk_cell bR 4), pw_cell_below h (blk_cell bR 5)⟩, below_step (below_drew (Below.refl _ W1)) h⟩
        rcases hok : batOk bi with _ | _ <;> rw [hok] at HRC
        · have hno := Aside0.mk (logs_no hlt (hrec.trans (by rw [hok]; rfl)))
          refine r_begin (fun w' => CellsB w' ⟨wr.heap.size, 0, none⟩ bi A5 c5 ∧ Below W1.heap.size W1 w') 18 (by kernel_rfl) rfl (kS _ (Below.refl _ _)) (fun hH => ?_)
          repeat (first | (refine r_skip (by kernel_rfl) (by rfl) (fun _ _ _ h => h) hH ?_; simp only [Act.put, List.setIfInBounds_toArray, List.set_cons_zero, List.set_cons_succ, Nat.reduceAdd]) | (refine r_go (v := ?_) (by kernel_rfl) (by rfl) (fun _ _ _ h => h) hH ?_ ?_; rotate_left; (focus (intro w hS; obtain ⟨⟨e0, e1, e2, e3, e4, e5⟩, e6⟩ := hS; go_simp; first | done | with_reducible rfl)); simp only [Act.put, List.setIfInBounds_toArray, List.set_cons_zero, List.set_cons_succ, Nat.reduceAdd]) | (fail "x"))
          refine r_one (by kernel_rfl) (by rfl) (fun K hK => ?_)
          go_simp
          go_at_call 54
          refine (HRC.out _ (below_step hBr hH.2)).mono ?_
          rintro e w2 ⟨rfl, hb⟩
          go_wp2_with fail
          refine hK.out _ _ (kS _ hb) (fun hH => ?_)
          clear hK K
          simp only [Act.put, List.setIfInBounds_toArray, List.set_cons_zero, List.set_cons_succ, Nat.reduceAdd]
          repeat (first | (refine r_skip (by kernel_rfl) (by rfl) (fun _ _ _ h => h) hH ?_; simp only [Act.put, List.setIfInBounds_toArray, List.set_cons_zero, List.set_cons_succ, Nat.reduceAdd]) | (refine r_go (v := ?_) (by kernel_rfl) (by rfl) (fun _ _ _ h => h) hH ?_ ?_; rotate_left; (focus (intro w hS; obtain ⟨⟨e0, e1, e2, e3, e4, e5⟩, e6⟩ := hS; go_simp; first | done | with_reducible rfl)); simp only [Act.put, List.setIfInBounds_toArray, List.set_cons_zero, List.set_cons_succ, Nat.reduceAdd]) | (fail "x"))
          refine r_done (by kernel_rfl) ?_
          go_wp2
          go_ret
          exact ⟨by rw [hno.out]; rfl, below_step hB2 hH.2⟩
        · rcases i with _ | j
          · refine r_begin (fun w' => CellsB w' ⟨wr.heap.size, 0, none⟩ bi A5 c5 ∧ Below W1.heap.size W1 w') 18 (by kernel_rfl) rfl (kS _ (Below.refl _ _)) (fun hH => ?_)
            repeat (first | (refine r_skip (by kernel_rfl) (by rfl) (fun _ _ _ h => h) hH ?_; simp only [Act.put, List.setIfInBounds_toArray, List.set_cons_zero, List.set_cons_succ, Nat.reduceAdd]) | (refine r_go (v := ?_) (by kernel_rfl) (by rfl) (fun _ _ _ h => h) hH ?_ ?_; rotate_left; (focus (intro w hS; obtain ⟨⟨e0, e1, e2, e3, e4, e5⟩, e6⟩ := hS; go_simp; first | done | with_reducible rfl)); simp only [Act.put, List.setIfInBounds_toArray, List.set_cons_zero, List.set_cons_succ, Nat.reduceAdd]) | (fail "x"))
            refine r_one (by kernel_rfl) (by rfl) (fun K hK => ?_)
            go_simp
            go_at_call 54
            refine (HRC.out _ (below_step hBr hH.2)).mono ?_
            rintro e w2 ⟨rfl, hb⟩
            go_wp2_with fail
            refine hK.out _ _ (kS _ hb) (fun hH => ?_)
            clear hK K
            simp only [Act.put, List.setIfInBounds_toArray, List.set_cons_zero, List.set_cons_succ, Nat.reduceAdd]
            repeat (first | (refine r_skip (by kernel_rfl) (by rfl) (fun _ _ _ h => h) hH ?_; simp only [Act.put, List.setIfInBounds_toArray, List.set_cons_zero, List.set_cons_succ, Nat.reduceAdd]) | (refine r_go (v := ?_) (by kernel_rfl) (by rfl) (fun _ _ _ h => h) hH ?_ ?_; rotate_left; (focus (intro w hS; obtain ⟨⟨e0, e1, e2, e3, e4, e5⟩, e6⟩ := hS; go_simp; first | done | with_reducible rfl)); simp only [Act.put, List.setIfInBounds_toArray, List.set_cons_zero, List.set_cons_succ, Nat.reduceAdd]) | (fail "x"))
            refine r_done (by kernel_rfl) ?_
            go_wp2
            go_roundw
            case rel =>
              have hst : ∀ j, j < 0 + 1 → batStep l j = true := by
                intro j hj
                obtain rfl : j = 0 := by omega
                exact hrec.trans (by rw [hok]; rfl)
              first | exact ⟨0 + 1, by simp, hlt, hst, below_step hB2 hH.2⟩ | ((repeat apply Exists.intro); refine ⟨⟨0 + 1, ?_, hlt, hst, below_step hB2 hH.2⟩, by first | rfl | (repeat' apply And.intro) <;> rfl⟩; simp)
            case measure => simp [intOf]; omega
          · obtain ⟨ad2, A4, c4, hq, f0, f1, f2, f3, f4, f5, l4, g4⟩ := at_T75 (Kd.C_below HR.out hB1) (j : Int) (by omega) (by omega)
            cases hq
            rw [show ((j : Int)).toNat = j from rfl] at f0 f1 f2 f3 f4 f5
            have hjs := hall j (by omega)
            have hrec2 : batStep l (j + 1) = (batOk bi && (decide (j + 1 = 0) || decide (lastOf (rd_T75 l (j : Int)) < firstOf bi))) := by
              rw [hrec, show ((j + 1 : Nat) : Int) - 1 = (j : Int) by omega]
            unfold batStep at hjs
            have hbj := (Bool.and_eq_true_iff.1 hjs).1
            clear hjs
            generalize rd_T75 l (j : Int) = bj at *
            have hnj := batOk_len hbj
            have hni := batOk_len hok
            have cj : CellsB wr (ad.add (j * 6)) bj A4 c4 := ⟨f0, f1, f2, f3, f4, f5⟩
            have cj1 := cj.below hBr
            have hwj : IntKind.i64.wrap (j : Int) = (j : Int) := by rw [i64_w]; unfold wrap64; omega
            have hjl : (j : Int) < (l.length : Int) := by omega
            have HL := Aside0.mk (fun (W2 : World) (hb : Below wr.heap.size wr W2) => last_q bj A4 c4 W2 (Kd.C_below g4 hb) l4 hnj)
            have kS2 : ∀ w' : World, Below W1.heap.size W1 w' → CellsB w' ⟨wr.heap.size, 0, none⟩ bi A5 c5 ∧ CellsB w' (ad.add (j * 6)) bj A4 c4 ∧ Below W1.heap.size W1 w' := fun w' h => ⟨⟨pw_cell_below h (blk_cell bR 0), pw_cell_below h (blk_cell bR 1), pw_cell_below h (blk_cell bR 2), pw_cell_below h (blk_cell bR 3), pw_cell_below h (blk_cell bR 4), pw_cell_below h (blk_cell bR 5)⟩, cj1.below h, h⟩
            have hno := Aside0.mk hrec2
            clear hrec hrec2
            clear cj cj1 f0 f1 f2 f3 f4 f5 e0 e1 e2 e3 e4 e5
            go_region_held3 (fun w' => (w'.cell? ⟨wr.heap.size, 0, none⟩ = some (.bool bi.f0) ∧ w'.cell? ⟨wr.heap.size, 0 + 1, none⟩ = some (.bool bi.f1) ∧ w'.cell? ⟨wr.heap.size, 0 + 2, none⟩ = some (.int .i64 bi.f2) ∧ w'.cell? ⟨wr.heap.size, 0 + 3, none⟩ = some (.int .i64 bi.f3) ∧ w'.cell? ⟨wr.heap.size, 0 + 4, none⟩ = some (.int .i64 bi.f4) ∧ w'.cell? ⟨wr.heap.size, 0 + 5, none⟩ = some (.slice A5 bi.f5.length c5)) ∧ (w'.cell? (ad.add (j * 6)) = some (.bool bj.f0) ∧ w'.cell? ⟨(ad.add (j * 6)).block, (ad.add (j * 6)).off + 1, none⟩ = some (.bool bj.f1) ∧ w'.cell? ⟨(ad.add (j * 6)).block, (ad.add (j * 6)).off + 2, none⟩ = some (.int .i64 bj.f2) ∧ w'.cell? ⟨(ad.add (j * 6)).block, (ad.add (j * 6)).off + 3, none⟩ = some (.int .i64 bj.f3) ∧ w'.cell? ⟨(ad.add (j * 6)).block, (ad.add (j * 6)).off + 4, none⟩ = some (.int .i64 bj.f4) ∧ w'.cell? ⟨(ad.add (j * 6)).block, (ad.add (j * 6)).off + 5, none⟩ = some (.slice A4 bj.f5.length c4)) ∧ Below W1.heap.size W1 w') (first | exact kS2 _ (below_drew (Below.refl _ _)) | exact kS2 _ (below_step (below_drew (Below.refl _ _)) ‹_›) | exact kS2 _ (below_step (‹_ ∧ _ ∧ Below W1.heap.size W1 _›).2.2 ‹_›))
              (first | (go_at_call 54; refine (HRC.out _ (below_step hBr (by first | exact below_drew (Below.refl _ _) | exact (‹_ ∧ _ ∧ Below W1.heap.size W1 _›).2.2))).mono ?_; rintro e w' ⟨rfl, hb⟩) | (go_at_call 41; refine (HL.out _ (below_step hBr (by first | exact below_drew (Below.refl _ _) | exact (‹_ ∧ _ ∧ Below W1.heap.size W1 _›).2.2))).mono ?_; rintro e w' ⟨rfl, hb⟩) | (go_at_call 55; refine (HF.out _ (below_step hBr (by first | exact below_drew (Below.refl _ _) | exact (‹_ ∧ _ ∧ Below W1.heap.size W1 _›).2.2)) hni).mono ?_; rintro e w' ⟨rfl, hb⟩))
            all_goals
              have hBw := below_step hB2 (‹_ ∧ _ ∧ Below W1.heap.size W1 _›).2.2
              by_cases hc : lastOf bj < firstOf bi
              · have hst : ∀ j', j' < j + 1 + 1 → batStep l j' = true := by
                  intro j' hj
                  by_cases h' : j' < j + 1
                  · exact hall j' h'
                  · obtain rfl : j' = j + 1 := by omega
                    rw [hno.out, hok, decide_eq_true hc, Bool.or_true]; rfl
                have hng : ¬ firstOf bi ≤ lastOf bj := by omega
                go_wp2
                go_roundw
                case rel => first | exact ⟨j + 1 + 1, by simp, hlt, hst, hBw⟩ | ((repeat apply Exists.intro); refine ⟨⟨j + 1 + 1, ?_, hlt, hst, hBw⟩, by first | rfl | (repeat' apply And.intro) <;> rfl⟩; simp)
                case measure => simp [intOf]; omega
              · have hn2 := Aside0.mk (logs_no hlt (hno.out.trans (by rw [hok, decide_eq_false hc, decide_eq_false (show ¬ j + 1 = 0 by omega)]; rfl)))
                have hng : firstOf bi ≤ lastOf bj := by omega
                go_wp2
                go_ret
                exact ⟨by rw [hn2.out]; rfl, hBw⟩
      · obtain rfl : i = l.length := by omega
        go_wp2
        go_ret
        exact ⟨by rw [logs_of hall]; rfl, hB1⟩
  · rw [decide_eq_false h8, Bool.and_false]
    have hg : (8 : Int) < (l.length : Int) := by omega
    go_enter Try.func37, Try.ntmps37
    go_wp2
    go_ret
    exact ⟨rfl, Below.refl _ _⟩
def impl_LogValid.f (k : Nat) (a0 : List S75) : Option Bool := some (logOk a0)
theorem impl_LogValid.calls (k : Nat) (A0 : Option Addr) (c0 : Nat) (l0 : List (S75)) (r : Bool) (w : World) (hr0 : Kd.C k75 w A0 l0.length l0) (hc0 : l0.length ≤ c0) (h : impl_LogValid.f k l0 = some r) :
    Calls Try.prog 37 #[.slice A0 l0.length c0] w fun e w' => e = .returned (.bool r) ∧ Below w.heap.size w w' := by
  obtain rfl := Option.some.inj h
  exact impllog_q l0 A0 c0 w hr0 hc0
end Go.Proofs.Ytkihdohphddjaaa.G

namespace Go.Proofs.Ytkihdohphddjaaa.G
open Go.RowKit Go.Shelf Go.Proofs.YtkihdohphddjaaaW.PrintWords Go.Proofs.YtkihdohphddjaaaW.PrintLast Go.Proofs.YtkihdohphddjaaaW.PrintMore
attribute [local go_sem] Oper.semAt_some
set_option linter.unusedVariables false
set_option linter.unusedSimpArgs false
def aggB (b : S75) (A : Option Addr) (c : Nat) : Value := .agg #[.bool b.f0, .bool b.f1, .int .i64 b.f2, .int .i64 b.f3, .int .i64 b.f4, .slice A b.f5.length c]
def aggR (r : S78) (A3 : Option Addr) (c3 : Nat) (A5 : Option Addr) (c5 : Nat) : Value := .agg #[.int .i64 r.f0, .int .i64 r.f1, .bool r.f2, .slice A3 r.f3.length c3, .bool r.f4, .slice A5 r.f5.length c5]
/-- What a round is handed: a batch, and one of its records, with what their slices hold. -/
structure RX (w : World) (l : List S75) where
  b : S75
  A : Option Addr
  c : Nat
  r : S78
  A3 : Option Addr
  c3 : Nat
  A5 : Option Addr
  c5 : Nat
  hA : b.f5.length ≤ c ∧ Kd.C k78 w A b.f5.length b.f5
  h3 : r.f3.length ≤ c3 ∧ (Kd.int .i64).C w A3 r.f3.length r.f3
  h5 : r.f5.length ≤ c5 ∧ (Kd.int .i64).C w A5 r.f5.length r.f5
  hm : (b, r) ∈ l.flatMap fun b => b.f5.map fun r => (b, r)
def RX.encs {w : World} {l : List S75} (x : RX w l) : Array Value := #[aggB x.b x.A x.c, aggR x.r x.A3 x.c3 x.A5 x.c5]
def RX.key {w : World} {l : List S75} (x : RX w l) : S75 × S78 := (x.b, x.r)
def allP (l : List S75) : List (S75 × S78) := l.flatMap fun b => b.f5.map fun r => (b, r)
/-- What a round that goes on keeps: what lay ahead of the call, and the cells made since the loop began (rows of bytes aside). -/
def keepB : Obj → Bool
  | .cells _ t _ => t != 5
  | _ => false
theorem keepB_cells {o : Obj} (h : keepB o = true) : o.isCells = true := by cases o <;> simp_all [keepB, Obj.isCells]
def KpA (n₀ n₁ : Nat) (W W' : World) : Prop := Below n₀ W W' ∧ ∀ k o, n₁ ≤ k → W.heap[k]? = some o → keepB o = true → W'.heap[k]? = some o
theorem kpA_t {n₀ n₁ : Nat} {A B C : World} (h : KpA n₀ n₁ A B) (k : KpA n₀ n₁ B C) : KpA n₀ n₁ A C := ⟨h.1.trans k.1, fun i o hi ho hc => k.2 i o hi (h.2 i o hi ho hc) hc⟩
theorem kpA_b {n₀ n₁ : Nat} {w : World} (hn : n₀ ≤ w.heap.size) (W : World) (l : Nat) (o o' : Obj) (hl : w.heap.size ≤ l) (h : W.heap[l]? = some o) (hc : o.isCells = false) (hw : o.isWalk = false) : KpA n₀ n₁ W (W.putObj l o') :=
  ⟨belowK_b hn W l o o' hl h hc hw, fun k x hk hx hxc => by
    have hne : k ≠ l := by
      rintro rfl
      rw [h] at hx
      cases hx
      rw [keepB_cells hxc] at hc
      exact Bool.noConfusion hc
    rw [World.putObj_heap_other hne]
    exact hx⟩
theorem kpA_refl (n₀ n₁ : Nat) (W : World) : KpA n₀ n₁ W W := ⟨Below.refl _ _, fun _ _ _ h _ => h⟩
theorem allP_len : ∀ (l : List S75) (m : Nat), (∀ b ∈ l, b.f5.length ≤ m) → (allP l).length ≤ l.length * m
  | [], _, _ => by simp [allP]
  | b :: l, m, h => by
    have h1 := allP_len l m fun x hx => h x (List.mem_cons_of_mem _ hx)
    have h2 := h b (List.mem_cons_self ..)
    unfold allP at h1 ⊢
    rw [List.flatMap_cons, List.length_append, List.length_map, List.length_cons, Nat.succ_mul]
    omega
theorem allP_take_succ (l : List S75) (i : Nat) (h : i < l.length) : allP (l.take (i + 1)) = allP (l.take i) ++ l[i].f5.map fun r => (l[i], r) := by
  unfold allP
  rw [List.take_succ_eq_append_getElem h, List.flatMap_append]
  simp
theorem allP_take_prefix (l : List S75) (i : Nat) : allP (l.take i) <+: allP l := by
  have : l.take i ++ l.drop i = l := List.take_append_drop i l
  conv => rhs; rw [← this]
  unfold allP
  rw [List.flatMap_append]
  exact List.prefix_append _ _
theorem allP_mid (l : List S75) (i : Nat) (h : i < l.length) (j : Nat) : allP (l.take i) ++ (l[i].f5.take j).map (fun r => (l[i], r)) <+: allP l := by
  refine List.IsPrefix.trans ?_ (allP_take_prefix l (i + 1))
  rw [allP_take_succ l i h]
  exact List.prefix_append_right_inj _ |>.2 (by rw [List.map_take]; exact List.take_prefix _ _)
theorem cells_of_heap (W : World) (b : Nat) (cs : Array Value) (e : TypeId) (h : W.heap[b]? = some (.cells cs e)) (i : Nat) (v : Value) (hv : cs[i]? = some v) : W.cell? ⟨b, i, none⟩ = some v := by
  unfold World.cell?
  dsimp only
  rw [h]
  exact hv
theorem rdb_nat (l : List S75) (i : Nat) (h : i < l.length) : rd_T75 l (i : Int) = l[i] := by
  unfold rd_T75
  simp [h]
theorem rdr_nat (l : List S78) (i : Nat) (h : i < l.length) : rd_T78 l (i : Int) = l[i] := by
  unfold rd_T78
  simp [h]
set_option maxRecDepth 100000 in
set_option maxHeartbeats 4000000 in
/-- The closure: for every loop body that keeps what lay ahead, and what the loop has made. -/
theorem recs1_in (F : Fence) (n : Nat) (hf : F.fn 56) (hro : F.round = none) (hn : 1 ≤ n) (w : World) (A0 : Option Addr) (c0 : Nat) (l : List S75) (hr : Kd.C k75 w A0 l.length l) (hlen : l.length ≤ 100 ∧ ∀ b ∈ l, b.f5.length ≤ 100) (lp Bs n₁ : Nat) (hw1 : w.heap.size ≤ n₁) (J Jx : List (RX w l) → World → Prop)
    (hY : ∀ pre x W, J pre W → pre.length < (allP l).length → YieldAt F (n - 1) Try.prog lp x.encs W fun e W' =>
      (e = .returned (.bool true) ∧ J (pre ++ [x]) W' ∧ KpA w.heap.size n₁ W W') ∨ (e = .returned (.bool false) ∧ Jx (pre ++ [x]) W'))
    (W : World) (hB : Below w.heap.size w W) (hn1 : n₁ ≤ W.heap.size) (hJ : AbidesFrom W.heap.size J) (hBs : W.cell? ⟨Bs, 0, none⟩ = some (.slice A0 l.length c0)) (h0 : J [] W) :
    CallsIn F n Try.prog 56 #[.func (.yield lp) #[] #[], .pointer (some ⟨Bs, 0, none⟩)] W fun e W' => (∃ v, e = .returned v) ∧
      ((∃ ys, ys.map RX.key = allP l ∧ J ys W') ∨ (∃ pre, pre.map RX.key <+: allP l ∧ Jx pre W')) := by
  refine callsIn_of_wp Try.func56 rfl hf ?_ hro
  simp only [Try.ntmps56, List.size_toArray, List.length_cons, List.length_nil, Nat.reduceAdd, Nat.reduceSub, Array.replicate_succ, Array.replicate_zero, List.push_toArray, List.append_toArray, List.nil_append, List.cons_append]
  gi_wp2
  gi_loopw [9] (fun p wr => ∃ (i : Nat) (pre : List (RX w l)), p = .int .i64 i ∧ i ≤ l.length ∧ pre.map RX.key = allP (l.take i) ∧ J pre wr ∧ Below w.heap.size w wr ∧ W.heap.size ≤ wr.heap.size) (fun i _ => l.length - (intOf i).toNat)
  case atStart => exact ⟨0, [], rfl, Nat.zero_le _, rfl, h0, hB, Nat.le_refl _⟩
  case round =>
    obtain ⟨i, pre, rfl, hi, hpre, hJs, hbw, hsz⟩ := hrel
    generalize wr = wo at *
    by_cases hlt : i < l.length
    · obtain ⟨ad, A, c, e, hx0, hx1, hx2, hx3, hx4, hx5, hl5, hi5⟩ := at_T75 hr (i : Int) (by omega) (by omega)
      cases e
      rw [show ((i : Int)).toNat = i from rfl, rdb_nat l i hlt] at hx0 hx1 hx2 hx3 hx4 hx5
      rw [rdb_nat l i hlt] at hl5 hi5
      replace hx0 := (hbw.cell (World.block_lt_of_cell? w _ hx0)).trans hx0
      replace hx1 := (hbw.cell (World.block_lt_of_cell? w _ hx1)).trans hx1
      replace hx2 := (hbw.cell (World.block_lt_of_cell? w _ hx2)).trans hx2
      replace hx3 := (hbw.cell (World.block_lt_of_cell? w _ hx3)).trans hx3
      replace hx4 := (hbw.cell (World.block_lt_of_cell? w _ hx4)).trans hx4
      replace hx5 := (hbw.cell (World.block_lt_of_cell? w _ hx5)).trans hx5
      have hmid := allP_mid l i hlt
      have hlen1 := hlen.1
      have hlenb := hlen.2 _ (List.getElem_mem hlt)
      have hsucc := allP_take_succ l i hlt
      have hbm := List.getElem_mem hlt
      generalize l[i] = bi at hx0 hx1 hx2 hx3 hx4 hx5 hl5 hi5 hmid hsucc hlenb hbm
      gi_wp2
      have hbox : (wo.alloc (.cells #[.bool bi.f0, .bool bi.f1, .int .i64 bi.f2, .int .i64 bi.f3, .int .i64 bi.f4, .slice A bi.f5.length c] 75)).heap[wo.heap.size]? = some (.cells #[.bool bi.f0, .bool bi.f1, .int .i64 bi.f2, .int .i64 bi.f3, .int .i64 bi.f4, .slice A bi.f5.length c] 75) := World.alloc_heap_new wo _
      gi_loopw [16] (fun p ws => ∃ (j : Nat) (pre : List (RX w l)), p = .int .i64 j ∧ j ≤ bi.f5.length ∧ pre.map RX.key = allP (l.take i) ++ (bi.f5.take j).map (fun r => (bi, r)) ∧ J pre ws ∧ Below w.heap.size w ws ∧ wo.heap.size < ws.heap.size ∧ ws.heap[wo.heap.size]? = some (.cells #[.bool bi.f0, .bool bi.f1, .int .i64 bi.f2, .int .i64 bi.f3, .int .i64 bi.f4, .slice A bi.f5.length c] 75)) (fun j _ => bi.f5.length - (intOf j).toNat)
      case atStart =>
        exact ⟨0, pre, rfl, Nat.zero_le _, by simp [hpre], hJ pre wo _ none hJs (World.grownBy_alloc wo _ none) (fun r e => by cases e), below_alloc hbw _, by simp, hbox⟩
      case round =>
        obtain ⟨j, pre2, rfl, hj, hpre2, hJs2, hbw2, hsz2, hbox2⟩ := hrel
        by_cases hjl : j < bi.f5.length
        · obtain ⟨ad2, A3, c3, A5, c5, e2, hy0, hy1, hy2, hy3, hy4, hy5, hl3', hi3', hl5', hi5'⟩ := at_T78 hi5 (j : Int) (by omega) (by omega)
          cases e2
          rw [show ((j : Int)).toNat = j from rfl, rdr_nat _ j hjl] at hy0 hy1 hy2 hy3 hy4 hy5
          rw [rdr_nat _ j hjl] at hl3' hi3' hl5' hi5'
          replace hy0 := (hbw2.cell (World.block_lt_of_cell? w _ hy0)).trans hy0
          replace hy1 := (hbw2.cell (World.block_lt_of_cell? w _ hy1)).trans hy1
          replace hy2 := (hbw2.cell (World.block_lt_of_cell? w _ hy2)).trans hy2
          replace hy3 := (hbw2.cell (World.block_lt_of_cell? w _ hy3)).trans hy3
          replace hy4 := (hbw2.cell (World.block_lt_of_cell? w _ hy4)).trans hy4
          replace hy5 := (hbw2.cell (World.block_lt_of_cell? w _ hy5)).trans hy5
          have hnext : bi.f5.take (j + 1) = bi.f5.take j ++ [bi.f5[j]] := List.take_succ_eq_append_getElem hjl
          have hshort := (hmid (j + 1)).length_le
          rw [hnext, List.map_append, ← List.append_assoc, ← hpre2, List.length_append] at hshort
          simp only [List.map_cons, List.map_nil, List.length_singleton, List.length_map] at hshort
          have hm1 := hmid (j + 1)
          rw [hnext, List.map_append, ← List.append_assoc, ← hpre2] at hm1
          have hrm := List.getElem_mem hjl
          generalize bi.f5[j] = rj at hrm hy0 hy1 hy2 hy3 hy4 hy5 hl3' hi3' hl5' hi5' hnext hm1
          have hJ3 := hJ pre2 wr (wr.alloc (.cells #[.int .i64 rj.f0, .int .i64 rj.f1, .bool rj.f2, .slice A3 rj.f3.length c3, .bool rj.f4, .slice A5 rj.f5.length c5] 78)) none hJs2 (World.grownBy_alloc wr _ none) (fun r e => by cases e)
          obtain ⟨fn, tmps, assign, body, hy, hR⟩ := hY pre2 ⟨bi, some ad2, c, rj, A3, c3, A5, c5, ⟨hl5, hi5⟩, ⟨hl3', hi3'⟩, ⟨hl5', hi5'⟩, List.mem_flatMap.2 ⟨bi, hbm, List.mem_map.2 ⟨rj, hrm, rfl⟩⟩⟩ _ hJ3 (by omega)
          simp only [RX.encs, aggB, aggR] at hy
          have hz := cells_of_heap wr wo.heap.size _ _ hbox2
          have hz0 := hz 0 _ rfl
          have hz1 := hz 1 _ rfl
          have hz2 := hz 2 _ rfl
          have hz3 := hz 3 _ rfl
          have hz4 := hz 4 _ rfl
          have hz5 := hz 5 _ rfl
          gi_wp2
          refine hR.mono ?_
          rintro e W3 (⟨rfl, hJ3', hk3⟩ | ⟨rfl, hJx3⟩)
          · have hsz3 := hk3.1.size
            rw [World.size_alloc] at hsz3
            gi_wp2
            go_roundw
            case rel =>
              refine ⟨j + 1, _, by simp, by omega, ?_, hJ3', (below_alloc hbw2 _).trans hk3.1, by omega, hk3.2 _ _ (by omega) ((Below.heap_alloc wr _ _ hsz2).trans hbox2) rfl⟩
              rw [List.map_append, hpre2, hnext, List.map_append, List.append_assoc]
              rfl
            case measure => simp [intOf]; omega
          · gi_wp2
            refine bodyPost_ret (results_none rfl _ _ _) rfl ?_
            exact ⟨⟨_, rfl⟩, .inr ⟨_, by rw [List.map_append]; exact hm1, hJx3⟩⟩
        · obtain rfl : j = bi.f5.length := by omega
          gi_wp2
          go_roundw
          case rel => exact ⟨i + 1, pre2, by simp, by omega, by rw [hpre2, hsucc, List.take_length], hJs2, hbw2, by omega⟩
          case measure => simp [intOf]; omega
    · obtain rfl : i = l.length := by omega
      gi_wp2
      go_end0
      refine ⟨⟨_, rfl⟩, .inl ⟨pre, ?_, hJs⟩⟩
      rw [hpre, List.take_length]
set_option maxHeartbeats 1000000 in
/-- The maker: the row is boxed; the function value captures the box. -/
theorem recs_in (F : Fence) (n : Nat) (hf : F.fn 38) (hro : F.round = none) (a : Option Addr) (len cap : Nat) (w : World) :
    CallsIn F n Try.prog 38 #[.slice a len cap] w fun e w' => e = .returned (.func (.func 56) #[] #[.pointer (some ⟨w.heap.size, 0, none⟩)]) ∧ w' = w.alloc (.cells #[.slice a len cap] 41) := by
  refine callsIn_of_wp Try.func38 rfl hf ?_ hro
  simp only [Try.ntmps38, List.size_toArray, List.length_cons, List.length_nil, Nat.reduceAdd, Nat.reduceSub, Array.replicate_succ, Array.replicate_zero, List.push_toArray, List.append_toArray, List.nil_append, List.cons_append]
  gi_wp2
  go_ret
  exact ⟨rfl, rfl⟩
theorem recs_stops (F : Fence) (n : Nat) (hf : F.fn 56) (hro : F.round = none) (hn : 1 ≤ n) (w : World) (A0 : Option Addr) (c0 : Nat) (l : List S75) (hr : Kd.C k75 w A0 l.length l) (hlen : l.length ≤ 100 ∧ ∀ b ∈ l, b.f5.length ≤ 100) (Bs n₁ : Nat) (hw1 : w.heap.size ≤ n₁) (w0 : World) (hB : Below w.heap.size w w0) (hn1 : n₁ ≤ w0.heap.size) (hBs : Bs < w0.heap.size) (hc : w0.cell? ⟨Bs, 0, none⟩ = some (.slice A0 l.length c0)) :
    SeqStopsK F n Try.prog 56 #[.pointer (some ⟨Bs, 0, none⟩)] (RX.encs (w := w) (l := l)) (KpA w.heap.size n₁) (fun ys => ys.map RX.key = allP l) (fun pre => pre.map RX.key <+: allP l) (allP l).length w0 := fun lp J Jx W hW hJ hJx hY h0 =>
  recs1_in F n hf hro hn w A0 c0 l hr hlen lp Bs n₁ hw1 J Jx hY W (hB.trans (hW.mono hB.size)) (Nat.le_trans hn1 hW.size) hJ ((hW.cell (p := ⟨Bs, 0, none⟩) hBs).trans hc) h0
/-- A block of cells is abided by what turns no cells. -/
theorem heap_own {β : Type} (B b : Nat) (cs : Array Value) (e : TypeId) : OwnFrom (β := β) B (fun _ W => W.heap[b]? = some (.cells cs e)) := by
  intro s W W' row hs hg hr
  have hb := (Array.getElem?_eq_some_iff.1 hs).1
  refine (hg.block b hb ?_).trans hs
  intro h
  obtain ⟨_, o, ho, hc⟩ := hr b h.symm
  rw [hs] at ho
  cases ho
  exact Bool.noConfusion hc
theorem kpA_alloc (n₀ n₁ : Nat) {m : Nat} (hm : n₀ ≤ m) (W : World) (hn : n₀ ≤ W.heap.size) (o : Obj) : KpA n₀ n₁ W (W.alloc o) :=
  ⟨(Below.refl n₀ W).alloc hn o, fun k x _ hx _ => (Below.heap_alloc W o k (Array.getElem?_eq_some_iff.1 hx).1).trans hx⟩
def lenG (l : List S75) : Bool := decide (l.length ≤ 100) && l.all (fun b => decide (b.f5.length ≤ 100))
theorem lenG_of {l : List S75} (h : lenG l = true) : l.length ≤ 100 ∧ ∀ b ∈ l, b.f5.length ≤ 100 := by
  unfold lenG at h
  simp only [Bool.and_eq_true, decide_eq_true_eq, List.all_eq_true] at h
  exact h
end Go.Proofs.Ytkihdohphddjaaa.G

namespace Go.Proofs.Ytkihdohphddjaaa.G
open Go.RowKit Go.Proofs.YtkihdohphddjaaaW.PrintWords Go.Proofs.YtkihdohphddjaaaW.PrintLast Go.Proofs.YtkihdohphddjaaaW.PrintMore
set_option linter.unusedVariables false
variable {P : Program} {ops : Array Oper} {Q : Exit → Act → World → Prop} {md : Region.Mode} {S : World → Prop} {ds : List Nat} {oi : Oper} {v : Value} {fuel : Nat} {l : Array Bool} {a a' : Act} {w w1 : World} {K : Act → World → Prop}
theorem tpu (i : Nat) (N : Option Tmp) (l' : Array Bool) (h : wpAnyLast P md ops Q S ds fuel l' a' w) (hi : ops[i]? = some oi := by exact rfl) (hN : oi.dst = N := by exact rfl) (hc : anyB md ops l l' i = true := by exact any_of HT_.out (by kernel_rfl)) (hQ : ∀ c a w, Q (.panic c) (a.put oi.dst v) w → Q (.panic c) a w := by exact fun _ _ _ h => h) (hw : Region.wanted oi (yielded ops a.tmps) = true := by rfl) (hy : ∀ w, (execOp a.eval oi).run P w = .ok (.value v) w := by intro w'; go_simp; with_reducible rfl) (ha : a.put N v = a' := by simp only [Act.put, List.setIfInBounds_toArray, List.set_cons_zero, List.set_cons_succ, i64_w, i32_w]; rfl) : wpAnyLast P md ops Q S ds (fuel + 1) l a w := pure_ l' hi hN hc hQ (.inl ⟨hw, hy⟩) ha h
theorem tta (i : Nat) (N : Option Tmp) (l' : Array Bool) (hS : S w) (h : wpAnyLast P md ops Q S ds fuel l' a' w) (hi : ops[i]? = some oi := by exact rfl) (hN : oi.dst = N := by exact rfl) (hc : takeB md ops ds l l' i = true := by exact take_ofW HT_.out HW_.out (by kernel_rfl)) (hQ : ∀ c a w, Q (.panic c) (a.put oi.dst v) w → Q (.panic c) a w := by exact fun _ _ _ h => h) (hw : Region.wanted oi (yielded ops a.tmps) = true := by rfl) (hy : ∀ w, S w → (execOp a.eval oi).run P w = .ok (.value v) w) (ha : a.put N v = a' := by simp only [Act.put, List.setIfInBounds_toArray, List.set_cons_zero, List.set_cons_succ, i64_w, i32_w]; rfl) : wpAnyLast P md ops Q S ds (fuel + 1) l a w := take_ l' hi hN hc hQ (.inl ⟨hw, hy⟩) hS ha h
theorem tnm {N' : Option Tmp} {b : Act} (N : Option Tmp) (h : wpAnyLast P md ops Q S ds fuel l a' w) (hN : N' = N := by exact rfl) (ha : b.put N v = a' := by simp only [Act.put, List.setIfInBounds_toArray, List.set_cons_zero, List.set_cons_succ, i64_w, i32_w]; rfl) : wpAnyLast P md ops Q S ds fuel l (b.put N' v) w := norm_ (by rw [hN]; exact ha) h
theorem tsk (h : K a w1) (hw : Region.wanted oi (yielded ops a.tmps) = true := by rfl) (hN : oi.dst = none := by exact rfl) (hrun : (execOp a.eval oi).run P w = .ok .skip w1 := by go_simp; rfl) : if Region.wanted oi (yielded ops a.tmps) = true then Oper.wp P oi a w K Q else K (a.put none undef) w := skip_ hw hN hrun h
end Go.Proofs.Ytkihdohphddjaaa.G

namespace Go.Proofs.Ytkihdohphddjaaa.G
open Go.RowKit Go.Proofs.YtkihdohphddjaaaW.PrintWords Go.Proofs.YtkihdohphddjaaaW.PrintLast Go.Proofs.YtkihdohphddjaaaW.PrintMore
attribute [local go_sem] max2_int min2_int max_two min_two max_three min_three max_four min_four   -- for this text's walks alone
set_option linter.unusedVariables false
set_option linter.unusedSimpArgs false

mutual
def impl_letters.j0 : Nat → ByteArray → Bool → Option (Bool)
 | 0, _, _ => none
 | k + 1, x0, x14 => if x14 = true then (some false) else (impl_letters.l0 k x0 (x0.size : Int) 0)
def impl_letters.l0 : Nat → ByteArray → Int → Int → Option (Bool)
 | 0, _, _, _ => none
 | k + 1, x0, x16, x17 => if x17 < x16 then (if 0 ≤ x17 then (if x17 < (x0.size : Int) then (if (bt x0 x17) < 97 then (some false) else (if (bt x0 x17) > 122 then (some false) else (impl_letters.l0 k x0 x16 (wrap64 (x17 + 1))))) else (none)) else (none)) else (some true)
end
def impl_letters.f (k : Nat) (a0 : ByteArray) (a1 : Int) : Option (Bool) := if (a0.size : Int) < 1 then (impl_letters.j0 k a0 true) else (impl_letters.j0 k a0 (decide ((a0.size : Int) > a1)))
set_option maxHeartbeats 8000000 in
set_option maxRecDepth 100000 in
theorem impl_letters.calls (k : Nat) (a0 : ByteArray) (a1 : Int) (r : Bool) (w : World) (h : impl_letters.f k a0 a1 = some r) :
  Calls Try.prog 42 #[.string a0, .int .i64 a1] w fun e w' => e = .returned (.bool r) ∧ Drawn0 w w' := by
 have H : (if (a0.size : Int) < 1 then (impl_letters.j0 k a0 true) else (impl_letters.j0 k a0 (decide ((a0.size : Int) > a1)))) = some r := h
 clear h
 have HC3 := Aside0.mk H
 clear H
 go_enter Try.func42, Try.ntmps42
 go_upto_region 1 with (fail)
 go_cut [14] (fun v14 wc => ∃ (kq : Nat) (x14_2 : Bool), v14 = .bool x14_2 ∧ Aside0 (impl_letters.j0 kq a0 x14_2 = some r) ∧ Aside0 (kq ≤ k) ∧ Drawn0 w wc)
 case first =>
  have H := HC3.out
  clear HC3
  by_cases c4 : (a0.size : Int) < 1
  ·rw [if_pos c4] at H
   have c4b0 : decide ((a0.size : Int) < 1) = true := decide_eq_true c4
   have c4b1 : decide (a0.size < 1) = true := decide_eq_true (by omega)
   clear c4
   (first | rw [c4b0] | (simp only [i64_w, i32_w]; rw [c4b0]) | skip)
   have H' := Aside0.mk H
   clear H
   go_wp2
   go_meet
   case rel => exact ⟨_, (true), tr, H', ⟨by first | omega | exact Nat.le_refl _⟩, by repeat (first | exact Drawn0.refl _ | apply Drawn0.step)⟩
  ·rw [if_neg c4] at H
   have c4b0 : decide ((a0.size : Int) < 1) = false := decide_eq_false c4
   have c4b1 : decide (a0.size < 1) = false := decide_eq_false (by omega)
   clear c4
   (first | rw [c4b0] | (simp only [i64_w, i32_w]; rw [c4b0]) | skip)
   have H' := Aside0.mk H
   clear H
   go_wp2
   go_meet
   case rel => exact ⟨_, (decide ((a0.size : Int) > a1)), tr, H', ⟨by first | omega | exact Nat.le_refl _⟩, by repeat (first | exact Drawn0.refl _ | apply Drawn0.step)⟩
 case rest =>
  clear HC3
  obtain ⟨kq, x14_2, rfl, HA, HJ2, ⟨mc2, rfl⟩⟩ := hcut
  cases kq with
  | zero => exact absurd HA.out (by simp [impl_letters.j0])
  | succ kj2 =>
   have H := HA.out
   clear HA
   simp only [impl_letters.j0] at H
   by_cases c5 : x14_2 = true
   ·subst c5
    rw [if_pos rfl] at H
    obtain rfl := Option.some.inj H
    go_wp2
    go_ret
    exact ⟨by first | rfl | (simp; done) | (simp [*]; done), by repeat (first | exact Drawn0.refl _ | apply Drawn0.step)⟩
   ·replace c5 := Bool.eq_false_iff.mpr c5
    subst c5
    rw [if_neg (show ¬ (false = true) by decide)] at H
    have H' := Aside0.mk H
    clear H
    go_wp2
    go_loopg [17] kj2 (fun kq v17 w' => ∃ (x17_2 : Int), v17 = .int .i64 x17_2 ∧ Aside0 (impl_letters.l0 kq a0 (a0.size : Int) x17_2 = some r) ∧ Aside0 (kq ≤ kj2) ∧ Drawn0 w w')
    case atStart => exact ⟨(0), tr, H', ⟨Nat.le_refl _⟩, by repeat (first | exact Drawn0.refl _ | apply Drawn0.step)⟩
    case round =>
     clear H'
     try clear c5
     obtain ⟨x17_2, rfl, HA, HK2, ⟨m2, rfl⟩⟩ := hrel
     cases gk with
     | zero => exact absurd HA.out (by simp [impl_letters.l0])
     | succ k2 =>
      have H := HA.out
      clear HA
      simp only [impl_letters.l0] at H
      by_cases c6 : x17_2 < (a0.size : Int)
      ·rw [if_pos c6] at H
       have c6b0 : decide (x17_2 < (a0.size : Int)) = true := decide_eq_true c6
       clear c6
       by_cases c7 : 0 ≤ x17_2
       ·rw [if_pos c7] at H
        have c7b0 : decide (0 ≤ x17_2) = true := decide_eq_true c7
        clear c7
        by_cases c8 : x17_2 < (a0.size : Int)
        ·rw [if_pos c8] at H
         have c8b0 : decide (x17_2 < (a0.size : Int)) = true := decide_eq_true c8
         clear c8
         by_cases c10 : (bt a0 x17_2) < 97
         ·rw [if_pos c10] at H
          have c10b0 : decide ((bt a0 x17_2) < 97) = true := decide_eq_true c10
          clear c10
          obtain rfl := Option.some.inj H
          have p9 : 0 ≤ (x17_2 : Int) := td
          have q9 : x17_2 < (a0.size : Int) := td
          have hx9 := bt_at a0 x17_2
          replace p9 := eq_true p9
          replace q9 := eq_true q9
          go_wp2
          go_ret
          exact ⟨by first | rfl | (simp; done) | (simp [*]; done), by repeat (first | exact Drawn0.refl _ | apply Drawn0.step)⟩
         ·rw [if_neg c10] at H
          have c10b0 : decide ((bt a0 x17_2) < 97) = false := decide_eq_false c10
          clear c10
          by_cases c12 : (bt a0 x17_2) > 122
          ·rw [if_pos c12] at H
           have c12b0 : decide (122 < (bt a0 x17_2)) = true := decide_eq_true c12
           clear c12
           obtain rfl := Option.some.inj H
           have p9 : 0 ≤ (x17_2 : Int) := td
           have q9 : x17_2 < (a0.size : Int) := td
           have hx9 := bt_at a0 x17_2
           replace p9 := eq_true p9
           replace q9 := eq_true q9
           have p11 : 0 ≤ (x17_2 : Int) := td
           have q11 : x17_2 < (a0.size : Int) := td
           have hx11 := bt_at a0 x17_2
           replace p11 := eq_true p11
           replace q11 := eq_true q11
           go_wp2
           go_ret
           exact ⟨by first | rfl | (simp; done) | (simp [*]; done), by repeat (first | exact Drawn0.refl _ | apply Drawn0.step)⟩
          ·rw [if_neg c12] at H
           have c12b0 : decide (122 < (bt a0 x17_2)) = false := decide_eq_false c12
           clear c12
           have H' := Aside0.mk H
           clear H
           have p9 : 0 ≤ (x17_2 : Int) := td
           have q9 : x17_2 < (a0.size : Int) := td
           have hx9 := bt_at a0 x17_2
           replace p9 := eq_true p9
           replace q9 := eq_true q9
           have p11 : 0 ≤ (x17_2 : Int) := td
           have q11 : x17_2 < (a0.size : Int) := td
           have hx11 := bt_at a0 x17_2
           replace p11 := eq_true p11
           replace q11 := eq_true q11
           go_wp2
           go_roundg k2
           case measure => have := HJ2.out; have := HK2.out; omega
           case rel => exact ⟨(wrap64 (x17_2 + 1)), tr, H', ⟨by have := HJ2.out; have := HK2.out; omega⟩, by repeat (first | exact Drawn0.refl _ | apply Drawn0.step)⟩
        ·rw [if_neg c8] at H
         exact absurd H (by simp)
       ·rw [if_neg c7] at H
        exact absurd H (by simp)
      ·rw [if_neg c6] at H
       have c6b0 : decide (x17_2 < (a0.size : Int)) = false := decide_eq_false c6
       clear c6
       obtain rfl := Option.some.inj H
       go_wp2
       go_ret
       exact ⟨by first | rfl | (simp; done) | (simp [*]; done), by repeat (first | exact Drawn0.refl _ | apply Drawn0.step)⟩

end Go.Proofs.Ytkihdohphddjaaa.G

namespace Go.Proofs.Ytkihdohphddjaaa.G
open Go.RowKit Go.Proofs.YtkihdohphddjaaaW.PrintWords Go.Proofs.YtkihdohphddjaaaW.PrintLast Go.Proofs.YtkihdohphddjaaaW.PrintMore
attribute [local go_sem] max2_int min2_int max_two min_two max_three min_three max_four min_four   -- for this text's walks alone
set_option linter.unusedVariables false
set_option linter.unusedSimpArgs false

def impl_groupValid.f (k : Nat) (a0_0 : ByteArray) (a0_1 : Int) : Option (Bool) := (impl_letters.f k a0_0 6).bind fun t193 => (if t193 = true then ((impl_within.f a0_1 0 100000).bind fun t194 => (some t194)) else (some false))
set_option maxHeartbeats 8000000 in
set_option maxRecDepth 100000 in
theorem impl_groupValid.calls (k : Nat) (a0_0 : ByteArray) (a0_1 : Int) (r : Bool) (w : World) (h : impl_groupValid.f k a0_0 a0_1 = some r) :
  Calls Try.prog 28 #[.agg #[.string a0_0, .int .i64 a0_1]] w fun e w' => e = .returned (.bool r) ∧ Below w.heap.size w w' := by
 have hu25 := Try.underlying25
 have HB := Aside0.mk (Below.refl w.heap.size w)
 have H : ((impl_letters.f k a0_0 6).bind fun t193 => (if t193 = true then ((impl_within.f a0_1 0 100000).bind fun t194 => (some t194)) else (some false))) = some r := h
 clear h
 replace H := tbe H
 obtain ⟨t193, A2, H⟩ := H
 by_cases c3 : t193 = true
 ·subst c3
  rw [if_pos rfl] at H
  replace H := tbe H
  obtain ⟨t194, A4, H⟩ := H
  obtain rfl := Option.some.inj H
  go_enter Try.func28, Try.ntmps28
  go_wp2_with (first | ((with_reducible refine gate_dst (N := 1) rfl ?_); refine box_event ?hg (N := 1) ?hd (cs := #[.string a0_0, .int .i64 a0_1]) (t := 25) ?hr ?_; (case hd => rfl); (case hg => rfl); (case hr => first | (go_simp; done) | (go_simp; rfl)); intro gb192 hg w5 hbox hb; have BK192 := Aside0.mk (hbox); have GW192 := tge HB hg; have GE192 := tge HB hg; replace HB := tBs HB hb; clear hb hbox hg; obtain ⟨hcz6_0, hcz6_1, hfz6_0, hfz6_1⟩ := cells2 BK192.out) | ((with_reducible refine gate_callee (f := 42) rfl ?_); refine goesL_ (some 5) rfl rfl Try.func42 (by kernel_rfl) rfl #[.string a0_0, .int .i64 6] rfl tq ?_; (with_reducible refine (impl_letters.calls k a0_0 6 true _ A2.out).mono ?_); rintro e w' ⟨rfl, ⟨nd, rfl⟩⟩; refine ⟨_, rfl, ?_⟩) | (go_at_call 43; (with_reducible refine (impl_within.calls a0_1 0 100000 t194 _ A4.out).mono ?_); rintro e w' ⟨rfl, ⟨nd, rfl⟩⟩))
  go_ret
  exact ⟨by first | rfl | (simp [errW_none, errW_some] <;> rfl) | (simp [*, errW_none, errW_some] <;> rfl), zb⟩
 ·replace c3 := Bool.eq_false_iff.mpr c3
  subst c3
  rw [if_neg (show ¬ (false = true) by decide)] at H
  obtain rfl := Option.some.inj H
  go_enter Try.func28, Try.ntmps28
  go_wp2_with (first | ((with_reducible refine gate_dst (N := 1) rfl ?_); refine box_event ?hg (N := 1) ?hd (cs := #[.string a0_0, .int .i64 a0_1]) (t := 25) ?hr ?_; (case hd => rfl); (case hg => rfl); (case hr => first | (go_simp; done) | (go_simp; rfl)); intro gb192 hg w7 hbox hb; have BK192 := Aside0.mk (hbox); have GW192 := tge HB hg; have GE192 := tge HB hg; replace HB := tBs HB hb; clear hb hbox hg; obtain ⟨hcz8_0, hcz8_1, hfz8_0, hfz8_1⟩ := cells2 BK192.out) | ((with_reducible refine gate_callee (f := 42) rfl ?_); refine goesL_ (some 5) rfl rfl Try.func42 (by kernel_rfl) rfl #[.string a0_0, .int .i64 6] rfl tq ?_; (with_reducible refine (impl_letters.calls k a0_0 6 false _ A2.out).mono ?_); rintro e w' ⟨rfl, ⟨nd, rfl⟩⟩; refine ⟨_, rfl, ?_⟩))
  go_ret
  exact ⟨by first | rfl | (simp [errW_none, errW_some] <;> rfl) | (simp [*, errW_none, errW_some] <;> rfl), zb⟩

end Go.Proofs.Ytkihdohphddjaaa.G

