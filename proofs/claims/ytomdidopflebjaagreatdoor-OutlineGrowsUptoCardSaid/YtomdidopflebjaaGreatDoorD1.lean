/- Merged by a program of this session out of its own texts: PMx0, RowF, HGet, HThere, HGet2, Shelf, HStrip, PMx4, HNamed, HEach, HUnder, Bld, HText. No condition beside those in each statement. -/
import Derived.ArgAppend
import Derived.Below
import Derived.BigQuiet
import Derived.ChangeKeysEq
import Derived.Deep.AppendLies
import Derived.Deep.CutBlock
import Derived.Deep.DeepCutAuto
import Derived.Deep.Draws
import Derived.Deep.LoopGhost
import Derived.Deep.OwnRows
import Derived.Deep.QuietTactic
import Derived.Deep.RegionHeld3
import Derived.Ground.Names2Prog
import Derived.KernelRfl
import Derived.Laws.BitsLemmas
import Derived.Laws.BytesArg
import Derived.Laws.EntriesVeiled
import Derived.Laws.IdiomCopy
import Derived.Laws.MakeOwn
import Derived.Laws.OwnMore
import Derived.Laws.Rows
import Derived.Laws.Slices
import Derived.Lib.AppendStr
import Derived.Lib.ConvBytes
import Derived.Lib.FrozenHead2
import Derived.Lib.Hide
import Derived.Lib.Join
import Derived.Lib.OthersKept
import Derived.Maps.AppendAt
import Derived.OrdersHeld
import Derived.Outline
import Derived.OwnWalk
import Derived.RowKit
import Derived.RowKit3
import Derived.Shelf.Bits.Mul64
import Derived.Shelf.LaysM
import Derived.Shelf.Slices.Cells
import Derived.Shelf.Slices.Reverse
import Derived.Shelf.Slices.SearchI
import Derived.Shelf.Slices.Turned
import Derived.Shelf.Small.Bits
import Derived.Shelf.Small.Strs
import Derived.Shelf.Small.Utf8
import Derived.Shelf.Small.Wraps
import Derived.Shelf.Strconv.Itoa0
import Derived.Shelf.Strconv.Itoa1
import Derived.Shelf.Strconv.Itoa2
import Derived.Shelf.Strconv.Itoa3
import Derived.Shelf.Strings.Builder1
import Derived.Shelf.Strings.Builder2
import Derived.Shelf.Strings.Builder2Cap
import Derived.Shelf.Strings.BuilderCap
import Derived.Shelf.Strings.BuilderF
import Derived.Shelf.Strings.BuilderK
import Derived.Shelf.Strings.FieldsFuncAny
import Derived.Shelf.Strings.FieldsFuncGrows
import Derived.Shelf.Strings.OnBuilder
import Derived.Shelf.Strings.Prefix
import Derived.Shelf.Strings.Repeat
import Derived.Tactics
import Derived.Test.YtomdidopflebjaaGreatDoorProg
import Derived.Test.YtomdidopflebjaaGreatDoorWApart
import Derived.Test.YtomdidopflebjaaGreatDoorWArr
import Derived.Test.YtomdidopflebjaaGreatDoorWEqStruct
import Derived.Test.YtomdidopflebjaaGreatDoorWFoot
import Derived.Test.YtomdidopflebjaaGreatDoorWGuard
import Derived.Test.YtomdidopflebjaaGreatDoorWKept
import Derived.Test.YtomdidopflebjaaGreatDoorWLast
import Derived.Test.YtomdidopflebjaaGreatDoorWMore
import Derived.Test.YtomdidopflebjaaGreatDoorWN
import Derived.Test.YtomdidopflebjaaGreatDoorWNEv
import Derived.Test.YtomdidopflebjaaGreatDoorWQPut
import Derived.Test.YtomdidopflebjaaGreatDoorWRepsOne
import Derived.Test.YtomdidopflebjaaGreatDoorWShare
import Derived.Test.YtomdidopflebjaaGreatDoorWTab
import Derived.Test.YtomdidopflebjaaGreatDoorWWords
import Derived.Test.YtomdidopflebjaaGreatDoorWZeros
import Derived.WalkKit
import Derived.WalkSpells
import Derived.WideLaws
namespace Go.Proofs.YtomdidopflebjaaGreatDoor.PM
open Go.RowKit Go.Proofs.YtomdidopflebjaaGreatDoorW.PrintWords Go.Proofs.YtomdidopflebjaaGreatDoorW.PrintLast Go.Proofs.YtomdidopflebjaaGreatDoorW.PrintMore
attribute [local go_sem] max2_int min2_int max_two min_two max_three min_three max_four min_four   -- for this text's walks alone
set_option linter.unusedVariables false
set_option linter.unusedSimpArgs false
def errW : Option Int → Value
  | none => .nilIface
  | some c => .iface 0 (.int .i64 c)
theorem errW_none : errW none = .nilIface := rfl
theorem errW_some (c : Int) : errW (some c) = .iface 0 (.int .i64 c) := rfl
theorem info3 : (Tryz.prog.info? 3).map (fun i => (i.zero, i.size, i.bytes)) = some (some (.int .i64 0), 1, 8) := by kernel_rfl
theorem info5 : (Tryz.prog.info? 5).map (fun i => (i.zero, i.size, i.bytes)) = some (some (.int .u8 0), 1, 1) := by kernel_rfl
theorem info41 : (Tryz.prog.info? 41).map (fun i => (i.zero, i.size, i.bytes)) = some (some (.agg #[(.int .i64 0), (.int .i64 0), (.string ⟨#[]⟩)]), 3, 32) := by kernel_rfl
theorem info47 : (Tryz.prog.info? 47).map (fun i => (i.zero, i.size, i.bytes)) = some (some (.agg #[(.int .i64 0), (.int .i64 0)]), 2, 16) := by kernel_rfl
theorem info64 : (Tryz.prog.info? 64).map (fun i => (i.zero, i.size, i.bytes)) = some (some (.agg #[(.int .i64 0), (.int .i64 0), (.string ⟨#[]⟩)]), 3, 32) := by kernel_rfl
structure S69 where
  f0 : ByteArray
  f1 : ByteArray
def z69 : S69 := ⟨(⟨#[]⟩ : ByteArray), (⟨#[]⟩ : ByteArray)⟩
def k69 : Kd S69 := Kd.iso (Kd.pair Kd.string Kd.string) (fun x : S69 => (x.f0, x.f1))
theorem k69_open {w : World} {x : S69} {cs : List Value} (h : k69.K w x cs) : cs = [.string x.f0, .string x.f1] := by
  obtain ⟨_, _, rfl, rfl, rfl⟩ := h
  exact rfl
def rd_T69 (xs : List S69) (i : Int) : S69 := xs.getD i.toNat z69
theorem at_T69 {w : World} {A : Option Addr} {n : Nat} {xs : List S69} (h : Kd.C k69 w A n xs) (i : Int) (h0 : 0 ≤ i) (h1 : i < n) : ∃ ad , A = some ad ∧ w.cell? (ad.add (i.toNat * 2)) = some (.string (rd_T69 xs i).f0) ∧ w.cell? ⟨(ad.add (i.toNat * 2)).block, (ad.add (i.toNat * 2)).off + 1, none⟩ = some (.string (rd_T69 xs i).f1) := by
  obtain ⟨ad, c, e, _, hK, hc0⟩ := Kd.C_get h z69 i h0 h1
  have hc : ∀ j u, c[j]? = some u → w.cell? (ad.add (i.toNat * 2 + j)) = some u := hc0
  obtain rfl := k69_open hK
  exact ⟨ad, e, hc 0 _ rfl, by rw [← add_field _ _ 1 (by omega)]; exact hc 1 _ rfl⟩
structure S54 where
  f0 : ByteArray
  f1 : ByteArray
  f2 : (List S69)
  f3 : Int
  f4 : Int
def z54 : S54 := ⟨(⟨#[]⟩ : ByteArray), (⟨#[]⟩ : ByteArray), ([] : List S69), (0 : Int), (0 : Int)⟩
def k54 : Kd S54 := Kd.iso (Kd.pair Kd.string (Kd.pair Kd.string (Kd.pair (Kd.slice 69 k69) (Kd.pair (Kd.int .i64) (Kd.int .i64))))) (fun x : S54 => (x.f0, x.f1, x.f2, x.f3, x.f4))
theorem k54_open {w : World} {x : S54} {cs : List Value} (h : k54.K w x cs) : ∃ A2 c2, cs = [.string x.f0, .string x.f1, .slice A2 x.f2.length c2, .int .i64 x.f3, .int .i64 x.f4] ∧ x.f2.length ≤ c2 ∧ k69.C w A2 x.f2.length x.f2 := by
  obtain ⟨_, _, rfl, rfl, ⟨_, _, rfl, rfl, ⟨_, _, rfl, ⟨A2, c2, rfl, l2, g2⟩, ⟨_, _, rfl, rfl, rfl⟩⟩⟩⟩ := h
  exact ⟨A2, c2, rfl, l2, g2⟩
theorem k54_mkM (w : World) (base : Nat) (ok : Nat → Prop) (x : S54) {v2 : Value} (g2 : k69.R 69 w base ok v2 x.f2) : k54.M w base ok x [.string x.f0, .string x.f1, v2, .int .i64 x.f3, .int .i64 x.f4] := ⟨[.string x.f0], [.string x.f1, v2, .int .i64 x.f3, .int .i64 x.f4], rfl, rfl, ⟨[.string x.f1], [v2, .int .i64 x.f3, .int .i64 x.f4], rfl, rfl, ⟨[v2], [.int .i64 x.f3, .int .i64 x.f4], rfl, ⟨v2, rfl, g2⟩, ⟨[.int .i64 x.f3], [.int .i64 x.f4], rfl, rfl, rfl⟩⟩⟩⟩
def rd_T54 (xs : List S54) (i : Int) : S54 := xs.getD i.toNat z54
theorem at_T54 {w : World} {A : Option Addr} {n : Nat} {xs : List S54} (h : Kd.C k54 w A n xs) (i : Int) (h0 : 0 ≤ i) (h1 : i < n) : ∃ ad A2 c2, A = some ad ∧ w.cell? (ad.add (i.toNat * 5)) = some (.string (rd_T54 xs i).f0) ∧ w.cell? ⟨(ad.add (i.toNat * 5)).block, (ad.add (i.toNat * 5)).off + 1, none⟩ = some (.string (rd_T54 xs i).f1) ∧ w.cell? ⟨(ad.add (i.toNat * 5)).block, (ad.add (i.toNat * 5)).off + 2, none⟩ = some (.slice A2 (rd_T54 xs i).f2.length c2) ∧ w.cell? ⟨(ad.add (i.toNat * 5)).block, (ad.add (i.toNat * 5)).off + 3, none⟩ = some (.int .i64 (rd_T54 xs i).f3) ∧ w.cell? ⟨(ad.add (i.toNat * 5)).block, (ad.add (i.toNat * 5)).off + 4, none⟩ = some (.int .i64 (rd_T54 xs i).f4) ∧ (rd_T54 xs i).f2.length ≤ c2 ∧ k69.C w A2 (rd_T54 xs i).f2.length (rd_T54 xs i).f2 := by
  obtain ⟨ad, c, e, _, hK, hc0⟩ := Kd.C_get h z54 i h0 h1
  have hc : ∀ j u, c[j]? = some u → w.cell? (ad.add (i.toNat * 5 + j)) = some u := hc0
  obtain ⟨A2, c2, rfl, l2, g2⟩ := k54_open hK
  exact ⟨ad, A2, c2, e, hc 0 _ rfl, by rw [← add_field _ _ 1 (by omega)]; exact hc 1 _ rfl, by rw [← add_field _ _ 2 (by omega)]; exact hc 2 _ rfl, by rw [← add_field _ _ 3 (by omega)]; exact hc 3 _ rfl, by rw [← add_field _ _ 4 (by omega)]; exact hc 4 _ rfl, l2, g2⟩
structure S71 where
  f0 : ByteArray
  f1 : ByteArray
def k71 : Kd S71 := Kd.iso (Kd.pair Kd.string Kd.string) (fun x : S71 => (x.f0, x.f1))
theorem k71_open {w : World} {x : S71} {cs : List Value} (h : k71.K w x cs) : cs = [.string x.f0, .string x.f1] := by
  obtain ⟨_, _, rfl, rfl, rfl⟩ := h
  exact rfl
theorem k71_mkM (w : World) (base : Nat) (ok : Nat → Prop) (x : S71)  : k71.M w base ok x [.string x.f0, .string x.f1] := ⟨[.string x.f0], [.string x.f1], rfl, rfl, rfl⟩
structure S59 where
  f0 : Int
  f1 : Int
  f2 : ByteArray
  f3 : ByteArray
  f4 : (List S71)
def z59 : S59 := ⟨(0 : Int), (0 : Int), (⟨#[]⟩ : ByteArray), (⟨#[]⟩ : ByteArray), ([] : List S71)⟩
def k59 : Kd S59 := Kd.iso (Kd.pair (Kd.int .i64) (Kd.pair (Kd.int .i64) (Kd.pair Kd.string (Kd.pair Kd.string (Kd.slice 71 k71))))) (fun x : S59 => (x.f0, x.f1, x.f2, x.f3, x.f4))
theorem k59_open {w : World} {x : S59} {cs : List Value} (h : k59.K w x cs) : ∃ A4 c4, cs = [.int .i64 x.f0, .int .i64 x.f1, .string x.f2, .string x.f3, .slice A4 x.f4.length c4] ∧ x.f4.length ≤ c4 ∧ k71.C w A4 x.f4.length x.f4 := by
  obtain ⟨_, _, rfl, rfl, ⟨_, _, rfl, rfl, ⟨_, _, rfl, rfl, ⟨_, _, rfl, rfl, ⟨A4, c4, rfl, l4, g4⟩⟩⟩⟩⟩ := h
  exact ⟨A4, c4, rfl, l4, g4⟩
theorem k59_openM {w : World} {base : Nat} {ok : Nat → Prop} {x : S59} {cs : List Value} (h : k59.M w base ok x cs) : ∃ v4, cs = [.int .i64 x.f0, .int .i64 x.f1, .string x.f2, .string x.f3, v4] ∧ k71.R 71 w base ok v4 x.f4 := by
  obtain ⟨_, _, rfl, rfl, ⟨_, _, rfl, rfl, ⟨_, _, rfl, rfl, ⟨_, _, rfl, rfl, ⟨v4, rfl, g4⟩⟩⟩⟩⟩ := h
  exact ⟨v4, rfl, g4⟩
theorem k59_mkM (w : World) (base : Nat) (ok : Nat → Prop) (x : S59) {v4 : Value} (g4 : k71.R 71 w base ok v4 x.f4) : k59.M w base ok x [.int .i64 x.f0, .int .i64 x.f1, .string x.f2, .string x.f3, v4] := ⟨[.int .i64 x.f0], [.int .i64 x.f1, .string x.f2, .string x.f3, v4], rfl, rfl, ⟨[.int .i64 x.f1], [.string x.f2, .string x.f3, v4], rfl, rfl, ⟨[.string x.f2], [.string x.f3, v4], rfl, rfl, ⟨[.string x.f3], [v4], rfl, rfl, ⟨v4, rfl, g4⟩⟩⟩⟩⟩
structure S107 where
  f0 : Int
  f1 : Int
  f2 : Int
  f3 : Int
  f4 : Int
def z107 : S107 := ⟨(0 : Int), (0 : Int), (0 : Int), (0 : Int), (0 : Int)⟩
def k107 : Kd S107 := Kd.iso (Kd.pair (Kd.int .i64) (Kd.pair (Kd.int .i64) (Kd.pair (Kd.int .i64) (Kd.pair (Kd.int .i64) (Kd.int .i64))))) (fun x : S107 => (x.f0, x.f1, x.f2, x.f3, x.f4))
theorem k107_open {w : World} {x : S107} {cs : List Value} (h : k107.K w x cs) : cs = [.int .i64 x.f0, .int .i64 x.f1, .int .i64 x.f2, .int .i64 x.f3, .int .i64 x.f4] := by
  obtain ⟨_, _, rfl, rfl, ⟨_, _, rfl, rfl, ⟨_, _, rfl, rfl, ⟨_, _, rfl, rfl, rfl⟩⟩⟩⟩ := h
  exact rfl
theorem k107_openM {w : World} {base : Nat} {ok : Nat → Prop} {x : S107} {cs : List Value} (h : k107.M w base ok x cs) : cs = [.int .i64 x.f0, .int .i64 x.f1, .int .i64 x.f2, .int .i64 x.f3, .int .i64 x.f4] := by
  obtain ⟨_, _, rfl, rfl, ⟨_, _, rfl, rfl, ⟨_, _, rfl, rfl, ⟨_, _, rfl, rfl, rfl⟩⟩⟩⟩ := h
  exact rfl
theorem k107_mkM (w : World) (base : Nat) (ok : Nat → Prop) (x : S107)  : k107.M w base ok x [.int .i64 x.f0, .int .i64 x.f1, .int .i64 x.f2, .int .i64 x.f3, .int .i64 x.f4] := ⟨[.int .i64 x.f0], [.int .i64 x.f1, .int .i64 x.f2, .int .i64 x.f3, .int .i64 x.f4], rfl, rfl, ⟨[.int .i64 x.f1], [.int .i64 x.f2, .int .i64 x.f3, .int .i64 x.f4], rfl, rfl, ⟨[.int .i64 x.f2], [.int .i64 x.f3, .int .i64 x.f4], rfl, rfl, ⟨[.int .i64 x.f3], [.int .i64 x.f4], rfl, rfl, rfl⟩⟩⟩⟩
structure S110 where
  f0 : S59
  f1 : S107
def z110 : S110 := ⟨z59, z107⟩
def k110 : Kd S110 := Kd.iso (Kd.pair k59 k107) (fun x : S110 => (x.f0, x.f1))
theorem k110_open {w : World} {x : S110} {cs : List Value} (h : k110.K w x cs) : ∃ A4 c4, cs = [.int .i64 x.f0.f0, .int .i64 x.f0.f1, .string x.f0.f2, .string x.f0.f3, .slice A4 x.f0.f4.length c4, .int .i64 x.f1.f0, .int .i64 x.f1.f1, .int .i64 x.f1.f2, .int .i64 x.f1.f3, .int .i64 x.f1.f4] ∧ x.f0.f4.length ≤ c4 ∧ k71.C w A4 x.f0.f4.length x.f0.f4 := by
  obtain ⟨_, _, rfl, s0, s5⟩ := h
  obtain ⟨A4, c4, rfl, l4, g4⟩ := k59_open s0
  obtain rfl := k107_open s5
  exact ⟨A4, c4, rfl, l4, g4⟩
theorem k110_openM {w : World} {base : Nat} {ok : Nat → Prop} {x : S110} {cs : List Value} (h : k110.M w base ok x cs) : ∃ v4, cs = [.int .i64 x.f0.f0, .int .i64 x.f0.f1, .string x.f0.f2, .string x.f0.f3, v4, .int .i64 x.f1.f0, .int .i64 x.f1.f1, .int .i64 x.f1.f2, .int .i64 x.f1.f3, .int .i64 x.f1.f4] ∧ k71.R 71 w base ok v4 x.f0.f4 := by
  obtain ⟨_, _, rfl, s0, s5⟩ := h
  obtain ⟨v4, rfl, g4⟩ := k59_openM s0
  obtain rfl := k107_openM s5
  exact ⟨v4, rfl, g4⟩
theorem k110_mkM (w : World) (base : Nat) (ok : Nat → Prop) (x : S110) {v4 : Value} (g4 : k71.R 71 w base ok v4 x.f0.f4) : k110.M w base ok x [.int .i64 x.f0.f0, .int .i64 x.f0.f1, .string x.f0.f2, .string x.f0.f3, v4, .int .i64 x.f1.f0, .int .i64 x.f1.f1, .int .i64 x.f1.f2, .int .i64 x.f1.f3, .int .i64 x.f1.f4] := ⟨[.int .i64 x.f0.f0, .int .i64 x.f0.f1, .string x.f0.f2, .string x.f0.f3, v4], [.int .i64 x.f1.f0, .int .i64 x.f1.f1, .int .i64 x.f1.f2, .int .i64 x.f1.f3, .int .i64 x.f1.f4], rfl, (k59_mkM w base ok x.f0 g4), (k107_mkM w base ok x.f1 )⟩
def rd_T110 (xs : List S110) (i : Int) : S110 := xs.getD i.toNat z110
theorem at_T110 {w : World} {A : Option Addr} {n : Nat} {xs : List S110} (h : Kd.C k110 w A n xs) (i : Int) (h0 : 0 ≤ i) (h1 : i < n) : ∃ ad A4 c4, A = some ad ∧ w.cell? (ad.add (i.toNat * 10)) = some (.int .i64 (rd_T110 xs i).f0.f0) ∧ w.cell? ⟨(ad.add (i.toNat * 10)).block, (ad.add (i.toNat * 10)).off + 1, none⟩ = some (.int .i64 (rd_T110 xs i).f0.f1) ∧ w.cell? ⟨(ad.add (i.toNat * 10)).block, (ad.add (i.toNat * 10)).off + 2, none⟩ = some (.string (rd_T110 xs i).f0.f2) ∧ w.cell? ⟨(ad.add (i.toNat * 10)).block, (ad.add (i.toNat * 10)).off + 3, none⟩ = some (.string (rd_T110 xs i).f0.f3) ∧ w.cell? ⟨(ad.add (i.toNat * 10)).block, (ad.add (i.toNat * 10)).off + 4, none⟩ = some (.slice A4 (rd_T110 xs i).f0.f4.length c4) ∧ w.cell? ⟨(ad.add (i.toNat * 10)).block, (ad.add (i.toNat * 10)).off + 5, none⟩ = some (.int .i64 (rd_T110 xs i).f1.f0) ∧ w.cell? ⟨(ad.add (i.toNat * 10)).block, (ad.add (i.toNat * 10)).off + 6, none⟩ = some (.int .i64 (rd_T110 xs i).f1.f1) ∧ w.cell? ⟨(ad.add (i.toNat * 10)).block, (ad.add (i.toNat * 10)).off + 7, none⟩ = some (.int .i64 (rd_T110 xs i).f1.f2) ∧ w.cell? ⟨(ad.add (i.toNat * 10)).block, (ad.add (i.toNat * 10)).off + 8, none⟩ = some (.int .i64 (rd_T110 xs i).f1.f3) ∧ w.cell? ⟨(ad.add (i.toNat * 10)).block, (ad.add (i.toNat * 10)).off + 9, none⟩ = some (.int .i64 (rd_T110 xs i).f1.f4) ∧ (rd_T110 xs i).f0.f4.length ≤ c4 ∧ k71.C w A4 (rd_T110 xs i).f0.f4.length (rd_T110 xs i).f0.f4 := by
  obtain ⟨ad, c, e, _, hK, hc0⟩ := Kd.C_get h z110 i h0 h1
  have hc : ∀ j u, c[j]? = some u → w.cell? (ad.add (i.toNat * 10 + j)) = some u := hc0
  obtain ⟨A4, c4, rfl, l4, g4⟩ := k110_open hK
  exact ⟨ad, A4, c4, e, hc 0 _ rfl, by rw [← add_field _ _ 1 (by omega)]; exact hc 1 _ rfl, by rw [← add_field _ _ 2 (by omega)]; exact hc 2 _ rfl, by rw [← add_field _ _ 3 (by omega)]; exact hc 3 _ rfl, by rw [← add_field _ _ 4 (by omega)]; exact hc 4 _ rfl, by rw [← add_field _ _ 5 (by omega)]; exact hc 5 _ rfl, by rw [← add_field _ _ 6 (by omega)]; exact hc 6 _ rfl, by rw [← add_field _ _ 7 (by omega)]; exact hc 7 _ rfl, by rw [← add_field _ _ 8 (by omega)]; exact hc 8 _ rfl, by rw [← add_field _ _ 9 (by omega)]; exact hc 9 _ rfl, l4, g4⟩
structure S113 where
  f0 : (List S110)
def z113 : S113 := ⟨([] : List S110)⟩
def k113 : Kd S113 := Kd.iso (Kd.slice 110 k110) (fun x : S113 => x.f0)
theorem k113_open {w : World} {x : S113} {cs : List Value} (h : k113.K w x cs) : ∃ A0 c0, cs = [.slice A0 x.f0.length c0] ∧ x.f0.length ≤ c0 ∧ k110.C w A0 x.f0.length x.f0 := by
  obtain ⟨A0, c0, rfl, l0, g0⟩ := h
  exact ⟨A0, c0, rfl, l0, g0⟩
theorem k113_mk (w : World) (x : S113) {A0 : Option Addr} {c0 : Nat} (l0 : x.f0.length ≤ c0) (g0 : k110.C w A0 x.f0.length x.f0) : k113.K w x [.slice A0 x.f0.length c0] := ⟨A0, c0, rfl, l0, g0⟩
theorem k113_mkM (w : World) (base : Nat) (ok : Nat → Prop) (x : S113) {v0 : Value} (g0 : k110.R 110 w base ok v0 x.f0) : k113.M w base ok x [v0] := ⟨v0, rfl, g0⟩
def rd_T113 (xs : List S113) (i : Int) : S113 := xs.getD i.toNat z113
theorem at_T113 {w : World} {A : Option Addr} {n : Nat} {xs : List S113} (h : Kd.C k113 w A n xs) (i : Int) (h0 : 0 ≤ i) (h1 : i < n) : ∃ ad A0 c0, A = some ad ∧ w.cell? (ad.add i.toNat) = some (.slice A0 (rd_T113 xs i).f0.length c0) ∧ (rd_T113 xs i).f0.length ≤ c0 ∧ k110.C w A0 (rd_T113 xs i).f0.length (rd_T113 xs i).f0 := by
  obtain ⟨ad, c, e, _, hK, hc0⟩ := Kd.C_get h z113 i h0 h1
  have hc : ∀ j u, c[j]? = some u → w.cell? (ad.add (i.toNat * 1 + j)) = some u := hc0
  obtain ⟨A0, c0, rfl, l0, g0⟩ := k113_open hK
  exact ⟨ad, A0, c0, e, by have hq := hc 0 _ rfl; rwa [Nat.mul_one, Nat.add_zero] at hq, l0, g0⟩
structure S72 where
  f0 : ByteArray
  f1 : ByteArray
def z72 : S72 := ⟨(⟨#[]⟩ : ByteArray), (⟨#[]⟩ : ByteArray)⟩
def k72 : Kd S72 := Kd.iso (Kd.pair Kd.string Kd.string) (fun x : S72 => (x.f0, x.f1))
theorem k72_mkM (w : World) (base : Nat) (ok : Nat → Prop) (x : S72)  : k72.M w base ok x [.string x.f0, .string x.f1] := ⟨[.string x.f0], [.string x.f1], rfl, rfl, rfl⟩
structure S68 where
  f0 : Int
  f1 : Int
  f2 : ByteArray
  f3 : ByteArray
  f4 : (List S72)
  f5 : Int
  f6 : (List Int)
def z68 : S68 := ⟨(0 : Int), (0 : Int), (⟨#[]⟩ : ByteArray), (⟨#[]⟩ : ByteArray), ([] : List S72), (0 : Int), ([] : List Int)⟩
def k68 : Kd S68 := Kd.iso (Kd.pair (Kd.int .i64) (Kd.pair (Kd.int .i64) (Kd.pair Kd.string (Kd.pair Kd.string (Kd.pair (Kd.slice 72 k72) (Kd.pair (Kd.int .i64) (Kd.slice 3 (Kd.int .i64)))))))) (fun x : S68 => (x.f0, x.f1, x.f2, x.f3, x.f4, x.f5, x.f6))
theorem k68_open {w : World} {x : S68} {cs : List Value} (h : k68.K w x cs) : ∃ A4 c4 A6 c6, cs = [.int .i64 x.f0, .int .i64 x.f1, .string x.f2, .string x.f3, .slice A4 x.f4.length c4, .int .i64 x.f5, .slice A6 x.f6.length c6] ∧ x.f4.length ≤ c4 ∧ k72.C w A4 x.f4.length x.f4 ∧ x.f6.length ≤ c6 ∧ (Kd.int .i64).C w A6 x.f6.length x.f6 := by
  obtain ⟨_, _, rfl, rfl, ⟨_, _, rfl, rfl, ⟨_, _, rfl, rfl, ⟨_, _, rfl, rfl, ⟨_, _, rfl, ⟨A4, c4, rfl, l4, g4⟩, ⟨_, _, rfl, rfl, ⟨A6, c6, rfl, l6, g6⟩⟩⟩⟩⟩⟩⟩ := h
  exact ⟨A4, c4, A6, c6, rfl, l4, g4, l6, g6⟩
theorem k68_openM {w : World} {base : Nat} {ok : Nat → Prop} {x : S68} {cs : List Value} (h : k68.M w base ok x cs) : ∃ v4 v6, cs = [.int .i64 x.f0, .int .i64 x.f1, .string x.f2, .string x.f3, v4, .int .i64 x.f5, v6] ∧ k72.R 72 w base ok v4 x.f4 ∧ (Kd.int .i64).R 3 w base ok v6 x.f6 := by
  obtain ⟨_, _, rfl, rfl, ⟨_, _, rfl, rfl, ⟨_, _, rfl, rfl, ⟨_, _, rfl, rfl, ⟨_, _, rfl, ⟨v4, rfl, g4⟩, ⟨_, _, rfl, rfl, ⟨v6, rfl, g6⟩⟩⟩⟩⟩⟩⟩ := h
  exact ⟨v4, v6, rfl, g4, g6⟩
theorem k68_mkM (w : World) (base : Nat) (ok : Nat → Prop) (x : S68) {v4 : Value} (g4 : k72.R 72 w base ok v4 x.f4) {v6 : Value} (g6 : (Kd.int .i64).R 3 w base ok v6 x.f6) : k68.M w base ok x [.int .i64 x.f0, .int .i64 x.f1, .string x.f2, .string x.f3, v4, .int .i64 x.f5, v6] := ⟨[.int .i64 x.f0], [.int .i64 x.f1, .string x.f2, .string x.f3, v4, .int .i64 x.f5, v6], rfl, rfl, ⟨[.int .i64 x.f1], [.string x.f2, .string x.f3, v4, .int .i64 x.f5, v6], rfl, rfl, ⟨[.string x.f2], [.string x.f3, v4, .int .i64 x.f5, v6], rfl, rfl, ⟨[.string x.f3], [v4, .int .i64 x.f5, v6], rfl, rfl, ⟨[v4], [.int .i64 x.f5, v6], rfl, ⟨v4, rfl, g4⟩, ⟨[.int .i64 x.f5], [v6], rfl, rfl, ⟨v6, rfl, g6⟩⟩⟩⟩⟩⟩⟩
def rd_T68 (xs : List S68) (i : Int) : S68 := xs.getD i.toNat z68
theorem at_T68 {w : World} {A : Option Addr} {n : Nat} {xs : List S68} (h : Kd.C k68 w A n xs) (i : Int) (h0 : 0 ≤ i) (h1 : i < n) : ∃ ad A4 c4 A6 c6, A = some ad ∧ w.cell? (ad.add (i.toNat * 7)) = some (.int .i64 (rd_T68 xs i).f0) ∧ w.cell? ⟨(ad.add (i.toNat * 7)).block, (ad.add (i.toNat * 7)).off + 1, none⟩ = some (.int .i64 (rd_T68 xs i).f1) ∧ w.cell? ⟨(ad.add (i.toNat * 7)).block, (ad.add (i.toNat * 7)).off + 2, none⟩ = some (.string (rd_T68 xs i).f2) ∧ w.cell? ⟨(ad.add (i.toNat * 7)).block, (ad.add (i.toNat * 7)).off + 3, none⟩ = some (.string (rd_T68 xs i).f3) ∧ w.cell? ⟨(ad.add (i.toNat * 7)).block, (ad.add (i.toNat * 7)).off + 4, none⟩ = some (.slice A4 (rd_T68 xs i).f4.length c4) ∧ w.cell? ⟨(ad.add (i.toNat * 7)).block, (ad.add (i.toNat * 7)).off + 5, none⟩ = some (.int .i64 (rd_T68 xs i).f5) ∧ w.cell? ⟨(ad.add (i.toNat * 7)).block, (ad.add (i.toNat * 7)).off + 6, none⟩ = some (.slice A6 (rd_T68 xs i).f6.length c6) ∧ (rd_T68 xs i).f4.length ≤ c4 ∧ k72.C w A4 (rd_T68 xs i).f4.length (rd_T68 xs i).f4 ∧ (rd_T68 xs i).f6.length ≤ c6 ∧ (Kd.int .i64).C w A6 (rd_T68 xs i).f6.length (rd_T68 xs i).f6 := by
  obtain ⟨ad, c, e, _, hK, hc0⟩ := Kd.C_get h z68 i h0 h1
  have hc : ∀ j u, c[j]? = some u → w.cell? (ad.add (i.toNat * 7 + j)) = some u := hc0
  obtain ⟨A4, c4, A6, c6, rfl, l4, g4, l6, g6⟩ := k68_open hK
  exact ⟨ad, A4, c4, A6, c6, e, hc 0 _ rfl, by rw [← add_field _ _ 1 (by omega)]; exact hc 1 _ rfl, by rw [← add_field _ _ 2 (by omega)]; exact hc 2 _ rfl, by rw [← add_field _ _ 3 (by omega)]; exact hc 3 _ rfl, by rw [← add_field _ _ 4 (by omega)]; exact hc 4 _ rfl, by rw [← add_field _ _ 5 (by omega)]; exact hc 5 _ rfl, by rw [← add_field _ _ 6 (by omega)]; exact hc 6 _ rfl, l4, g4, l6, g6⟩
structure S105 where
  f0 : (List S68)
def z105 : S105 := ⟨([] : List S68)⟩
def k105 : Kd S105 := Kd.iso (Kd.slice 68 k68) (fun x : S105 => x.f0)
theorem k105_open {w : World} {x : S105} {cs : List Value} (h : k105.K w x cs) : ∃ A0 c0, cs = [.slice A0 x.f0.length c0] ∧ x.f0.length ≤ c0 ∧ k68.C w A0 x.f0.length x.f0 := by
  obtain ⟨A0, c0, rfl, l0, g0⟩ := h
  exact ⟨A0, c0, rfl, l0, g0⟩
theorem k105_mk (w : World) (x : S105) {A0 : Option Addr} {c0 : Nat} (l0 : x.f0.length ≤ c0) (g0 : k68.C w A0 x.f0.length x.f0) : k105.K w x [.slice A0 x.f0.length c0] := ⟨A0, c0, rfl, l0, g0⟩
theorem k105_mkM (w : World) (base : Nat) (ok : Nat → Prop) (x : S105) {v0 : Value} (g0 : k68.R 68 w base ok v0 x.f0) : k105.M w base ok x [v0] := ⟨v0, rfl, g0⟩
def rd_T105 (xs : List S105) (i : Int) : S105 := xs.getD i.toNat z105
theorem at_T105 {w : World} {A : Option Addr} {n : Nat} {xs : List S105} (h : Kd.C k105 w A n xs) (i : Int) (h0 : 0 ≤ i) (h1 : i < n) : ∃ ad A0 c0, A = some ad ∧ w.cell? (ad.add i.toNat) = some (.slice A0 (rd_T105 xs i).f0.length c0) ∧ (rd_T105 xs i).f0.length ≤ c0 ∧ k68.C w A0 (rd_T105 xs i).f0.length (rd_T105 xs i).f0 := by
  obtain ⟨ad, c, e, _, hK, hc0⟩ := Kd.C_get h z105 i h0 h1
  have hc : ∀ j u, c[j]? = some u → w.cell? (ad.add (i.toNat * 1 + j)) = some u := hc0
  obtain ⟨A0, c0, rfl, l0, g0⟩ := k105_open hK
  exact ⟨ad, A0, c0, e, by have hq := hc 0 _ rfl; rwa [Nat.mul_one, Nat.add_zero] at hq, l0, g0⟩
structure S41 where
  f0 : Int
  f1 : Int
  f2 : ByteArray
def z41 : S41 := ⟨(0 : Int), (0 : Int), (⟨#[]⟩ : ByteArray)⟩
def k41 : Kd S41 := Kd.iso (Kd.pair (Kd.int .i64) (Kd.pair (Kd.int .i64) Kd.string)) (fun x : S41 => (x.f0, x.f1, x.f2))
theorem k41_open {w : World} {x : S41} {cs : List Value} (h : k41.K w x cs) : cs = [.int .i64 x.f0, .int .i64 x.f1, .string x.f2] := by
  obtain ⟨_, _, rfl, rfl, ⟨_, _, rfl, rfl, rfl⟩⟩ := h
  exact rfl
theorem k41_mkM (w : World) (base : Nat) (ok : Nat → Prop) (x : S41)  : k41.M w base ok x [.int .i64 x.f0, .int .i64 x.f1, .string x.f2] := ⟨[.int .i64 x.f0], [.int .i64 x.f1, .string x.f2], rfl, rfl, ⟨[.int .i64 x.f1], [.string x.f2], rfl, rfl, rfl⟩⟩
def rd_T41 (xs : List S41) (i : Int) : S41 := xs.getD i.toNat z41
theorem at_T41 {w : World} {A : Option Addr} {n : Nat} {xs : List S41} (h : Kd.C k41 w A n xs) (i : Int) (h0 : 0 ≤ i) (h1 : i < n) : ∃ ad , A = some ad ∧ w.cell? (ad.add (i.toNat * 3)) = some (.int .i64 (rd_T41 xs i).f0) ∧ w.cell? ⟨(ad.add (i.toNat * 3)).block, (ad.add (i.toNat * 3)).off + 1, none⟩ = some (.int .i64 (rd_T41 xs i).f1) ∧ w.cell? ⟨(ad.add (i.toNat * 3)).block, (ad.add (i.toNat * 3)).off + 2, none⟩ = some (.string (rd_T41 xs i).f2) := by
  obtain ⟨ad, c, e, _, hK, hc0⟩ := Kd.C_get h z41 i h0 h1
  have hc : ∀ j u, c[j]? = some u → w.cell? (ad.add (i.toNat * 3 + j)) = some u := hc0
  obtain rfl := k41_open hK
  exact ⟨ad, e, hc 0 _ rfl, by rw [← add_field _ _ 1 (by omega)]; exact hc 1 _ rfl, by rw [← add_field _ _ 2 (by omega)]; exact hc 2 _ rfl⟩
structure S47 where
  f0 : Int
  f1 : Int
def z47 : S47 := ⟨(0 : Int), (0 : Int)⟩
def k47 : Kd S47 := Kd.iso (Kd.pair (Kd.int .i64) (Kd.int .i64)) (fun x : S47 => (x.f0, x.f1))
theorem k47_open {w : World} {x : S47} {cs : List Value} (h : k47.K w x cs) : cs = [.int .i64 x.f0, .int .i64 x.f1] := by
  obtain ⟨_, _, rfl, rfl, rfl⟩ := h
  exact rfl
theorem k47_mkM (w : World) (base : Nat) (ok : Nat → Prop) (x : S47)  : k47.M w base ok x [.int .i64 x.f0, .int .i64 x.f1] := ⟨[.int .i64 x.f0], [.int .i64 x.f1], rfl, rfl, rfl⟩
def rd_T47 (xs : List S47) (i : Int) : S47 := xs.getD i.toNat z47
theorem at_T47 {w : World} {A : Option Addr} {n : Nat} {xs : List S47} (h : Kd.C k47 w A n xs) (i : Int) (h0 : 0 ≤ i) (h1 : i < n) : ∃ ad , A = some ad ∧ w.cell? (ad.add (i.toNat * 2)) = some (.int .i64 (rd_T47 xs i).f0) ∧ w.cell? ⟨(ad.add (i.toNat * 2)).block, (ad.add (i.toNat * 2)).off + 1, none⟩ = some (.int .i64 (rd_T47 xs i).f1) := by
  obtain ⟨ad, c, e, _, hK, hc0⟩ := Kd.C_get h z47 i h0 h1
  have hc : ∀ j u, c[j]? = some u → w.cell? (ad.add (i.toNat * 2 + j)) = some u := hc0
  obtain rfl := k47_open hK
  exact ⟨ad, e, hc 0 _ rfl, by rw [← add_field _ _ 1 (by omega)]; exact hc 1 _ rfl⟩
structure S64 where
  f0 : Int
  f1 : Int
  f2 : ByteArray
def z64 : S64 := ⟨(0 : Int), (0 : Int), (⟨#[]⟩ : ByteArray)⟩
def k64 : Kd S64 := Kd.iso (Kd.pair (Kd.int .i64) (Kd.pair (Kd.int .i64) Kd.string)) (fun x : S64 => (x.f0, x.f1, x.f2))
theorem k64_open {w : World} {x : S64} {cs : List Value} (h : k64.K w x cs) : cs = [.int .i64 x.f0, .int .i64 x.f1, .string x.f2] := by
  obtain ⟨_, _, rfl, rfl, ⟨_, _, rfl, rfl, rfl⟩⟩ := h
  exact rfl
theorem k64_mkM (w : World) (base : Nat) (ok : Nat → Prop) (x : S64)  : k64.M w base ok x [.int .i64 x.f0, .int .i64 x.f1, .string x.f2] := ⟨[.int .i64 x.f0], [.int .i64 x.f1, .string x.f2], rfl, rfl, ⟨[.int .i64 x.f1], [.string x.f2], rfl, rfl, rfl⟩⟩
def rd_T64 (xs : List S64) (i : Int) : S64 := xs.getD i.toNat z64
theorem at_T64 {w : World} {A : Option Addr} {n : Nat} {xs : List S64} (h : Kd.C k64 w A n xs) (i : Int) (h0 : 0 ≤ i) (h1 : i < n) : ∃ ad , A = some ad ∧ w.cell? (ad.add (i.toNat * 3)) = some (.int .i64 (rd_T64 xs i).f0) ∧ w.cell? ⟨(ad.add (i.toNat * 3)).block, (ad.add (i.toNat * 3)).off + 1, none⟩ = some (.int .i64 (rd_T64 xs i).f1) ∧ w.cell? ⟨(ad.add (i.toNat * 3)).block, (ad.add (i.toNat * 3)).off + 2, none⟩ = some (.string (rd_T64 xs i).f2) := by
  obtain ⟨ad, c, e, _, hK, hc0⟩ := Kd.C_get h z64 i h0 h1
  have hc : ∀ j u, c[j]? = some u → w.cell? (ad.add (i.toNat * 3 + j)) = some u := hc0
  obtain rfl := k64_open hK
  exact ⟨ad, e, hc 0 _ rfl, by rw [← add_field _ _ 1 (by omega)]; exact hc 1 _ rfl, by rw [← add_field _ _ 2 (by omega)]; exact hc 2 _ rfl⟩
end Go.Proofs.YtomdidopflebjaaGreatDoor.PM
namespace Go.Proofs.YtomdidopflebjaaGreatDoor.PM
open Go.RowKit Go.Proofs.YtomdidopflebjaaGreatDoorW.PrintWords Go.Proofs.YtomdidopflebjaaGreatDoorW.PrintLast
/-- A kind whose cells are told by a function. -/
structure Flat {α : Type} (d : Kd α) (enc : α → List Value) : Prop where
  pos : 0 < d.sz
  K : ∀ {w x cs}, d.K w x cs → cs = enc x
  M : ∀ (w base ok x), d.M w base ok x (enc x)
  len : ∀ x, (enc x).length = d.sz
  one : ∀ x, ∀ u ∈ enc x, u.oneCell' = true
theorem flat_len {α : Type} {enc : α → List Value} {s : Nat} (hs : ∀ x, (enc x).length = s) : ∀ l : List α, (l.flatMap enc).length = l.length * s
  | [] => by simp
  | x :: l => by rw [List.flatMap_cons, List.length_append, hs, flat_len hs l, List.length_cons, Nat.succ_mul, Nat.add_comm]
theorem flat_take {α : Type} {enc : α → List Value} {s : Nat} (hs : ∀ x, (enc x).length = s) : ∀ (l : List α) (j : Nat) (x : α), l[j]? = some x → ((l.flatMap enc).drop (j * s)).take s = enc x
  | [], j, x, h => by simp at h
  | y :: l, 0, x, h => by
    obtain rfl : y = x := by simpa using h
    rw [List.flatMap_cons, Nat.zero_mul, List.drop_zero, List.take_append_of_le_length (by rw [hs]; exact Nat.le_refl _), List.take_of_length_le (by rw [hs]; exact Nat.le_refl _)]
  | y :: l, j + 1, x, h => by
    have h' : l[j]? = some x := by simpa using h
    rw [List.flatMap_cons, Nat.succ_mul, List.drop_append, List.drop_of_length_le (by rw [hs]; omega), List.nil_append, hs, Nat.add_sub_cancel]
    exact flat_take hs l j x h'
theorem flat_reps {α : Type} {enc : α → List Value} {s : Nat} {R : α → List Value → Prop} (hs : ∀ x, (enc x).length = s) (hR : ∀ x, R x (enc x)) (l : List α) : Reps R s l (l.flatMap enc) :=
  ⟨flat_len hs l, fun j x h => by rw [flat_take hs l j x h]; exact hR x⟩
theorem flat_at {α : Type} {enc : α → List Value} {s : Nat} (hs : ∀ x, (enc x).length = s) (hp : 0 < s) (l : List α) (q : Nat) (u : Value) (h : (l.flatMap enc)[q]? = some u) : ∃ x, l[q / s]? = some x ∧ (enc x)[q % s]? = some u := by
  have hq : q < l.length * s := by
    have := (List.getElem?_eq_some_iff.1 h).1
    rwa [flat_len hs] at this
  have hj : q / s < l.length := Nat.div_lt_of_lt_mul (by rw [Nat.mul_comm]; exact hq)
  refine ⟨l[q / s], List.getElem?_eq_getElem hj, ?_⟩
  have e := flat_take hs l (q / s) _ (List.getElem?_eq_getElem hj)
  rw [← e, List.getElem?_take, if_pos (Nat.mod_lt _ hp), List.getElem?_drop, Nat.mul_comm, Nat.div_add_mod]
  exact h
theorem C_cells {α : Type} {d : Kd α} {enc : α → List Value} (F : Flat d enc) {w : World} {ad : Addr} {l : List α} (h : Kd.C d w (some ad) l.length l) : ∀ q u, (l.flatMap enc)[q]? = some u → w.cell? (ad.add q) = some u := by
  intro q u hu
  have hq : q < l.length * d.sz := by
    have := (List.getElem?_eq_some_iff.1 hu).1
    rwa [flat_len F.len] at this
  have hl : 0 < l.length := by
    rcases Nat.eq_zero_or_pos l.length with e | e
    · rw [e, Nat.zero_mul] at hq
      omega
    · exact e
  obtain ⟨ad', he, hcell⟩ := h.2.2 hl
  cases he
  obtain ⟨x, hx, hi⟩ := flat_at F.len F.pos l q u hu
  obtain ⟨c, _, hK, hcc⟩ := hcell _ x hx
  rw [F.K hK] at hcc
  have e := hcc _ _ hi
  rw [Nat.mul_comm, Nat.div_add_mod] at e
  exact e
theorem R_flat {α : Type} {d : Kd α} {enc : α → List Value} (F : Flat d enc) {w : World} {e base n : Nat} {v : Value} {l : List α} (hn : n = l.length) (h : w.ownsRow base e d.sz v n (l.flatMap enc)) : Kd.R d e w base (fun _ => True) v l := by
  subst hn
  exact ⟨fun _ _ => trivial, l.flatMap enc, h, flat_reps F.len (fun x => F.M _ _ _ x) l⟩
theorem flat_one {α : Type} {d : Kd α} {enc : α → List Value} (F : Flat d enc) (l : List α) : ∀ u ∈ l.flatMap enc, u.oneCell' = true := by
  intro u hu
  obtain ⟨x, _, hx⟩ := List.mem_flatMap.1 hu
  exact F.one x u hx
theorem C_none {α : Type} {d : Kd α} {w : World} {l : List α} (h : Kd.C d w none l.length l) : l = [] := by
  apply Classical.byContradiction
  intro hne
  obtain ⟨ad, he, _⟩ := h.2.2 (List.length_pos_iff.2 hne)
  cases he
end Go.Proofs.YtomdidopflebjaaGreatDoor.PM
namespace Go.Proofs.YtomdidopflebjaaGreatDoor.PM
open Go.RowKit Go.Proofs.YtomdidopflebjaaGreatDoorW.PrintWords Go.Proofs.YtomdidopflebjaaGreatDoorW.PrintLast
def enc71 (x : S71) : List Value := [.string x.f0, .string x.f1]
theorem flat71 : Flat k71 enc71 where
  pos := by decide
  K := fun h => k71_open h
  M := fun w base ok x => k71_mkM w base ok x
  len := fun _ => rfl
  one := fun x u hu => by
    have hu' : u = .string x.f0 ∨ u = .string x.f1 := by simpa [enc71] using hu
    rcases hu' with rfl | rfl <;> rfl
theorem infoA71 : (Tryz.prog.info? 71).map (fun i => (i.zero, i.size, i.bytes)) = some (some (.agg #[.string ⟨#[]⟩, .string ⟨#[]⟩]), 2, 32) := by kernel_rfl
set_option maxHeartbeats 2000000 in
set_option maxRecDepth 100000 in
theorem clone71_walk (ad : Addr) (n c : Nat) (news : List Value) (w : World) (hl : news.length = n * 2) (hn : n ≤ maxLen) (hbig : n * 32 ≤ 140737488355328)
    (hc : ∀ j u, news[j]? = some u → w.cell? (ad.add j) = some u) (h1 : ∀ u ∈ news, u.oneCell' = true) :
    Calls Tryz.prog 47 #[.slice (some ad) n c] w fun e w' => ∃ v', e = .returned v' ∧ w'.ownsRow w.heap.size 71 2 v' n news ∧ Below w.heap.size w w' := by
  obtain ⟨i0, hi, hz0, hz1, hz2⟩ := info_parts infoA71
  have q22 : ∀ (w : World) (a : Option Addr) (n c n' c' : Nat), (binOp .eql 57 (.slice a n c) (.slice none n' c')).run Tryz.prog w = .ok (.bool a.isNone) w := fun w a n c n' c' => Lib.run_eql_slice_nil w _ _ a n c n' c' Tryz.underlying57
  have A : Aside0 (∀ j u, news[j]? = some u → w.cell? (ad.add j) = some u) := ⟨hc⟩
  clear hc
  go_enter Tryz.func47, Tryz.ntmps47
  go_wp2_with (at_builtin; refine wpList_append_own _ rfl _ _ 57 rfl w.heap.size 71 i0 _ 2 32 Tryz.underlying57 hi hz0 hz1 hz2 rfl (by decide) _ _ _ rfl (World.ownsRow_made w #[] 0 (Nat.le_refl _) (Nat.zero_le _) (by simp)) ad n c news rfl ?qc1 ?qc2 ?qc3 ?qc4 ?qc5 ?qc6 ?_)
  case qc1 => exact hl
  case qc2 =>
    intro j u hj
    exact Lib.cell?_alloc_some _ (A.out j u hj)
  case qc3 => exact h1
  case qc4 => rw [Nat.zero_add]; exact hn
  case qc5 => rw [Nat.zero_add]; exact hbig
  case qc6 => simp
  intro v' w1 hown hgrow hnil
  go_wp2
  go_ret
  refine ⟨v', rfl, by simpa using hown, ?_⟩
  exact ((Below.refl _ w).alloc (Nat.le_refl _) _).grown hgrow (by simp) (by intro k hk; simp [Value.ownBlock] at hk; omega)
set_option maxHeartbeats 1000000 in
theorem clone71_nil (n c : Nat) (w : World) : Calls Tryz.prog 47 #[.slice none n c] w fun e w' => e = .returned (.slice none 0 0) ∧ w' = w := by
  have q22 : ∀ (w : World) (a : Option Addr) (n c n' c' : Nat), (binOp .eql 57 (.slice a n c) (.slice none n' c')).run Tryz.prog w = .ok (.bool a.isNone) w := fun w a n c n' c' => Lib.run_eql_slice_nil w _ _ a n c n' c' Tryz.underlying57
  go_enter Tryz.func47, Tryz.ntmps47
  go_wp2
  go_ret
  exact ⟨rfl, rfl⟩
def api_Attr.f (l : List S71) : Option (List S71) := if l.length ≤ 1000000000 then some l else none
theorem api_Attr.calls (A0 : Option Addr) (c0 : Nat) (l0 : List S71) (r : List S71) (w : World) (hr0 : Kd.C k71 w A0 l0.length l0) (hc0 : l0.length ≤ c0) (h : api_Attr.f l0 = some r) :
    Calls Tryz.prog 47 #[.slice A0 l0.length c0] w fun e w' => ∃ v0_ : Value, e = .returned v0_ ∧ Kd.R k71 71 w' w.heap.size (fun _ => True) v0_ r ∧ Below w.heap.size w w' := by
  have _ := hc0
  unfold api_Attr.f at h
  split at h
  case isFalse => cases h
  rename_i hlen
  obtain rfl := Option.some.inj h
  cases A0 with
  | none =>
    obtain rfl := C_none hr0
    refine (clone71_nil _ _ _).mono ?_
    rintro e w' ⟨rfl, rfl⟩
    exact ⟨_, rfl, Kd.R_nil _ _ _ _ _, Below.refl _ _⟩
  | some ad =>
    refine (clone71_walk ad l0.length c0 (l0.flatMap enc71) w (flat_len flat71.len l0) (by simp only [maxLen]; omega) (by omega) (C_cells flat71 hr0) (flat_one flat71 l0)).mono ?_
    rintro e w' ⟨v', rfl, hown, hb⟩
    exact ⟨v', rfl, R_flat flat71 rfl hown, hb⟩
end Go.Proofs.YtomdidopflebjaaGreatDoor.PM
namespace Go.Proofs.YtomdidopflebjaaGreatDoor.PM
open Go.RowKit Go.Proofs.YtomdidopflebjaaGreatDoorW.PrintWords Go.Proofs.YtomdidopflebjaaGreatDoorW.PrintLast Go.Proofs.YtomdidopflebjaaGreatDoorW.PrintMore
def dom_Tree_there.f (l0 : List S113) (a1 : Int) : Option Bool := some (if 0 < l0.length then (if 0 ≤ a1 then decide (a1 < ((rd_T113 l0 0).f0.length : Int)) else false) else false)
theorem dom_Tree_there.calls (A0 : Option Addr) (c0 : Nat) (l0 : List S113) (a1 : Int) (r : Bool) (w : World) (hr0 : Kd.C k113 w A0 l0.length l0) (hc0 : l0.length ≤ c0 ∧ (l0 = [] → A0 = none)) (h : dom_Tree_there.f l0 a1 = some r) :
    Calls Tryz.prog 48 #[.pointer A0, .int .i64 a1] w fun e w' => e = .returned (.bool r) ∧ Drawn0 w w' := by
  obtain rfl := Option.some.inj h
  clear h
  by_cases e : l0 = []
  · subst e
    obtain rfl := hc0.2 rfl
    clear hr0 hc0
    go_enter Tryz.func48, Tryz.ntmps48
    go_wp2
    go_ret
    exact ⟨by simp, Drawn0.refl _⟩
  · have hl : 0 < l0.length := List.length_pos_iff.2 e
    obtain ⟨ad, A, c, rfl, hcell, _, _⟩ := at_T113 hr0 0 (by omega) (by omega)
    obtain ⟨N, hN⟩ : ∃ N, N = (rd_T113 l0 0).f0.length := ⟨_, rfl⟩
    rw [← hN] at hcell ⊢
    rw [if_pos hl]
    rw [show ((0 : Int)).toNat = 0 from rfl, Addr.add_zero'] at hcell
    clear hr0 hc0 hN hl e
    by_cases h0 : 0 ≤ a1
    · have h0b : decide (0 ≤ a1) = true := decide_eq_true h0
      rw [if_pos h0]
      clear h0
      go_enter Tryz.func48, Tryz.ntmps48
      go_wp2
      go_ret
      exact ⟨by first | rfl | simp, Drawn0.refl _⟩
    · have h0b : decide (0 ≤ a1) = false := decide_eq_false h0
      rw [if_neg h0]
      clear h0
      go_enter Tryz.func48, Tryz.ntmps48
      go_wp2
      go_ret
      exact ⟨by first | rfl | simp, Drawn0.refl _⟩
end Go.Proofs.YtomdidopflebjaaGreatDoor.PM
namespace Go.Proofs.YtomdidopflebjaaGreatDoor.PM
open Go.RowKit Go.Proofs.YtomdidopflebjaaGreatDoorW.PrintWords Go.Proofs.YtomdidopflebjaaGreatDoorW.PrintLast Go.Proofs.YtomdidopflebjaaGreatDoorW.PrintMore
theorem blk5 {w : World} {g : Nat} {t : TypeId} {a0 a1 a2 a3 a4 : Value} (h : w.heap[g]? = some (.cells #[a0, a1, a2, a3, a4] t (0, 0))) (b0 b1 b2 b3 b4 : Value) :
    (((((w.setCell ⟨g, 0, none⟩ b0).setCell ⟨g, 1, none⟩ b1).setCell ⟨g, 2, none⟩ b2).setCell ⟨g, 3, none⟩ b3).setCell ⟨g, 4, none⟩ b4).heap[g]? = some (.cells #[b0, b1, b2, b3, b4] t (0, 0)) :=
  blk_set (blk_set (blk_set (blk_set (blk_set h 0 b0) 1 b1) 2 b2) 3 b3) 4 b4
def dom_Tree_Get.f (l0 : List S113) (a1 : Int) : Option (Int × Int × ByteArray × ByteArray × (List S71) × Bool) :=
  if 0 < l0.length ∧ 0 ≤ a1 ∧ a1 < ((rd_T113 l0 0).f0.length : Int) then
    (if (rd_T110 (rd_T113 l0 0).f0 a1).f0.f4.length ≤ 1000000000 then some ((rd_T110 (rd_T113 l0 0).f0 a1).f0.f0, (rd_T110 (rd_T113 l0 0).f0 a1).f0.f1, (rd_T110 (rd_T113 l0 0).f0 a1).f0.f2, (rd_T110 (rd_T113 l0 0).f0 a1).f0.f3, (rd_T110 (rd_T113 l0 0).f0 a1).f0.f4, true) else none)
  else some (0, 0, (⟨#[]⟩ : ByteArray), (⟨#[]⟩ : ByteArray), ([] : List S71), false)
set_option maxHeartbeats 4000000 in
set_option maxRecDepth 100000 in
theorem get_no (A0 : Option Addr) (a1 : Int) (w : World) (ht : ∀ o, Calls Tryz.prog 48 #[.pointer A0, .int .i64 a1] (w.alloc o) fun e w' => e = .returned (.bool false) ∧ Below w.heap.size w w' ∧ w'.heap[w.heap.size]? = some o) :
    Calls Tryz.prog 29 #[.pointer A0, .int .i64 a1] w fun e w' => e = .returned (.tuple #[.agg #[.int .i64 0, .int .i64 0, .string ⟨#[]⟩, .string ⟨#[]⟩, .slice none 0 0], .bool false]) ∧ Below w.heap.size w w' := by
  have HT := Aside0.mk ht
  clear ht
  go_enter Tryz.func29, Tryz.ntmps29
  go_wp2_with (go_at_call 48; refine (HT.out _).mono ?_; rintro e w1 ⟨rfl, hb, hB⟩; have z0 := blk_cell hB 0; have z1 := blk_cell hB 1; have z2 := blk_cell hB 2; have z3 := blk_cell hB 3; have z4 := blk_cell hB 4; have y0 := blk_frozen hB 0; have y1 := blk_frozen hB 1; have y2 := blk_frozen hB 2; have y3 := blk_frozen hB 3; have y4 := blk_frozen hB 4; have HB := Aside0.mk hb; have HBB := Aside0.mk hB; clear hb hB; simp at z0 z1 z2 z3 z4)
  have hF := blk5 HBB.out (.int .i64 0) (.int .i64 0) (.string ⟨#[]⟩) (.string ⟨#[]⟩) (.slice none 0 0)
  have v0 := blk_cell hF 0
  have v1 := blk_cell hF 1
  have v2 := blk_cell hF 2
  have v3 := blk_cell hF 3
  have v4 := blk_cell hF 4
  clear hF z0 z1 z2 z3 z4 y0 y1 y2 y3 y4
  revert v0 v1 v2 v3 v4
  have hb9 : Below w.heap.size w (((((w1.setCell ⟨w.heap.size, 0, none⟩ (.int .i64 0)).setCell ⟨w.heap.size, 1, none⟩ (.int .i64 0)).setCell ⟨w.heap.size, 2, none⟩ (.string ⟨#[]⟩)).setCell ⟨w.heap.size, 3, none⟩ (.string ⟨#[]⟩)).setCell ⟨w.heap.size, 4, none⟩ (.slice none 0 0)) := ((((HB.out.setCell (Nat.le_refl _) _).setCell (Nat.le_refl _) _).setCell (Nat.le_refl _) _).setCell (Nat.le_refl _) _).setCell (Nat.le_refl _) _
  revert hb9
  generalize (((((w1.setCell ⟨w.heap.size, 0, none⟩ (.int .i64 0)).setCell ⟨w.heap.size, 1, none⟩ (.int .i64 0)).setCell ⟨w.heap.size, 2, none⟩ (.string ⟨#[]⟩)).setCell ⟨w.heap.size, 3, none⟩ (.string ⟨#[]⟩)).setCell ⟨w.heap.size, 4, none⟩ (.slice none 0 0)) = W
  intro hb9 v0 v1 v2 v3 v4
  simp at v0 v1 v2 v3 v4
  exact bodyPost_ret (v := .tuple #[.agg #[.int .i64 0, .int .i64 0, .string ⟨#[]⟩, .string ⟨#[]⟩, .slice none 0 0], .bool false]) (by simp [results, Tryz.results29, go_sem, v0, v1, v2, v3, v4]) rfl ⟨rfl, hb9⟩
set_option maxHeartbeats 8000000 in
set_option maxRecDepth 100000 in
theorem get_yes (ad : Addr) (A : Option Addr) (n c : Nat) (a1 : Int) (f0 f1 : Int) (f2 f3 : ByteArray) (f4 : List S71) (A4 : Option Addr) (c4 : Nat) (ad2 : Addr) (w : World)
    (ht : ∀ o, Calls Tryz.prog 48 #[.pointer (some ad), .int .i64 a1] (w.alloc o) fun e w' => e = .returned (.bool true) ∧ Below w.heap.size w w' ∧ w'.heap[w.heap.size]? = some o)
    (hc : w.cell? ad = some (.slice A n c)) (hA : A = some ad2) (h0 : 0 ≤ a1) (h1 : a1 < (n : Int))
    (c0 : w.cell? (ad2.add (a1.toNat * 10)) = some (.int .i64 f0)) (c1 : w.cell? ⟨(ad2.add (a1.toNat * 10)).block, (ad2.add (a1.toNat * 10)).off + 1, none⟩ = some (.int .i64 f1))
    (c2 : w.cell? ⟨(ad2.add (a1.toNat * 10)).block, (ad2.add (a1.toNat * 10)).off + 2, none⟩ = some (.string f2)) (c3 : w.cell? ⟨(ad2.add (a1.toNat * 10)).block, (ad2.add (a1.toNat * 10)).off + 3, none⟩ = some (.string f3))
    (c4' : w.cell? ⟨(ad2.add (a1.toNat * 10)).block, (ad2.add (a1.toNat * 10)).off + 4, none⟩ = some (.slice A4 f4.length c4)) (hl : f4.length ≤ c4) (hR : Kd.C k71 w A4 f4.length f4) (hs : f4.length ≤ 1000000000) :
    Calls Tryz.prog 29 #[.pointer (some ad), .int .i64 a1] w fun e w' => ∃ v4_, e = .returned (.tuple #[.agg #[.int .i64 f0, .int .i64 f1, .string f2, .string f3, v4_], .bool true]) ∧ Kd.R k71 71 w' w.heap.size (fun _ => True) v4_ f4 ∧ Below w.heap.size w w' := by
  subst hA
  have HT := Aside0.mk ht
  have HR := Aside0.mk hR
  have HL := Aside0.mk hl
  have HS := Aside0.mk hs
  have K := Aside0.mk hc
  have K0 := Aside0.mk c0
  have K1 := Aside0.mk c1
  have K2 := Aside0.mk c2
  have K3 := Aside0.mk c3
  have K4 := Aside0.mk c4'
  clear ht hR hl hs hc c0 c1 c2 c3 c4'
  have i0 := eq_true h0
  have i1 := eq_true h1
  have d0 : decide (0 ≤ a1) = true := decide_eq_true h0
  have d1 : decide (a1 < (n : Int)) = true := decide_eq_true h1
  go_enter Tryz.func29, Tryz.ntmps29
  go_wp2_with (first
    | (go_at_call 48; refine (HT.out _).mono ?_; rintro e w1 ⟨rfl, hb, hB⟩; have hc := pw_cell_below hb K.out; have e0 := pw_cell_below hb K0.out; have e1 := pw_cell_below hb K1.out; have e2 := pw_cell_below hb K2.out; have e3 := pw_cell_below hb K3.out; have e4 := pw_cell_below hb K4.out; have hne : ¬ (w.heap.size = w1.heap.size) := Nat.ne_of_lt (blk_lt hB); have hne2 : ¬ (w1.heap.size = w.heap.size) := fun e => hne e.symm; have HB := Aside0.mk hb; have HBB := Aside0.mk hB; clear hb hB)
    | (go_at_call 47; refine (api_Attr.calls _ _ _ f4 _ (Kd.C_alloc (Kd.C_below HR.out HB.out) _) HL.out (by unfold api_Attr.f; rw [if_pos HS.out])).mono ?_; rintro e w3 ⟨v4, rfl, hR4, hb3⟩; obtain ⟨A5, c5, e5⟩ := Kd.R_slice hR4; subst e5; have hD := blk_below (blk_new w1 _) hb3; have hE := blk_below (blk_alloc HBB.out _) hb3; have z0 := blk_cell hD 0; have z1 := blk_cell hD 1; have z2 := blk_cell hD 2; have z3 := blk_cell hD 3; have z4 := blk_cell hD 4;  have y0 := blk_frozen hD 0; have y1 := blk_frozen hD 1; have y2 := blk_frozen hD 2; have y3 := blk_frozen hD 3; have y4 := blk_frozen hD 4; simp at z0 z1 z2 z3 z4; have HD := Aside0.mk hD; have HE := Aside0.mk hE; have HR4 := Aside0.mk hR4; have HB3 := Aside0.mk hb3; clear hD hE hR4 hb3; have x0 := blk_cell HE.out 0; have x1 := blk_cell HE.out 1; have x2 := blk_cell HE.out 2; have x3 := blk_cell HE.out 3; have x4 := blk_cell HE.out 4; have x5 := blk_frozen HE.out 0; have x6 := blk_frozen HE.out 1; have x7 := blk_frozen HE.out 2; have x8 := blk_frozen HE.out 3; have x9 := blk_frozen HE.out 4; simp at x0 x1 x2 x3 x4))
  have hF := blk5 (blk_far HE.out hne (p := ⟨w1.heap.size, 4, none⟩) (.slice A5 f4.length c5)) (.int .i64 f0) (.int .i64 f1) (.string f2) (.string f3) (.slice A5 f4.length c5)
  have v0 := blk_cell hF 0
  have v1 := blk_cell hF 1
  have v2 := blk_cell hF 2
  have v3 := blk_cell hF 3
  have v4 := blk_cell hF 4
  clear hF z0 z1 z2 z3 z4 y0 y1 y2 y3 y4 x0 x1 x2 x3 x4 x5 x6 x7 x8 x9
  revert v0 v1 v2 v3 v4
  have hle : w.heap.size ≤ w1.heap.size := HB.out.size
  have hg9 : (w1.alloc (.cells #[.int .i64 f0, .int .i64 f1, .string f2, .string f3, .slice A4 f4.length c4] 59)).heap.size ≤ w3.heap.size := HB3.out.size
  have hb3 : Below w.heap.size w w3 := below_then (below_alloc HB.out _) (Nat.le_trans hle (by simp)) HB3.out
  have hb9 := (((((hb3.setCell (p := ⟨w1.heap.size, 4, none⟩) hle (.slice A5 f4.length c5)).setCell (p := ⟨w.heap.size, 0, none⟩) (Nat.le_refl _) (.int .i64 f0)).setCell (p := ⟨w.heap.size, 1, none⟩) (Nat.le_refl _) (.int .i64 f1)).setCell (p := ⟨w.heap.size, 2, none⟩) (Nat.le_refl _) (.string f2)).setCell (p := ⟨w.heap.size, 3, none⟩) (Nat.le_refl _) (.string f3)).setCell (p := ⟨w.heap.size, 4, none⟩) (Nat.le_refl _) (.slice A5 f4.length c5)
  have hR9 : Kd.R k71 71 ((((((w3.setCell ⟨w1.heap.size, 4, none⟩ (.slice A5 f4.length c5)).setCell ⟨w.heap.size, 0, none⟩ (.int .i64 f0)).setCell ⟨w.heap.size, 1, none⟩ (.int .i64 f1)).setCell ⟨w.heap.size, 2, none⟩ (.string f2)).setCell ⟨w.heap.size, 3, none⟩ (.string f3)).setCell ⟨w.heap.size, 4, none⟩ (.slice A5 f4.length c5)) w.heap.size (fun _ => True) (.slice A5 f4.length c5) f4 := by
    have s0 := Kd.R_set (Kd.R_lower HR4.out (Nat.le_trans hle (by simp))) HD.out (by decide) 4 (.slice A5 f4.length c5)
    have e1 := blk_far HE.out hne (p := ⟨w1.heap.size, 4, none⟩) (.slice A5 f4.length c5)
    have s1 := Kd.R_set s0 e1 (by decide) 0 (.int .i64 f0)
    have e2 := blk_set e1 0 (.int .i64 f0)
    have s2 := Kd.R_set s1 e2 (by decide) 1 (.int .i64 f1)
    have e3 := blk_set e2 1 (.int .i64 f1)
    have s3 := Kd.R_set s2 e3 (by decide) 2 (.string f2)
    have e4 := blk_set e3 2 (.string f2)
    have s4 := Kd.R_set s3 e4 (by decide) 3 (.string f3)
    have e5 := blk_set e4 3 (.string f3)
    exact Kd.R_set s4 e5 (by decide) 4 (.slice A5 f4.length c5)
  revert hb9 hR9
  generalize ((((((w3.setCell ⟨w1.heap.size, 4, none⟩ (.slice A5 f4.length c5)).setCell ⟨w.heap.size, 0, none⟩ (.int .i64 f0)).setCell ⟨w.heap.size, 1, none⟩ (.int .i64 f1)).setCell ⟨w.heap.size, 2, none⟩ (.string f2)).setCell ⟨w.heap.size, 3, none⟩ (.string f3)).setCell ⟨w.heap.size, 4, none⟩ (.slice A5 f4.length c5)) = W
  intro hb9 hR9 v0 v1 v2 v3 v4
  simp at v0 v1 v2 v3 v4
  exact bodyPost_ret (v := .tuple #[.agg #[.int .i64 f0, .int .i64 f1, .string f2, .string f3, .slice A5 f4.length c5], .bool true]) (by simp [results, Tryz.results29, go_sem, v0, v1, v2, v3, v4]) rfl ⟨_, rfl, hR9, hb9⟩
theorem dom_Tree_Get.calls (A0 : Option Addr) (c0 : Nat) (l0 : List S113) (a1 : Int) (r1 : Int) (r2 : Int) (r3 : ByteArray) (r4 : ByteArray) (r5 : List S71) (r6 : Bool) (w : World) (hr0 : Kd.C k113 w A0 l0.length l0) (hc0 : l0.length ≤ c0 ∧ (l0 = [] → A0 = none)) (h : dom_Tree_Get.f l0 a1 = some (r1, r2, r3, r4, r5, r6)) :
    Calls Tryz.prog 29 #[.pointer A0, .int .i64 a1] w fun e w' => ∃ v4_ : Value, e = .returned (.tuple #[.agg #[.int .i64 r1, .int .i64 r2, .string r3, .string r4, v4_], .bool r6]) ∧ Kd.R k71 71 w' w.heap.size (fun _ => True) v4_ r5 ∧ Below w.heap.size w w' := by
  have ht : ∀ o, Calls Tryz.prog 48 #[.pointer A0, .int .i64 a1] (w.alloc o) fun e w' => e = .returned (.bool (if 0 < l0.length then (if 0 ≤ a1 then decide (a1 < ((rd_T113 l0 0).f0.length : Int)) else false) else false)) ∧ Below w.heap.size w w' ∧ w'.heap[w.heap.size]? = some o := fun o =>
    (dom_Tree_there.calls A0 c0 l0 a1 _ (w.alloc o) (Kd.C_alloc hr0 _) hc0 rfl).mono (by
      rintro e w' ⟨rfl, nd, rfl⟩
      exact ⟨rfl, pw_below_drewN (below_alloc (Below.refl _ _) _) _, blk_drewN (blk_new _ _) _⟩)
  unfold dom_Tree_Get.f at h
  by_cases hc : 0 < l0.length ∧ 0 ≤ a1 ∧ a1 < ((rd_T113 l0 0).f0.length : Int)
  · rw [if_pos hc] at h
    obtain ⟨h0, h1, h2⟩ := hc
    split at h
    case isFalse => cases h
    rename_i hs
    have h := Option.some.inj h
    simp only [Prod.mk.injEq] at h
    obtain ⟨rfl, rfl, rfl, rfl, rfl, rfl⟩ := h
    obtain ⟨ad, A, c, rfl, hx, _, hC⟩ := at_T113 hr0 0 (by omega) (by omega)
    rw [show ((0 : Int)).toNat = 0 from rfl, Addr.add_zero'] at hx
    obtain ⟨ad2, A4, c4, e2, x0, x1, x2, x3, x4, _, _, _, _, _, hl, hR⟩ := at_T110 hC a1 h1 h2
    exact get_yes ad A _ c a1 _ _ _ _ _ A4 c4 ad2 w (fun o => by have := ht o; rw [if_pos h0, if_pos h1, decide_eq_true h2] at this; exact this) hx e2 h1 h2 x0 x1 x2 x3 x4 hl hR hs
  · rw [if_neg hc] at h
    have h := Option.some.inj h
    simp only [Prod.mk.injEq] at h
    obtain ⟨rfl, rfl, rfl, rfl, rfl, rfl⟩ := h
    have hf : (if 0 < l0.length then (if 0 ≤ a1 then decide (a1 < ((rd_T113 l0 0).f0.length : Int)) else false) else false) = false := by
      by_cases h0 : 0 < l0.length
      · rw [if_pos h0]
        by_cases h1 : 0 ≤ a1
        · rw [if_pos h1]
          exact decide_eq_false (fun h2 => hc ⟨h0, h1, h2⟩)
        · rw [if_neg h1]
      · rw [if_neg h0]
    refine (get_no A0 a1 w (fun o => by have := ht o; rw [hf] at this; exact this)).mono ?_
    rintro e w' ⟨rfl, hb⟩
    exact ⟨_, rfl, Kd.R_nil _ _ _ _ _, hb⟩
end Go.Proofs.YtomdidopflebjaaGreatDoor.PM
namespace Go.Proofs
open Go.Shelf
def Tryz.lays169_ren : Go.Shelf.Ren := ⟨fun | 169 => 37 | n => n, fun | 70 => 84 | 9 => 9 | 0 => 0 | 72 => 86 | 37 => 51 | 127 => 136 | 3 => 3 | 5 => 5 | n => n, fun | n => n⟩
theorem Tryz.lays169 : Go.Proofs.Lays.n169 Tryz.prog Tryz.lays169_ren := {
  mixed := by kernel_rfl
  f169 := Tryz.func37.trans (congrArg some (by kernel_rfl))
  t0 := Tryz.underlying0
  a0 := Tryz.isAgg0
  z0 := Tryz.sizeOf0
  v0 := Tryz.zeroValue0
  t3 := Tryz.underlying3
  a3 := Tryz.isAgg3
  z3 := Tryz.sizeOf3
  v3 := Tryz.zeroValue3
  t9 := Tryz.underlying9
  a9 := Tryz.isAgg9
  z9 := Tryz.sizeOf9
  v9 := Tryz.zeroValue9
  t37 := Tryz.underlying51
  a37 := Tryz.isAgg51
  z37 := Tryz.sizeOf51
  v37 := Tryz.zeroValue51
  t70 := Tryz.underlying84
  a70 := Tryz.isAgg84
  z70 := Tryz.sizeOf84
  v70 := Tryz.zeroValue84
  t72 := Tryz.underlying86
  a72 := Tryz.isAgg86
  z72 := Tryz.sizeOf86
  v72 := Tryz.zeroValue86
  t127 := Tryz.underlying136
  a127 := Tryz.isAgg136
  z127 := Tryz.sizeOf136
  v127 := Tryz.zeroValue136 }
theorem Tryz.Builder_Extra_169 : Builder.Extra Tryz.prog Tryz.lays169_ren := {
  sizeBuilder := by kernel_rfl
  liesBuilder := by kernel_rfl
  t5 := Tryz.underlying5
  a5 := Tryz.isAgg5
  z5 := Tryz.sizeOf5
  v5 := Tryz.zeroValue5
  infoByte := by kernel_rfl
  cellsByte := by kernel_rfl
  sizeByte := by kernel_rfl
  neB5 := by decide }
def Tryz.lays156_ren : Go.Shelf.Ren := ⟨fun | 156 => 64 | 165 => 72 | 166 => 34 | 169 => 37 | 240 => 69 | 241 => 93 | 276 => 89 | 277 => 103 | n => n, fun | 31 => 83 | 9 => 9 | 3 => 3 | 4 => 4 | 0 => 0 | 20 => 20 | 72 => 86 | 76 => 90 | 70 => 84 | 37 => 51 | 75 => 89 | 127 => 136 | 164 => 148 | 5 => 5 | 80 => 94 | n => n, fun | n => n⟩
theorem Tryz.lays156 : Go.Proofs.Lays.n156 Tryz.prog Tryz.lays156_ren := {
  mixed := by kernel_rfl
  f156 := Tryz.func64.trans (congrArg some (by kernel_rfl))
  f165 := Tryz.func72.trans (congrArg some (by kernel_rfl))
  f166 := Tryz.func34.trans (congrArg some (by kernel_rfl))
  f169 := Tryz.func37.trans (congrArg some (by kernel_rfl))
  f240 := Tryz.func69.trans (congrArg some (by kernel_rfl))
  f241 := Tryz.func93.trans (congrArg some (by kernel_rfl))
  f276 := Tryz.func89.trans (congrArg some (by kernel_rfl))
  f277 := Tryz.func103.trans (congrArg some (by kernel_rfl))
  t0 := Tryz.underlying0
  a0 := Tryz.isAgg0
  z0 := Tryz.sizeOf0
  v0 := Tryz.zeroValue0
  t3 := Tryz.underlying3
  a3 := Tryz.isAgg3
  z3 := Tryz.sizeOf3
  v3 := Tryz.zeroValue3
  t4 := Tryz.underlying4
  a4 := Tryz.isAgg4
  z4 := Tryz.sizeOf4
  v4 := Tryz.zeroValue4
  t9 := Tryz.underlying9
  a9 := Tryz.isAgg9
  z9 := Tryz.sizeOf9
  v9 := Tryz.zeroValue9
  t20 := Tryz.underlying20
  a20 := Tryz.isAgg20
  z20 := Tryz.sizeOf20
  v20 := Tryz.zeroValue20
  t31 := Tryz.underlying83
  a31 := Tryz.isAgg83
  z31 := Tryz.sizeOf83
  v31 := Tryz.zeroValue83
  t37 := Tryz.underlying51
  a37 := Tryz.isAgg51
  z37 := Tryz.sizeOf51
  v37 := Tryz.zeroValue51
  t70 := Tryz.underlying84
  a70 := Tryz.isAgg84
  z70 := Tryz.sizeOf84
  v70 := Tryz.zeroValue84
  t72 := Tryz.underlying86
  a72 := Tryz.isAgg86
  z72 := Tryz.sizeOf86
  v72 := Tryz.zeroValue86
  t75 := Tryz.underlying89
  a75 := Tryz.isAgg89
  z75 := Tryz.sizeOf89
  v75 := Tryz.zeroValue89
  t76 := Tryz.underlying90
  a76 := Tryz.isAgg90
  z76 := Tryz.sizeOf90
  v76 := Tryz.zeroValue90
  t127 := Tryz.underlying136
  a127 := Tryz.isAgg136
  z127 := Tryz.sizeOf136
  v127 := Tryz.zeroValue136
  t164 := Tryz.underlying148
  a164 := Tryz.isAgg148
  z164 := Tryz.sizeOf148
  v164 := Tryz.zeroValue148 }
theorem Tryz.Builder_Extra_156 : Builder.Extra Tryz.prog Tryz.lays156_ren := {
  sizeBuilder := by kernel_rfl
  liesBuilder := by kernel_rfl
  t5 := Tryz.underlying5
  a5 := Tryz.isAgg5
  z5 := Tryz.sizeOf5
  v5 := Tryz.zeroValue5
  infoByte := by kernel_rfl
  cellsByte := by kernel_rfl
  sizeByte := by kernel_rfl
  neB5 := by decide }
open Go.RowKit in
/-- No element: the empty string; the world is as it was. (Whatever the slice's address and capacity: a nil slice too.) (LAID: no walk: one application.) -/
theorem Tryz.strings_Join_none (a : Option Addr) (c : Nat) (sep : ByteArray) (w : World) :
    Calls Tryz.prog 64 #[.slice a 0 c, .string sep] w fun e w' => e = .returned (.string ⟨#[]⟩) ∧ w' = w := Any.strings_Join_none Tryz.lays156 Tryz.Builder_Extra_156 a c sep w
open Go.RowKit in
/-- strings.Join: "Join concatenates the elements of its first argument to create a single string. The separator string sep is placed between elements in the resulting string.": HOWEVER MANY ELEMENTS. Below the heap's end the world is as it was. (LAID: no walk: one application.) -/
theorem Tryz.strings_Join (bk o c : Nat) (xs : List ByteArray) (sep : ByteArray) (w : World) (hcells : ∀ (j : Nat) x, xs[j]? = some x → w.cell? ⟨bk, o + j, none⟩ = some (.string x)) (hbk : bk < w.heap.size) (hN : xs.length ≤ 140737488355328) (hcap : xs.length ≤ c) (hlen : (Lib.join (xs.map (·.data.toList)) sep.data.toList).length ≤ 140737488355328) :
    Calls Tryz.prog 64 #[.slice (some ⟨bk, o, none⟩) xs.length c, .string sep] w fun e w' => e = .returned (.string ⟨(Lib.join (xs.map (·.data.toList)) sep.data.toList).toArray⟩) ∧ Below w.heap.size w w' := Any.strings_Join Tryz.lays156 Tryz.Builder_Extra_156 bk o c xs sep w hcells hbk hN hcap hlen
def Tryz.lays119_ren : Go.Shelf.Ren := ⟨fun | 119 => 58 | n => n, fun | 21 => 21 | 4 => 4 | n => n, fun | n => n⟩
theorem Tryz.lays119 : Go.Proofs.Lays.n119 Tryz.prog Tryz.lays119_ren := {
  mixed := by kernel_rfl
  f119 := Tryz.func58.trans (congrArg some (by kernel_rfl))
  t4 := Tryz.underlying4
  a4 := Tryz.isAgg4
  z4 := Tryz.sizeOf4
  v4 := Tryz.zeroValue4
  t21 := Tryz.underlying21
  a21 := Tryz.isAgg21
  z21 := Tryz.sizeOf21
  v21 := Tryz.zeroValue21 }
/-- utf8.ValidRune: "ValidRune reports whether r can be legally encoded as UTF-8. Code points that are out of range or a surrogate half are illegal.": IT RETURNS 'Lib.validRune r'; the world is as it was. (LAID: no walk: one application.) -/
theorem Tryz.utf8_ValidRune (r : Int) (w : World) :
    Calls Tryz.prog 58 #[.int .i32 r] w fun e w' => e = .returned (.bool (Lib.validRune r)) ∧ w' = w := Any.utf8_ValidRune Tryz.lays119 r w
def Tryz.lays213_ren : Go.Shelf.Ren := ⟨fun | 213 => 120 | 265 => 130 | n => n, fun | 9 => 9 | 3 => 3 | n => n, fun | n => n⟩
def Tryz.lays106_ren : Go.Shelf.Ren := ⟨fun | 106 => 100 | 213 => 120 | 265 => 130 | n => n, fun | 9 => 9 | 3 => 3 | n => n, fun | n => n⟩
theorem Tryz.lays106 : Go.Proofs.Lays.n106 Tryz.prog Tryz.lays106_ren := {
  mixed := by kernel_rfl
  f106 := Tryz.func100.trans (congrArg some (by kernel_rfl))
  f213 := Tryz.func120.trans (congrArg some (by kernel_rfl))
  f265 := Tryz.func130.trans (congrArg some (by kernel_rfl))
  t3 := Tryz.underlying3
  a3 := Tryz.isAgg3
  z3 := Tryz.sizeOf3
  v3 := Tryz.zeroValue3
  t9 := Tryz.underlying9
  a9 := Tryz.isAgg9
  z9 := Tryz.sizeOf9
  v9 := Tryz.zeroValue9 }
open Go.RowKit in
/-- strings.Compare: "Compare returns an integer comparing two strings lexicographically. The result will be 0 if a == b, -1 if a < b, and +1 if a > b.": IT RETURNS 'Lib.compareBytes a b'; the world is as it was. (LAID: no walk: one application.) -/
theorem Tryz.strings_Compare (a b : ByteArray) (w : World) :
    Calls Tryz.prog 100 #[.string a, .string b] w fun e w' => e = .returned (.int .i64 (Lib.compareBytes a.data.toList b.data.toList)) ∧ w' = w := Any.strings_Compare Tryz.lays106 a b w
open Go.RowKit in
/-- (*strings.Builder).String: "String returns the accumulated string.": WHATEVER THE BUILDER HOLDS; THE FORM '_k': OVER 'Lib.IsBuilderF' (a builder that 'String()' may have read), AND WITH THE FRAME THAT REACHES ABOVE THE BUILDER: 'Lib.OthersKept': every block that is not b and is no row of uint8's stands as it stood: the iterator of a range among them. (LAID: no walk: one application.) -/
theorem Tryz.Builder_String_any_k (B b : Nat) (l : List UInt8) (w : World) (h : Lib.IsBuilderF 86 5 B b (Lib.byteCells l) w) (hBw : B ≤ w.heap.size) :
    Calls Tryz.prog 37 #[.pointer (some ⟨b, 0, none⟩)] w fun e w' => e = .returned (.string ⟨l.toArray⟩) ∧ (Lib.IsBuilderF 86 5 B b (Lib.byteCells l) w' ∧ Below B w w' ∧ Lib.OthersKept 5 (some b) w w') := Any.Builder_String_any_k Tryz.lays169 Tryz.Builder_Extra_169 B b l w h hBw
def Tryz.laysM246_ren : Go.Shelf.Ren := ⟨fun | 246 => 94 | 283 => 104 | 284 => 105 | 285 => 106 | 286 => 107 | 129 => 117 | 317 => 121 | 318 => 122 | 319 => 123 | 320 => 124 | 337 => 131 | 338 => 132 | n => n, fun | 2 => 2 | 3 => 3 | 9 => 9 | 4 => 4 | 171 => 166 | 0 => 0 | 53 => 153 | 37 => 51 | 5 => 5 | 173 => 169 | 212 => 183 | 51 => 150 | 20 => 20 | 213 => 184 | 46 => 131 | 232 => 194 | 233 => 195 | n => n, fun | 17 => 1 | 18 => 2 | 19 => 3 | n => n⟩
def Tryz.laysM243_ren : Go.Shelf.Ren := ⟨fun | 243 => 74 | 246 => 94 | 283 => 104 | 284 => 105 | 285 => 106 | 286 => 107 | 129 => 117 | 317 => 121 | 318 => 122 | 319 => 123 | 320 => 124 | 337 => 131 | 338 => 132 | n => n, fun | 3 => 3 | 9 => 9 | 2 => 2 | 4 => 4 | 171 => 166 | 0 => 0 | 53 => 153 | 37 => 51 | 5 => 5 | 173 => 169 | 212 => 183 | 51 => 150 | 20 => 20 | 213 => 184 | 46 => 131 | 232 => 194 | 233 => 195 | n => n, fun | 17 => 1 | 18 => 2 | 19 => 3 | n => n⟩
def Tryz.laysM171_ren : Go.Shelf.Ren := ⟨fun | 171 => 36 | 243 => 74 | 246 => 94 | 283 => 104 | 284 => 105 | 285 => 106 | 286 => 107 | 129 => 117 | 317 => 121 | 318 => 122 | 319 => 123 | 320 => 124 | 337 => 131 | 338 => 132 | n => n, fun | 3 => 3 | 9 => 9 | 2 => 2 | 4 => 4 | 171 => 166 | 0 => 0 | 53 => 153 | 37 => 51 | 5 => 5 | 173 => 169 | 212 => 183 | 51 => 150 | 20 => 20 | 213 => 184 | 46 => 131 | 232 => 194 | 233 => 195 | n => n, fun | 17 => 1 | 18 => 2 | 19 => 3 | n => n⟩
theorem Tryz.laysM171 : Go.Proofs.LaysM.n171 Tryz.prog Tryz.laysM171_ren := {
  mixed := by kernel_rfl
  f129 := Tryz.func117.trans (congrArg some (by kernel_rfl))
  f171 := Tryz.func36.trans (congrArg some (by kernel_rfl))
  f243 := Tryz.func74.trans (congrArg some (by kernel_rfl))
  f246 := Tryz.func94.trans (congrArg some (by kernel_rfl))
  f283 := Tryz.func104.trans (congrArg some (by kernel_rfl))
  f284 := Tryz.func105.trans (congrArg some (by kernel_rfl))
  f285 := Tryz.func106.trans (congrArg some (by kernel_rfl))
  f286 := Tryz.func107.trans (congrArg some (by kernel_rfl))
  f317 := Tryz.func121.trans (congrArg some (by kernel_rfl))
  f318 := Tryz.func122.trans (congrArg some (by kernel_rfl))
  f319 := Tryz.func123.trans (congrArg some (by kernel_rfl))
  f320 := Tryz.func124.trans (congrArg some (by kernel_rfl))
  f337 := Tryz.func131.trans (congrArg some (by kernel_rfl))
  f338 := Tryz.func132.trans (congrArg some (by kernel_rfl))
  t0 := Tryz.underlying0
  a0 := Tryz.isAgg0
  z0 := Tryz.sizeOf0
  v0 := Tryz.zeroValue0
  t2 := Tryz.underlying2
  a2 := Tryz.isAgg2
  z2 := Tryz.sizeOf2
  v2 := Tryz.zeroValue2
  t3 := Tryz.underlying3
  a3 := Tryz.isAgg3
  z3 := Tryz.sizeOf3
  v3 := Tryz.zeroValue3
  t4 := Tryz.underlying4
  a4 := Tryz.isAgg4
  z4 := Tryz.sizeOf4
  v4 := Tryz.zeroValue4
  t5 := Tryz.underlying5
  a5 := Tryz.isAgg5
  z5 := Tryz.sizeOf5
  v5 := Tryz.zeroValue5
  t9 := Tryz.underlying9
  a9 := Tryz.isAgg9
  z9 := Tryz.sizeOf9
  v9 := Tryz.zeroValue9
  t20 := Tryz.underlying20
  a20 := Tryz.isAgg20
  z20 := Tryz.sizeOf20
  v20 := Tryz.zeroValue20
  t37 := Tryz.underlying51
  a37 := Tryz.isAgg51
  z37 := Tryz.sizeOf51
  v37 := Tryz.zeroValue51
  t46 := Tryz.underlying131
  a46 := Tryz.isAgg131
  z46 := Tryz.sizeOf131
  v46 := Tryz.zeroValue131
  t51 := Tryz.underlying150
  a51 := Tryz.isAgg150
  z51 := Tryz.sizeOf150
  v51 := Tryz.zeroValue150
  t53 := Tryz.underlying153
  a53 := Tryz.isAgg153
  z53 := Tryz.sizeOf153
  v53 := Tryz.zeroValue153
  t171 := Tryz.underlying166
  a171 := Tryz.isAgg166
  z171 := Tryz.sizeOf166
  v171 := Tryz.zeroValue166
  t173 := Tryz.underlying169
  a173 := Tryz.isAgg169
  z173 := Tryz.sizeOf169
  v173 := Tryz.zeroValue169
  t212 := Tryz.underlying183
  a212 := Tryz.isAgg183
  z212 := Tryz.sizeOf183
  v212 := Tryz.zeroValue183
  t213 := Tryz.underlying184
  a213 := Tryz.isAgg184
  z213 := Tryz.sizeOf184
  t232 := Tryz.underlying194
  a232 := Tryz.isAgg194
  z232 := Tryz.sizeOf194
  v232 := Tryz.zeroValue194
  t233 := Tryz.underlying195
  a233 := Tryz.isAgg195
  z233 := Tryz.sizeOf195
  v233 := Tryz.zeroValue195
  g17 := by kernel_rfl
  g18 := by kernel_rfl
  g19 := by kernel_rfl
  i0 := by kernel_rfl
  i2 := by kernel_rfl
  i3 := by kernel_rfl
  i4 := by kernel_rfl
  i5 := by kernel_rfl
  i9 := by kernel_rfl
  i20 := by kernel_rfl
  i37 := by kernel_rfl
  i46 := by kernel_rfl
  i51 := by kernel_rfl
  i53 := by kernel_rfl
  i171 := by kernel_rfl
  i173 := by kernel_rfl
  i212 := by kernel_rfl
  i232 := by kernel_rfl
  i233 := by kernel_rfl
  m17 := by kernel_rfl
  m18 := by kernel_rfl
  m19 := by kernel_rfl }
open Go.RowKit Go.Sort Go.Lib in
/-- strconv.Itoa: "Itoa is equivalent to FormatInt(int64(i), 10).": i's DECIMAL NUMERAL ('Lib.itoa': a '-' where i is negative, then the digits), FOR EVERY int. The world behind the call: the world before it, new blocks behind the heap (the library's 'var a [24]byte'), draws. (LAID: no walk: one application.) -/
theorem Tryz.strconv_Itoa (n : Int) (h0 : -9223372036854775808 ≤ n) (h1 : n ≤ 9223372036854775807) (w : World) (htab : Lib.TabIs Tryz.prog w "internal/strconv.uint64pow10" .u64 Lib.pow10Tab) :
    Calls Tryz.prog 36 #[.int .i64 n] w fun e w' => e = .returned (.string ⟨(Lib.itoa n).toArray⟩) ∧ ∃ k os, w' = grow (w.drewN k) os := Any.strconv_Itoa Tryz.laysM171 n h0 h1 w htab
def Tryz.lays105_ren : Go.Shelf.Ren := ⟨fun | 105 => 35 | 212 => 70 | 99 => 71 | 165 => 72 | 166 => 34 | 170 => 73 | 169 => 37 | 263 => 90 | 264 => 91 | 206 => 92 | 240 => 69 | 241 => 93 | 276 => 89 | 277 => 103 | n => n, fun | 9 => 9 | 3 => 3 | 4 => 4 | 20 => 20 | 0 => 0 | 46 => 131 | 109 => 132 | 5 => 5 | 72 => 86 | 76 => 90 | 51 => 150 | 146 => 151 | 53 => 153 | 148 => 154 | 70 => 84 | 37 => 51 | 75 => 89 | 127 => 136 | 164 => 148 | 80 => 94 | n => n, fun | n => n⟩
theorem Tryz.lays105 : Go.Proofs.Lays.n105 Tryz.prog Tryz.lays105_ren := {
  mixed := by kernel_rfl
  f99 := Tryz.func71.trans (congrArg some (by kernel_rfl))
  f105 := Tryz.func35.trans (congrArg some (by kernel_rfl))
  f165 := Tryz.func72.trans (congrArg some (by kernel_rfl))
  f166 := Tryz.func34.trans (congrArg some (by kernel_rfl))
  f169 := Tryz.func37.trans (congrArg some (by kernel_rfl))
  f170 := Tryz.func73.trans (congrArg some (by kernel_rfl))
  f206 := Tryz.func92.trans (congrArg some (by kernel_rfl))
  f212 := Tryz.func70.trans (congrArg some (by kernel_rfl))
  f240 := Tryz.func69.trans (congrArg some (by kernel_rfl))
  f241 := Tryz.func93.trans (congrArg some (by kernel_rfl))
  f263 := Tryz.func90.trans (congrArg some (by kernel_rfl))
  f264 := Tryz.func91.trans (congrArg some (by kernel_rfl))
  f276 := Tryz.func89.trans (congrArg some (by kernel_rfl))
  f277 := Tryz.func103.trans (congrArg some (by kernel_rfl))
  t0 := Tryz.underlying0
  a0 := Tryz.isAgg0
  z0 := Tryz.sizeOf0
  v0 := Tryz.zeroValue0
  t3 := Tryz.underlying3
  a3 := Tryz.isAgg3
  z3 := Tryz.sizeOf3
  v3 := Tryz.zeroValue3
  t4 := Tryz.underlying4
  a4 := Tryz.isAgg4
  z4 := Tryz.sizeOf4
  v4 := Tryz.zeroValue4
  t5 := Tryz.underlying5
  a5 := Tryz.isAgg5
  z5 := Tryz.sizeOf5
  v5 := Tryz.zeroValue5
  t9 := Tryz.underlying9
  a9 := Tryz.isAgg9
  z9 := Tryz.sizeOf9
  v9 := Tryz.zeroValue9
  t20 := Tryz.underlying20
  a20 := Tryz.isAgg20
  z20 := Tryz.sizeOf20
  v20 := Tryz.zeroValue20
  t37 := Tryz.underlying51
  a37 := Tryz.isAgg51
  z37 := Tryz.sizeOf51
  v37 := Tryz.zeroValue51
  t46 := Tryz.underlying131
  a46 := Tryz.isAgg131
  z46 := Tryz.sizeOf131
  v46 := Tryz.zeroValue131
  t51 := Tryz.underlying150
  a51 := Tryz.isAgg150
  z51 := Tryz.sizeOf150
  v51 := Tryz.zeroValue150
  t53 := Tryz.underlying153
  a53 := Tryz.isAgg153
  z53 := Tryz.sizeOf153
  v53 := Tryz.zeroValue153
  t70 := Tryz.underlying84
  a70 := Tryz.isAgg84
  z70 := Tryz.sizeOf84
  v70 := Tryz.zeroValue84
  t72 := Tryz.underlying86
  a72 := Tryz.isAgg86
  z72 := Tryz.sizeOf86
  v72 := Tryz.zeroValue86
  t75 := Tryz.underlying89
  a75 := Tryz.isAgg89
  z75 := Tryz.sizeOf89
  v75 := Tryz.zeroValue89
  t76 := Tryz.underlying90
  a76 := Tryz.isAgg90
  z76 := Tryz.sizeOf90
  v76 := Tryz.zeroValue90
  t109 := Tryz.underlying132
  a109 := Tryz.isAgg132
  z109 := Tryz.sizeOf132
  v109 := Tryz.zeroValue132
  t127 := Tryz.underlying136
  a127 := Tryz.isAgg136
  z127 := Tryz.sizeOf136
  v127 := Tryz.zeroValue136
  t146 := Tryz.underlying151
  a146 := Tryz.isAgg151
  z146 := Tryz.sizeOf151
  v146 := Tryz.zeroValue151
  t148 := Tryz.underlying154
  a148 := Tryz.isAgg154
  z148 := Tryz.sizeOf154
  v148 := Tryz.zeroValue154
  t164 := Tryz.underlying148
  a164 := Tryz.isAgg148
  z164 := Tryz.sizeOf148
  v164 := Tryz.zeroValue148 }
theorem Tryz.Builder_Extra_105 : Builder.Extra Tryz.prog Tryz.lays105_ren := {
  sizeBuilder := by kernel_rfl
  liesBuilder := by kernel_rfl
  t5 := Tryz.underlying5
  a5 := Tryz.isAgg5
  z5 := Tryz.sizeOf5
  v5 := Tryz.zeroValue5
  infoByte := by kernel_rfl
  cellsByte := by kernel_rfl
  sizeByte := by kernel_rfl
  neB5 := by decide }
open Go.RowKit Go.Lib in
/-- **strings.Repeat: count ≥ 0, the result within one allocation: count copies of s.** (LAID: no walk: one application.) -/
theorem Tryz.strings_Repeat (s : ByteArray) (c : Nat) (w : World) (hc : c ≤ 9223372036854775807) (hlen : s.size * c ≤ 140737488355328) :
    Calls Tryz.prog 35 #[.string s, .int .i64 c] w fun e w' => e = .returned (.string ⟨(Lib.repeatL s.data.toList c).toArray⟩) ∧ Below w.heap.size w w' := Any.strings_Repeat Tryz.lays105 Tryz.Builder_Extra_105 s c w hc hlen
def Tryz.lays229_ren : Go.Shelf.Ren := ⟨fun | 229 => 65 | n => n, fun | 9 => 9 | 40 => 123 | 31 => 83 | 152 => 145 | 3 => 3 | 0 => 0 | 4 => 4 | 21 => 21 | 154 => 147 | n => n, fun | n => n⟩
theorem Tryz.lays229 : Go.Proofs.Lays.n229 Tryz.prog Tryz.lays229_ren := {
  mixed := by kernel_rfl
  f229 := Tryz.func65.trans (congrArg some (by kernel_rfl))
  t0 := Tryz.underlying0
  a0 := Tryz.isAgg0
  z0 := Tryz.sizeOf0
  v0 := Tryz.zeroValue0
  t3 := Tryz.underlying3
  a3 := Tryz.isAgg3
  z3 := Tryz.sizeOf3
  v3 := Tryz.zeroValue3
  t4 := Tryz.underlying4
  a4 := Tryz.isAgg4
  z4 := Tryz.sizeOf4
  v4 := Tryz.zeroValue4
  t9 := Tryz.underlying9
  a9 := Tryz.isAgg9
  z9 := Tryz.sizeOf9
  v9 := Tryz.zeroValue9
  t21 := Tryz.underlying21
  a21 := Tryz.isAgg21
  z21 := Tryz.sizeOf21
  v21 := Tryz.zeroValue21
  t31 := Tryz.underlying83
  a31 := Tryz.isAgg83
  z31 := Tryz.sizeOf83
  v31 := Tryz.zeroValue83
  t40 := Tryz.underlying123
  a40 := Tryz.isAgg123
  z40 := Tryz.sizeOf123
  v40 := Tryz.zeroValue123
  t152 := Tryz.underlying145
  a152 := Tryz.isAgg145
  z152 := Tryz.sizeOf145
  v152 := Tryz.zeroValue145
  t154 := Tryz.underlying147
  a154 := Tryz.isAgg147
  z154 := Tryz.sizeOf147
  v154 := Tryz.zeroValue147 }
open Go.RowKit Go.Lib in
theorem Tryz.strings_FieldsFunc_runes (g : Nat) (lb : Array Value) (eg : ∀ args w, (callFunc g args).run Tryz.prog w = .ok (.enter g args) w) (p : Nat → Bool) (s : ByteArray) (w : World) (hs : s.size ≤ 4294967296) (hp : PredAtRunes Tryz.prog g lb p w) :
    Calls Tryz.prog 65 #[.string s, .func (.func g) #[] lb] w fun e w' => ∃ A, e = .returned (.slice (some ⟨A, 0, none⟩) (Lib.goFieldsP p s).length (Lib.goFieldsP p s).length) ∧ w.heap.size ≤ A ∧
      w'.ownsRow w.heap.size 9 1 (.slice (some ⟨A, 0, none⟩) (Lib.goFieldsP p s).length (Lib.goFieldsP p s).length) (Lib.goFieldsP p s).length ((Lib.goFieldsP p s).map Value.string) ∧ Below w.heap.size w w' := Any.strings_FieldsFunc_runes Tryz.lays229 g lb eg p s w hs hp (by kernel_rfl) (by kernel_rfl)
end Go.Proofs
namespace Go.Proofs.YtomdidopflebjaaGreatDoor.PM
open Go.RowKit Go.Lib Go.Proofs.YtomdidopflebjaaGreatDoorW.PrintWords Go.Proofs.YtomdidopflebjaaGreatDoorW.PrintLast Go.Proofs.YtomdidopflebjaaGreatDoorW.PrintMore
set_option linter.unusedVariables false
theorem u8_w (x : Int) : IntKind.u8.wrap x = x % 256 := by
  first | rfl | (unfold IntKind.wrap; rfl)
theorem w64_256 (x : Int) : Go.RowKit.wrap64 (x % 256) = x % 256 := by unfold Go.RowKit.wrap64; omega
def blankP (x : Nat) : Bool := x == 9 || x == 10 || x == 12 || x == 13 || x == 32
set_option maxRecDepth 100000 in
set_option maxHeartbeats 4000000 in
theorem blank_walk (W : World) (x : Nat) (hx : x ≤ 1114111) : Calls Tryz.prog 66 #[.int .i32 (x : Int)] W fun e w' => e = .returned (.bool (blankP x)) ∧ ∃ q, w' = W.drewN q := by
  by_cases h : x = 9 ∨ x = 10 ∨ x = 12 ∨ x = 13 ∨ x = 32
  · rcases h with rfl | rfl | rfl | rfl | rfl
    all_goals
      rw [show blankP _ = true from rfl]
      go_enter Tryz.func66, Tryz.ntmps66
      go_wp2
      go_ret
      exact ⟨rfl, 0, rfl⟩
  · have h1 : ((x : Int) == 9) = false := by simp; omega
    have h2 : ((x : Int) == 10) = false := by simp; omega
    have h3 : ((x : Int) == 12) = false := by simp; omega
    have h4 : ((x : Int) == 13) = false := by simp; omega
    have h5 : ((x : Int) == 32) = false := by simp; omega
    rw [show blankP x = false by simp [blankP]; omega]
    clear h
    go_enter Tryz.func66, Tryz.ntmps66
    go_wp2
    go_ret
    exact ⟨rfl, 0, rfl⟩
theorem blank_gives (w : World) : PredAtRunes Tryz.prog 66 #[] blankP w := fun W x hx _ => blank_walk W x hx
/-- The words of a text, as strings.FieldsFunc cuts it at query.blank. -/
def wordsOf (s : ByteArray) : List ByteArray := Lib.goFieldsP blankP s
theorem fields_calls (s : ByteArray) (w : World) (hs : s.size ≤ 4294967296) : Calls Tryz.prog 65 #[.string s, .func (.func 66) #[] #[]] w fun e w' => ∃ A, e = .returned (.slice (some ⟨A, 0, none⟩) (wordsOf s).length (wordsOf s).length) ∧ w.heap.size ≤ A ∧
      w'.ownsRow w.heap.size 9 1 (.slice (some ⟨A, 0, none⟩) (wordsOf s).length (wordsOf s).length) (wordsOf s).length ((wordsOf s).map Value.string) ∧ Below w.heap.size w w' :=
  Tryz.strings_FieldsFunc_runes 66 #[] (enters_of Tryz.func66 (by kernel_rfl) rfl) blankP s w hs (blank_gives w)
theorem spans_len (p : Nat → Bool) (s : ByteArray) : ∀ (f pos : Nat) (st : Option Nat) (acc : List (Nat × Nat)), (Lib.spansFromP p s f pos st acc).1.length ≤ acc.length + f
  | 0, _, _, _ => Nat.le_refl _
  | f + 1, pos, st, acc => by
    unfold Lib.spansFromP
    split
    · split <;> cases st <;> simp only
      · have := spans_len p s f (pos + (Utf8.decode s pos).2) none acc; omega
      · rename_i a; have := spans_len p s f (pos + (Utf8.decode s pos).2) none (acc ++ [(a, pos)]); simp only [List.length_append, List.length_cons, List.length_nil] at this; omega
      · have := spans_len p s f (pos + (Utf8.decode s pos).2) (some pos) acc; omega
      · rename_i a; have := spans_len p s f (pos + (Utf8.decode s pos).2) (some a) acc; omega
    · show acc.length ≤ _; omega
theorem words_len (s : ByteArray) : (wordsOf s).length ≤ s.size + 1 := by
  unfold wordsOf Lib.goFieldsP Lib.spansOfP Lib.closeSpans
  rw [List.length_map]
  have := spans_len blankP s s.size 0 none []
  split <;> simp_all <;> omega
def joinS (xs : List ByteArray) : ByteArray := ⟨(Lib.join (xs.map (·.data.toList)) [32]).toArray⟩
theorem words_size (s : ByteArray) : ∀ x ∈ wordsOf s, x.size ≤ s.size := by
  intro x hx
  obtain ⟨p, _, rfl⟩ := List.mem_map.1 hx
  rw [ByteArray.size_extract]
  omega
theorem join_len (sep : List UInt8) : ∀ (xs : List (List UInt8)) (m : Nat), (∀ x ∈ xs, x.length ≤ m) → (Lib.join xs sep).length ≤ xs.length * (m + sep.length)
  | [], m, _ => by simp [Lib.join]
  | [x], m, h => by have := h x (by simp); simp [Lib.join_one]; omega
  | x :: y :: r, m, h => by
    have h1 := h x (by simp)
    have h2 := join_len sep (y :: r) m (fun z hz => h z (List.mem_cons_of_mem _ hz))
    have e : Lib.join (x :: y :: r) sep = x ++ sep ++ Lib.join (y :: r) sep := by simp [Lib.join, List.intercalate]
    rw [e, List.length_append, List.length_append, List.length_cons, Nat.add_mul]
    omega
theorem join_ok (xs : List ByteArray) (m : Nat) (h1 : ∀ x ∈ xs, x.size ≤ m) (h2 : xs.length ≤ m + 1) (hm : m ≤ 1048576) : (Lib.join (xs.map (·.data.toList)) [32]).length ≤ 140737488355328 := by
  have := join_len [32] (xs.map (·.data.toList)) m (fun z hz => by
    obtain ⟨x, hx, rfl⟩ := List.mem_map.1 hz
    have e : x.data.toList.length = x.size := by rw [Array.length_toList]; rfl
    rw [e]
    exact h1 x hx)
  rw [List.length_map] at this
  have h3 : xs.length * (m + 1) ≤ 1048577 * 1048577 := Nat.mul_le_mul (by omega) (by omega)
  simp only [List.length_cons, List.length_nil, Nat.zero_add] at this
  omega
theorem join_own {wx : World} {B : Nat} {ob : Option Addr} {cap : Nat} {xs : List ByteArray} (h : wx.ownsRow B 9 1 (.slice ob xs.length cap) xs.length (xs.map Value.string)) (hx : xs ≠ []) (hl : (Lib.join (xs.map (·.data.toList)) [32]).length ≤ 140737488355328) (hN : xs.length ≤ 140737488355328) :
    ∀ W, Below wx.heap.size wx W → Calls Tryz.prog 64 #[.slice ob xs.length cap, .string ⟨#[32]⟩] W fun e w' => e = .returned (.string (joinS xs)) ∧ Below W.heap.size W w' := by
  intro W hW
  rcases h.2 with ⟨h0, h1⟩ | ⟨g, c, cur, h0, hb, hg, hc, hm, hz, ht⟩
  · exact absurd (List.eq_nil_of_length_eq_zero h1) hx
  · injection h0 with e1 e2 e3
    subst e1 e3
    have hgl : g < wx.heap.size := by
      rcases Nat.lt_or_ge g wx.heap.size with h | h
      · exact h
      · rw [Array.getElem?_eq_none h] at hg; cases hg
    have hcell : ∀ (j : Nat) x, xs[j]? = some x → W.cell? ⟨g, 0 + j, none⟩ = some (.string x) := fun j x hj => by
      have hjl := (List.getElem?_eq_some_iff.1 hj).1
      have h2 := h.cellAt j (by omega)
      rw [List.getElem?_map, hj] at h2
      rw [Nat.zero_add]
      exact (hW.cell (World.block_lt_of_cell? wx _ h2)).trans h2
    exact Tryz.strings_Join g 0 cap xs ⟨#[32]⟩ W hcell (Nat.lt_of_lt_of_le hgl hW.size) hN hc hl
set_option maxRecDepth 100000 in
set_option maxHeartbeats 4000000 in
theorem strip_walk (s : ByteArray) (w : World) (hs : s.size ≤ 1048576) : Calls Tryz.prog 30 #[.string s] w fun e w' => e = .returned (.string (joinS (wordsOf s))) ∧ Below w.heap.size w w' := by
  have hF := fields_calls s w (by omega)
  have hl := join_ok (wordsOf s) s.size (words_size s) (words_len s) hs
  have hlen := words_len s
  obtain ⟨F, hFe⟩ : ∃ F, wordsOf s = F := ⟨_, rfl⟩
  rw [hFe] at hF hl hlen ⊢
  clear hFe
  have hN : F.length ≤ 140737488355328 := by omega
  by_cases h0 : F = []
  · subst h0
    have hJ : ∀ A W, Calls Tryz.prog 64 #[.slice (some ⟨A, 0, none⟩) 0 0, .string ⟨#[32]⟩] W fun e w' => e = .returned (.string (joinS [])) ∧ w' = W := fun A W => Tryz.strings_Join_none (some ⟨A, 0, none⟩) 0 ⟨#[32]⟩ W
    clear hlen hN hl hs
    go_enter Tryz.func30, Tryz.ntmps30
    go_wp2_with (first | (go_at_call 65; refine hF.mono ?_; rintro e w1 ⟨A, rfl, hA, hO, hB⟩; have B1 := Aside0.mk hB; clear hO hB hA) | (go_at_call 64; refine (hJ _ _).mono ?_; rintro e w2 ⟨rfl, rfl⟩))
    go_ret
    exact ⟨rfl, B1.out⟩
  · have H0 := Aside0.mk h0
    have HL := Aside0.mk hl
    have HN := Aside0.mk hN
    clear hlen hN hl hs h0
    go_enter Tryz.func30, Tryz.ntmps30
    go_wp2_with (first | (go_at_call 65; refine hF.mono ?_; rintro e w1 ⟨A, rfl, hA, hO, hB⟩; have O1 := Aside0.mk hO; have B1 := Aside0.mk hB; clear hO hB hA) | (go_at_call 64; refine (join_own O1.out H0.out HL.out HN.out _ (Below.refl _ _)).mono ?_; rintro e w2 ⟨rfl, hb⟩; have B2 := Aside0.mk hb; clear hb))
    go_ret
    exact ⟨rfl, B1.out.trans (B2.out.mono B1.out.size)⟩
def query_Strip.f (s : ByteArray) : Option ByteArray := if s.size ≤ 1048576 then some (joinS (wordsOf s)) else none
theorem query_Strip.calls (a0 : ByteArray) (r : ByteArray) (w : World) (h : query_Strip.f a0 = some r) :
    Calls Tryz.prog 30 #[.string a0] w fun e w' => e = .returned (.string r) ∧ Below w.heap.size w w' := by
  unfold query_Strip.f at h
  split at h
  case isFalse => cases h
  rename_i hs
  obtain rfl := Option.some.inj h
  exact strip_walk a0 w hs
end Go.Proofs.YtomdidopflebjaaGreatDoor.PM
namespace Go.Proofs.YtomdidopflebjaaGreatDoor.PM
open Go.RowKit Go.Proofs.YtomdidopflebjaaGreatDoorW.PrintWords Go.Proofs.YtomdidopflebjaaGreatDoorW.PrintLast Go.Proofs.YtomdidopflebjaaGreatDoorW.PrintMore
attribute [local go_sem] max2_int min2_int max_two min_two max_three min_three max_four min_four   -- for this text's walks alone
set_option linter.unusedVariables false
set_option linter.unusedSimpArgs false
def dom_Tree_Kids.l0 : Nat → List (S113) → List Int → Int → Option (List Int)
  | 0, _, _, _ => none
  | k + 1, x0, x5, x6 => if x6 = (-1) then (some x5) else (if x5.length < 17592186044416 then (if 0 < (x0.length : Int) then (if 0 ≤ x6 then (if x6 < (((rd_T113 x0 0).f0).length : Int) then (dom_Tree_Kids.l0 k x0 (x5 ++ [x6]) ((rd_T110 ((rd_T113 x0 0).f0) x6).f1.f4)) else (none)) else (none)) else (none)) else (none))
def dom_Tree_Kids.f (k : Nat) (l0 : List (S113)) (a1 : Int) : Option (List Int) := (dom_Tree_there.f l0 a1).bind fun t101 => (if t101 = true then (if 0 < (l0.length : Int) then (if 0 ≤ a1 then (if a1 < (((rd_T113 l0 0).f0).length : Int) then (dom_Tree_Kids.l0 k l0 ([] : List Int) ((rd_T110 ((rd_T113 l0 0).f0) a1).f1.f1)) else (none)) else (none)) else (none)) else (some ([] : List Int)))
theorem dom_Tree_Kids.mono_l : ∀ k, (∀ y0 y1 y2, LeO (dom_Tree_Kids.l0 k y0 y1 y2) (dom_Tree_Kids.l0 (k + 1) y0 y1 y2))
  | 0 => fun _ _ _ r h => by simp [dom_Tree_Kids.l0] at h
  | k + 1 => by
    have ih0 := dom_Tree_Kids.mono_l k
    · intro y0 y1 y2
      unfold dom_Tree_Kids.l0
      repeat' first
      | (with_reducible exact ih0 _ _ _)
      | (with_reducible exact LeO.refl _)
      | (with_reducible exact LeO.none _)
      | (with_reducible refine LeO.ite ?_ ?_)
      | (with_reducible refine LeO.bind ?_ (fun _ => ?_))
      | exact ih0 _ _ _
      | exact LeO.none _
      | refine LeO.ite ?_ ?_
      | refine LeO.bind ?_ (fun _ => ?_)
theorem dom_Tree_Kids.mono : ∀ a0 a1 k, LeO (dom_Tree_Kids.f k a0 a1) (dom_Tree_Kids.f (k + 1) a0 a1) := by
  intro a0 a1 k
  have ih0 := dom_Tree_Kids.mono_l k
  unfold dom_Tree_Kids.f
  repeat' first
      | (with_reducible exact ih0 _ _ _)
      | (with_reducible exact LeO.refl _)
      | (with_reducible exact LeO.none _)
      | (with_reducible refine LeO.ite ?_ ?_)
      | (with_reducible refine LeO.bind ?_ (fun _ => ?_))
      | exact ih0 _ _ _
      | exact LeO.none _
      | refine LeO.ite ?_ ?_
      | refine LeO.bind ?_ (fun _ => ?_)
set_option maxHeartbeats 8000000 in
set_option maxRecDepth 100000 in
theorem dom_Tree_Kids.calls (k : Nat) (A0 : Option Addr) (c0 : Nat) (l0 : List (S113)) (a1 : Int) (r : List Int) (w : World) (hr0 : Kd.C k113 w A0 l0.length l0) (hc0 : l0.length ≤ c0 ∧ (l0 = [] → A0 = none)) (h : dom_Tree_Kids.f k l0 a1 = some r) :
    Calls Tryz.prog 63 #[.pointer A0, .int .i64 a1] w fun e w' => ∃ v0_ : Value, e = .returned (v0_) ∧ Kd.R (Kd.int .i64) 3 w' w.heap.size (fun _ => True) v0_ r ∧ Below w.heap.size w w' := by
  have HR0 := Aside0.mk hr0
  have HC0 := Aside0.mk hc0
  clear hr0 hc0
  have HB := Aside0.mk (Below.refl w.heap.size w)
  have H : ((dom_Tree_there.f l0 a1).bind fun t101 => (if t101 = true then (if 0 < (l0.length : Int) then (if 0 ≤ a1 then (if a1 < (((rd_T113 l0 0).f0).length : Int) then (dom_Tree_Kids.l0 k l0 ([] : List Int) ((rd_T110 ((rd_T113 l0 0).f0) a1).f1.f1)) else (none)) else (none)) else (none)) else (some ([] : List Int)))) = some r := h
  clear h
  replace H := Option.bind_eq_some_iff.mp H
  obtain ⟨t101, A30, H⟩ := H
  replace H : (if t101 = true then (if 0 < (l0.length : Int) then (if 0 ≤ a1 then (if a1 < (((rd_T113 l0 0).f0).length : Int) then (dom_Tree_Kids.l0 k l0 ([] : List Int) ((rd_T110 ((rd_T113 l0 0).f0) a1).f1.f1)) else (none)) else (none)) else (none)) else (some ([] : List Int))) = some r := H
  have A3 := Aside0.mk A30
  clear A30
  by_cases c4 : t101 = true
  · subst c4
    have H1 : (if 0 < (l0.length : Int) then (if 0 ≤ a1 then (if a1 < (((rd_T113 l0 0).f0).length : Int) then (dom_Tree_Kids.l0 k l0 ([] : List Int) ((rd_T110 ((rd_T113 l0 0).f0) a1).f1.f1)) else (none)) else (none)) else (none)) = some r := by rw [if_pos rfl] at H; exact H
    clear H
    have H := H1
    clear H1
    by_cases c5 : 0 < (l0.length : Int)
    · rw [if_pos c5] at H
      have c5b0 : decide (0 < (l0.length : Int)) = true := decide_eq_true c5
      have c5b1 : decide (0 < l0.length) = true := decide_eq_true (by omega)
      clear c5
      by_cases c6 : 0 ≤ a1
      · rw [if_pos c6] at H
        have c6b0 : decide (0 ≤ a1) = true := decide_eq_true c6
        clear c6
        by_cases c7 : a1 < (((rd_T113 l0 0).f0).length : Int)
        · rw [if_pos c7] at H
          have c7b0 : decide (a1 < (((rd_T113 l0 0).f0).length : Int)) = true := decide_eq_true c7
          clear c7
          have H' := Aside0.mk H
          clear H
          go_enter Tryz.func63, Tryz.ntmps63
          go_wp2_with (first | ((with_reducible refine gate_callee (f := 48) rfl ?_); refine goesL_ (some 9) rfl rfl Tryz.func48 (by kernel_rfl) rfl #[.pointer A0, .int .i64 a1] rfl (by (try simp only [List.map_toArray, List.map_cons, List.map_nil]); first | done | rfl | (simp only [List.length_drop, List.length_take]; rfl)) ?_; (with_reducible refine (dom_Tree_there.calls _ l0.length l0 a1 true _ ?side1 ?side2 A3.out).mono ?_); (case side1 => repeat (first | exact HR0.out | (with_reducible refine Kd.C_alloc ?_ _) | (with_reducible refine Kd.C_drewN ?_ _) | (with_reducible refine Kd.C_drew ?_))); (case side2 => exact ⟨Nat.le_refl _, HC0.out.2⟩); rintro e w' ⟨rfl, ⟨nd, rfl⟩⟩; refine ⟨_, rfl, ?_⟩; have p102 : 0 ≤ (0 : Int) := (by omega); have q102 : 0 < (l0.length : Int) := of_decide_eq_true (by first | (with_reducible assumption) | assumption); obtain ⟨ad102, A102_0, c102_0, e102, hx102_0, hl102_0, hi102_0⟩ := at_T113 HR0.out 0 p102 q102; cases e102; have qi102 : (0 < l0.length) = True := eq_true (by omega); (try rw [show ((0 : Int)).toNat = 0 from rfl] at hx102_0); (try rw [Addr.add_zero'] at hx102_0); have HR102_0 := Aside0.mk hi102_0; have HC102_0 := Aside0.mk hl102_0; clear hi102_0 hl102_0; replace p102 := eq_true p102; replace q102 := eq_true q102; have p103 : 0 ≤ (0 : Int) := (by omega); have q103 : 0 < (l0.length : Int) := of_decide_eq_true (by first | (with_reducible assumption) | assumption); obtain ⟨ad103, A103_0, c103_0, e103, hx103_0, hl103_0, hi103_0⟩ := at_T113 HR0.out 0 p103 q103; obtain rfl : ad102 = ad103 := (by injection e103); have qi103 : (0 < l0.length) = True := eq_true (by omega); (try rw [show ((0 : Int)).toNat = 0 from rfl] at hx103_0); (try rw [Addr.add_zero'] at hx103_0); have HR103_0 := Aside0.mk hi103_0; have HC103_0 := Aside0.mk hl103_0; clear hi103_0 hl103_0; replace p103 := eq_true p103; replace q103 := eq_true q103; have ea_ := Option.some.inj (hx102_0.symm.trans hx103_0); injection ea_ with ea_ en_ ec_; subst ea_; subst ec_; clear en_; have p104 : 0 ≤ (a1 : Int) := of_decide_eq_true (by first | (with_reducible assumption) | assumption); have q104 : a1 < (((rd_T113 l0 0).f0).length : Int) := of_decide_eq_true (by first | (with_reducible assumption) | assumption); obtain ⟨ad104, A104_4, c104_4, e104, hx104_0, hx104_1, hx104_2, hx104_3, hx104_4, hx104_5, hx104_6, hx104_7, hx104_8, hx104_9, hl104_4, hi104_4⟩ := at_T110 HR103_0.out a1 p104 q104; cases e104; have HR104_4 := Aside0.mk hi104_4; have HC104_4 := Aside0.mk hl104_4; clear hi104_4 hl104_4; replace p104 := eq_true p104; replace q104 := eq_true q104))
          go_loopg [5, 6] k (fun kq v5 v6 w' => ∃ (x5_1 : List Int) (x6_1 : Int), v6 = .int .i64 x6_1 ∧ Aside0 (dom_Tree_Kids.l0 kq l0 x5_1 x6_1 = some r) ∧ Aside0 (kq ≤ k) ∧ Aside0 (Kd.R (Kd.int .i64) 3 w' w.heap.size (fun _ => True) v5 x5_1) ∧ Aside0 (Below w.heap.size w w'))
          case atStart => exact ⟨(([] : List Int)), ((rd_T110 ((rd_T113 l0 0).f0) a1).f1.f1), (by first | rfl | (simp; done) | (simp [*]; done)), H', ⟨Nat.le_refl _⟩, ⟨by first | exact Kd.R_nil _ _ _ _ _ | exact Kd.N_nil _ _ _ _ _ | exact Kd.V_nil _ _ _ _ _ | exact Kd.Q_nil _ _ _ _ _ | exact Kd.S_nil _ _ _ _ _⟩, ⟨by repeat (first | (with_reducible first | exact HB.out | apply below_alloc | apply pw_below_drewN | apply below_drew1) | exact HB.out)⟩⟩
          case round =>
            clear H'
            try clear c1
            try clear p1
            try clear q1
            try clear hx1
            try clear qi1
            try clear p2
            try clear c4
            try clear c5
            try clear c5b0
            try clear c5b1
            try clear c6
            try clear c6b0
            try clear c7
            try clear c7b0
            try clear hx102_0
            try clear hx103_0
            try clear hx104_0
            try clear hx104_1
            try clear hx104_2
            try clear hx104_3
            try clear hx104_4
            try clear hx104_5
            try clear hx104_6
            try clear hx104_7
            try clear hx104_8
            try clear hx104_9
            try clear p102
            try clear p103
            try clear p104
            try clear q102
            try clear q103
            try clear q104
            obtain ⟨x5_1, x6_1, rfl, HA, HK1, HO_5, HB⟩ := hrel
            cases gk with
            | zero => exact absurd HA.out (by simp [dom_Tree_Kids.l0])
            | succ k1 =>
              have H := HA.out
              clear HA
              simp only [dom_Tree_Kids.l0] at H
              by_cases c8 : x6_1 = (-1)
              · rw [if_pos c8] at H
                have c8b0 : (x6_1 == (-1)) = true := beq_iff_eq.mpr c8
                have c8b1 : (x6_1 != (-1)) = false := bne_eq_false_iff_eq.mpr c8
                clear c8
                obtain rfl := Option.some.inj H
                go_wp2
                go_ret
                exact ⟨_, by first | rfl | (simp [errW_none, errW_some] <;> rfl) | (simp [*, errW_none, errW_some] <;> rfl), by (with_reducible repeat (first | apply Kd.R_alloc | apply Kd.R_drewN | apply Kd.R_drew)); exact HO_5.out, by repeat (first | (with_reducible first | exact HB.out | apply below_alloc | apply pw_below_drewN | apply below_drew1) | exact HB.out)⟩
              · rw [if_neg c8] at H
                have c8b0 : (x6_1 == (-1)) = false := beq_eq_false_iff_ne.mpr c8
                have c8b1 : (x6_1 != (-1)) = true := bne_iff_ne.mpr c8
                by_cases c9 : x5_1.length < 17592186044416
                · rw [if_pos c9] at H
                  have LMc9 := Aside0.mk c9
                  clear c9
                  obtain ⟨y105, hy105⟩ : ∃ y_ : List Int, y_ = (x5_1 ++ [x6_1]) := ⟨_, rfl⟩
                  replace H : (if 0 < (l0.length : Int) then (if 0 ≤ x6_1 then (if x6_1 < (((rd_T113 l0 0).f0).length : Int) then (dom_Tree_Kids.l0 k1 l0 y105 ((rd_T110 ((rd_T113 l0 0).f0) x6_1).f1.f4)) else (none)) else (none)) else (none)) = some r := by first | (rw [hy105]; with_reducible exact H) | (have H2_ := (Option.bind_some _ _).symm.trans H; rw [hy105]; with_reducible exact H2_) | (have H2_ := (Option.bind_some _ _).symm.trans H; with_reducible exact H2_) | with_reducible exact H | (rw [hy105]; exact H) | exact H
                  have Ny105 := Aside0.mk hy105
                  clear hy105
                  by_cases c10 : 0 < (l0.length : Int)
                  · rw [if_pos c10] at H
                    have c10b0 : decide (0 < (l0.length : Int)) = true := decide_eq_true c10
                    have c10b1 : decide (0 < l0.length) = true := decide_eq_true (by omega)
                    clear c10
                    by_cases c11 : 0 ≤ x6_1
                    · rw [if_pos c11] at H
                      have c11b0 : decide (0 ≤ x6_1) = true := decide_eq_true c11
                      clear c11
                      by_cases c12 : x6_1 < (((rd_T113 l0 0).f0).length : Int)
                      · rw [if_pos c12] at H
                        have c12b0 : decide (x6_1 < (((rd_T113 l0 0).f0).length : Int)) = true := decide_eq_true c12
                        clear c12
                        have H' := Aside0.mk H
                        clear H
                        go_wp2_with (first | ((with_reducible refine gate_builtin (b := .append) (xs := #[.tmp 31, .tmp 33]) rfl ?_); at_builtin; refine Kd.R_append (Kd.int .i64) (w0 := w) w.heap.size rfl (.tmp 31) (.tmp 33) 30 3 (.int .i64 0) 8 rfl Tryz.underlying30 info3 rfl (by decide) (by omega) u5 x5_1 x6_1 [.int .i64 x6_1] (fun _ => True) (fun _ => False) rfl rfl ?aP (fun _ hk => hk.elim) ?aF ?aO ?aB ?aS ?aL ?_; (case aP => exact rfl); (case aB => exact (by repeat (first | (with_reducible first | exact HB.out | apply below_alloc | apply pw_below_drewN | apply below_drew1) | exact HB.out))); (case aF => exact (fun _ _ => trivial)); (case aO => exact (by (with_reducible repeat (first | apply Kd.R_alloc | apply Kd.R_drewN | apply Kd.R_drew)); exact HO_5.out)); (case aS => exact (below_size (by repeat (first | (with_reducible first | exact HB.out | apply below_alloc | apply pw_below_drewN | apply below_drew1) | exact HB.out)))); (case aL => have := LMc9.out; omega); intro v106 w13 ho hb hg hat; rw [← Ny105.out] at ho; have n0_ := Aside0.mk (hb); have n1_ := Aside0.mk (ho); clear HB; clear HO_5; have HB := n0_; have HO107 := n1_; clear n0_ n1_; clear ho hb hg hat; have p108 : 0 ≤ (0 : Int) := (by omega); have q108 : 0 < (l0.length : Int) := of_decide_eq_true (by first | (with_reducible assumption) | assumption); obtain ⟨ad108, A108_0, c108_0, e108, hx108_0, hl108_0, hi108_0⟩ := at_T113 HR0.out 0 p108 q108; obtain rfl : ad102 = ad108 := (by injection e108); have qi108 : (0 < l0.length) = True := eq_true (by omega); (try rw [show ((0 : Int)).toNat = 0 from rfl] at hx108_0); (try rw [Addr.add_zero'] at hx108_0); replace hx108_0 := (HB.out.cell (World.block_lt_of_cell? w _ hx108_0)).trans hx108_0; have HR108_0 := Aside0.mk hi108_0; have HC108_0 := Aside0.mk hl108_0; clear hi108_0 hl108_0; replace p108 := eq_true p108; replace q108 := eq_true q108; have p109 : 0 ≤ (0 : Int) := (by omega); have q109 : 0 < (l0.length : Int) := of_decide_eq_true (by first | (with_reducible assumption) | assumption); obtain ⟨ad109, A109_0, c109_0, e109, hx109_0, hl109_0, hi109_0⟩ := at_T113 HR0.out 0 p109 q109; obtain rfl : ad102 = ad109 := (by injection e109); have qi109 : (0 < l0.length) = True := eq_true (by omega); (try rw [show ((0 : Int)).toNat = 0 from rfl] at hx109_0); (try rw [Addr.add_zero'] at hx109_0); replace hx109_0 := (HB.out.cell (World.block_lt_of_cell? w _ hx109_0)).trans hx109_0; have HR109_0 := Aside0.mk hi109_0; have HC109_0 := Aside0.mk hl109_0; clear hi109_0 hl109_0; replace p109 := eq_true p109; replace q109 := eq_true q109; have ea_ := Option.some.inj (hx108_0.symm.trans hx109_0); injection ea_ with ea_ en_ ec_; subst ea_; subst ec_; clear en_; have p110 : 0 ≤ (x6_1 : Int) := of_decide_eq_true (by first | (with_reducible assumption) | assumption); have q110 : x6_1 < (((rd_T113 l0 0).f0).length : Int) := of_decide_eq_true (by first | (with_reducible assumption) | assumption); obtain ⟨ad110, A110_4, c110_4, e110, hx110_0, hx110_1, hx110_2, hx110_3, hx110_4, hx110_5, hx110_6, hx110_7, hx110_8, hx110_9, hl110_4, hi110_4⟩ := at_T110 HR109_0.out x6_1 p110 q110; cases e110; replace hx110_0 := (HB.out.cell (World.block_lt_of_cell? w _ hx110_0)).trans hx110_0; replace hx110_1 := (HB.out.cell (World.block_lt_of_cell? w _ hx110_1)).trans hx110_1; replace hx110_2 := (HB.out.cell (World.block_lt_of_cell? w _ hx110_2)).trans hx110_2; replace hx110_3 := (HB.out.cell (World.block_lt_of_cell? w _ hx110_3)).trans hx110_3; replace hx110_4 := (HB.out.cell (World.block_lt_of_cell? w _ hx110_4)).trans hx110_4; replace hx110_5 := (HB.out.cell (World.block_lt_of_cell? w _ hx110_5)).trans hx110_5; replace hx110_6 := (HB.out.cell (World.block_lt_of_cell? w _ hx110_6)).trans hx110_6; replace hx110_7 := (HB.out.cell (World.block_lt_of_cell? w _ hx110_7)).trans hx110_7; replace hx110_8 := (HB.out.cell (World.block_lt_of_cell? w _ hx110_8)).trans hx110_8; replace hx110_9 := (HB.out.cell (World.block_lt_of_cell? w _ hx110_9)).trans hx110_9; have HR110_4 := Aside0.mk hi110_4; have HC110_4 := Aside0.mk hl110_4; clear hi110_4 hl110_4; replace p110 := eq_true p110; replace q110 := eq_true q110))
                        go_roundg k1
                        case measure => have := HK1.out; omega
                        case rel => exact ⟨(y105), ((rd_T110 ((rd_T113 l0 0).f0) x6_1).f1.f4), (by first | rfl | (simp; done) | (simp [*]; done)), H', ⟨by have := HK1.out; omega⟩, ⟨by (with_reducible repeat (first | apply Kd.R_alloc | apply Kd.R_drewN | apply Kd.R_drew)); exact HO107.out⟩, ⟨by repeat (first | (with_reducible first | exact HB.out | apply below_alloc | apply pw_below_drewN | apply below_drew1) | exact HB.out)⟩⟩
                      · rw [if_neg c12] at H
                        exact absurd H (by simp)
                    · rw [if_neg c11] at H
                      exact absurd H (by simp)
                  · rw [if_neg c10] at H
                    exact absurd H (by simp)
                · rw [if_neg c9] at H
                  exact absurd H (by simp)
        · rw [if_neg c7] at H
          exact absurd H (by simp)
      · rw [if_neg c6] at H
        exact absurd H (by simp)
    · rw [if_neg c5] at H
      exact absurd H (by simp)
  · replace c4 := Bool.eq_false_iff.mpr c4
    subst c4
    have H1 : (some ([] : List Int)) = some r := by rw [if_neg (show ¬ (false = true) by decide)] at H; exact H
    clear H
    have H := H1
    clear H1
    obtain rfl := Option.some.inj H
    go_enter Tryz.func63, Tryz.ntmps63
    go_wp2_with (first | ((with_reducible refine gate_callee (f := 48) rfl ?_); refine goesL_ (some 9) rfl rfl Tryz.func48 (by kernel_rfl) rfl #[.pointer A0, .int .i64 a1] rfl (by (try simp only [List.map_toArray, List.map_cons, List.map_nil]); first | done | rfl | (simp only [List.length_drop, List.length_take]; rfl)) ?_; (with_reducible refine (dom_Tree_there.calls _ l0.length l0 a1 false _ ?side1 ?side2 A3.out).mono ?_); (case side1 => repeat (first | exact HR0.out | (with_reducible refine Kd.C_alloc ?_ _) | (with_reducible refine Kd.C_drewN ?_ _) | (with_reducible refine Kd.C_drew ?_))); (case side2 => exact ⟨Nat.le_refl _, HC0.out.2⟩); rintro e w' ⟨rfl, ⟨nd, rfl⟩⟩; refine ⟨_, rfl, ?_⟩))
    go_ret
    exact ⟨_, by first | rfl | (simp [errW_none, errW_some] <;> rfl) | (simp [*, errW_none, errW_some] <;> rfl), by first | exact Kd.R_nil _ _ _ _ _ | exact Kd.N_nil _ _ _ _ _ | exact Kd.V_nil _ _ _ _ _ | exact Kd.Q_nil _ _ _ _ _ | exact Kd.S_nil _ _ _ _ _, by repeat (first | (with_reducible first | exact HB.out | apply below_alloc | apply pw_below_drewN | apply below_drew1) | exact HB.out)⟩
def slices_Index_string_string.l0 : Nat → List ByteArray → ByteArray → Int → Int → Option (Int)
  | 0, _, _, _, _ => none
  | k + 1, x0, x1, x7, x8 => if x8 < x7 then (if 0 ≤ x8 then (if x8 < (x0.length : Int) then (if x1.toList = (rdOf ByteArray.empty x0 x8).toList then (some x8) else (slices_Index_string_string.l0 k x0 x1 x7 (wrap64 (x8 + 1)))) else (none)) else (none)) else (some (-1))
def slices_Index_string_string.f (k : Nat) (l0 : List ByteArray) (a1 : ByteArray) : Option (Int) := slices_Index_string_string.l0 k l0 a1 (l0.length : Int) 0
theorem slices_Index_string_string.mono_l : ∀ k, (∀ y0 y1 y2 y3, LeO (slices_Index_string_string.l0 k y0 y1 y2 y3) (slices_Index_string_string.l0 (k + 1) y0 y1 y2 y3))
  | 0 => fun _ _ _ _ r h => by simp [slices_Index_string_string.l0] at h
  | k + 1 => by
    have ih0 := slices_Index_string_string.mono_l k
    · intro y0 y1 y2 y3
      unfold slices_Index_string_string.l0
      repeat' first
      | (with_reducible exact ih0 _ _ _ _)
      | (with_reducible exact LeO.refl _)
      | (with_reducible exact LeO.none _)
      | (with_reducible refine LeO.ite ?_ ?_)
      | (with_reducible refine LeO.bind ?_ (fun _ => ?_))
      | exact ih0 _ _ _ _
      | exact LeO.none _
      | refine LeO.ite ?_ ?_
      | refine LeO.bind ?_ (fun _ => ?_)
theorem slices_Index_string_string.mono : ∀ a0 a1 k, LeO (slices_Index_string_string.f k a0 a1) (slices_Index_string_string.f (k + 1) a0 a1) := by
  intro a0 a1 k
  have ih0 := slices_Index_string_string.mono_l k
  unfold slices_Index_string_string.f
  repeat' first
      | (with_reducible exact ih0 _ _ _ _)
      | (with_reducible exact LeO.refl _)
      | (with_reducible exact LeO.none _)
      | (with_reducible refine LeO.ite ?_ ?_)
      | (with_reducible refine LeO.bind ?_ (fun _ => ?_))
      | exact ih0 _ _ _ _
      | exact LeO.none _
      | refine LeO.ite ?_ ?_
      | refine LeO.bind ?_ (fun _ => ?_)
set_option maxHeartbeats 8000000 in
set_option maxRecDepth 100000 in
theorem slices_Index_string_string.calls (k : Nat) (A0 : Option Addr) (c0 : Nat) (l0 : List ByteArray) (a1 : ByteArray) (r : Int) (w : World) (hr0 : Kd.C Kd.string w A0 l0.length l0) (hc0 : l0.length ≤ c0) (h : slices_Index_string_string.f k l0 a1 = some r) :
    Calls Tryz.prog 102 #[.slice A0 l0.length c0, .string a1] w fun e w' => e = .returned (.int .i64 r) ∧ Drawn0 w w' := by
  have HR0 := Aside0.mk hr0
  have HC0 := Aside0.mk hc0
  clear hr0 hc0
  have H : (slices_Index_string_string.l0 k l0 a1 (l0.length : Int) 0) = some r := h
  clear h
  have H' := Aside0.mk H
  clear H
  go_enter Tryz.func102, Tryz.ntmps102
  go_wp2
  go_loopg [8] k (fun kq v8 w' => ∃ (x8_1 : Int), v8 = .int .i64 x8_1 ∧ Aside0 (slices_Index_string_string.l0 kq l0 a1 (l0.length : Int) x8_1 = some r) ∧ Aside0 (kq ≤ k) ∧ Drawn0 w w')
  case atStart => exact ⟨(0), (by first | rfl | (simp; done) | (simp [*]; done)), H', ⟨Nat.le_refl _⟩, by repeat (first | exact Drawn0.refl _ | apply Drawn0.step)⟩
  case round =>
    clear H'
    try clear c1
    try clear p2
    obtain ⟨x8_1, rfl, HA, HK1, ⟨m1, rfl⟩⟩ := hrel
    cases gk with
    | zero => exact absurd HA.out (by simp [slices_Index_string_string.l0])
    | succ k1 =>
      have H := HA.out
      clear HA
      simp only [slices_Index_string_string.l0] at H
      by_cases c3 : x8_1 < (l0.length : Int)
      · rw [if_pos c3] at H
        have c3b0 : decide (x8_1 < (l0.length : Int)) = true := decide_eq_true c3
        clear c3
        by_cases c4 : 0 ≤ x8_1
        · rw [if_pos c4] at H
          have c4b0 : decide (0 ≤ x8_1) = true := decide_eq_true c4
          clear c4
          by_cases c5 : x8_1 < (l0.length : Int)
          · rw [if_pos c5] at H
            have c5b0 : decide (x8_1 < (l0.length : Int)) = true := decide_eq_true c5
            clear c5
            by_cases c6 : a1.toList = (rdOf ByteArray.empty l0 x8_1).toList
            · rw [if_pos c6] at H
              have c6b0 : (a1.toList == (rdOf ByteArray.empty l0 x8_1).toList) = true := beq_iff_eq.mpr c6
              have c6b1 : (a1.toList != (rdOf ByteArray.empty l0 x8_1).toList) = false := bne_eq_false_iff_eq.mpr c6
              clear c6
              obtain rfl := Option.some.inj H
              have p111 : 0 ≤ (x8_1 : Int) := of_decide_eq_true (by first | (with_reducible assumption) | assumption)
              have q111 : x8_1 < (l0.length : Int) := of_decide_eq_true (by first | (with_reducible assumption) | assumption)
              obtain ⟨ad111, e111, hx111_0⟩ := Kd.at_string HR0.out x8_1 p111 q111
              cases e111
              replace p111 := eq_true p111
              replace q111 := eq_true q111
              go_wp2
              go_ret
              exact ⟨by first | rfl | (simp; done) | (simp [*]; done), by repeat (first | exact Drawn0.refl _ | apply Drawn0.step)⟩
            · rw [if_neg c6] at H
              have c6b0 : (a1.toList == (rdOf ByteArray.empty l0 x8_1).toList) = false := beq_eq_false_iff_ne.mpr c6
              have c6b1 : (a1.toList != (rdOf ByteArray.empty l0 x8_1).toList) = true := bne_iff_ne.mpr c6
              have H' := Aside0.mk H
              clear H
              have p111 : 0 ≤ (x8_1 : Int) := of_decide_eq_true (by first | (with_reducible assumption) | assumption)
              have q111 : x8_1 < (l0.length : Int) := of_decide_eq_true (by first | (with_reducible assumption) | assumption)
              obtain ⟨ad111, e111, hx111_0⟩ := Kd.at_string HR0.out x8_1 p111 q111
              cases e111
              replace p111 := eq_true p111
              replace q111 := eq_true q111
              go_wp2
              go_roundg k1
              case measure => have := HK1.out; omega
              case rel => exact ⟨(wrap64 (x8_1 + 1)), (by first | rfl | (simp; done) | (simp [*]; done)), H', ⟨by have := HK1.out; omega⟩, by repeat (first | exact Drawn0.refl _ | apply Drawn0.step)⟩
          · rw [if_neg c5] at H
            exact absurd H (by simp)
        · rw [if_neg c4] at H
          exact absurd H (by simp)
      · rw [if_neg c3] at H
        have c3b0 : decide (x8_1 < (l0.length : Int)) = false := decide_eq_false c3
        clear c3
        obtain rfl := Option.some.inj H
        go_wp2
        go_ret
        exact ⟨by first | rfl | (simp; done) | (simp [*]; done), by repeat (first | exact Drawn0.refl _ | apply Drawn0.step)⟩
def slices_Contains_string_string.f (k : Nat) (l0 : List ByteArray) (a1 : ByteArray) : Option (Bool) := (slices_Index_string_string.f k l0 a1).bind fun t112 => (some (decide (t112 ≥ 0)))
theorem slices_Contains_string_string.mono : ∀ a0 a1 k, LeO (slices_Contains_string_string.f k a0 a1) (slices_Contains_string_string.f (k + 1) a0 a1) := by
  intro a0 a1 k
  unfold slices_Contains_string_string.f
  repeat' first
      | (with_reducible exact slices_Index_string_string.mono _ _ _)
      | (with_reducible exact LeO.refl _)
      | (with_reducible exact LeO.none _)
      | (with_reducible refine LeO.ite ?_ ?_)
      | (with_reducible refine LeO.bind ?_ (fun _ => ?_))
      | exact slices_Index_string_string.mono _ _ _
      | exact LeO.none _
      | refine LeO.ite ?_ ?_
      | refine LeO.bind ?_ (fun _ => ?_)
set_option maxHeartbeats 8000000 in
set_option maxRecDepth 100000 in
theorem slices_Contains_string_string.calls (k : Nat) (A0 : Option Addr) (c0 : Nat) (l0 : List ByteArray) (a1 : ByteArray) (r : Bool) (w : World) (hr0 : Kd.C Kd.string w A0 l0.length l0) (hc0 : l0.length ≤ c0) (h : slices_Contains_string_string.f k l0 a1 = some r) :
    Calls Tryz.prog 88 #[.slice A0 l0.length c0, .string a1] w fun e w' => e = .returned (.bool r) ∧ Drawn0 w w' := by
  have HR0 := Aside0.mk hr0
  have HC0 := Aside0.mk hc0
  clear hr0 hc0
  have H : ((slices_Index_string_string.f k l0 a1).bind fun t112 => (some (decide (t112 ≥ 0)))) = some r := h
  clear h
  replace H := Option.bind_eq_some_iff.mp H
  obtain ⟨t112, A30, H⟩ := H
  replace H : (some (decide (t112 ≥ 0))) = some r := H
  have A3 := Aside0.mk A30
  clear A30
  obtain rfl := Option.some.inj H
  go_enter Tryz.func88, Tryz.ntmps88
  go_wp2_with (first | ((with_reducible refine gate_callee (f := 102) rfl ?_); refine goesL_ (some 7) rfl rfl Tryz.func102 (by kernel_rfl) rfl #[.slice A0 l0.length c0, .string a1] rfl (by (try simp only [List.map_toArray, List.map_cons, List.map_nil]); first | done | rfl | (simp only [List.length_drop, List.length_take]; rfl)) ?_; (with_reducible refine (slices_Index_string_string.calls k _ _ l0 a1 t112 _ ?side1 ?side2 A3.out).mono ?_); (case side1 => repeat (first | exact HR0.out | (with_reducible refine Kd.C_alloc ?_ _) | (with_reducible refine Kd.C_drewN ?_ _) | (with_reducible refine Kd.C_drew ?_))); (case side2 => exact HC0.out); rintro e w' ⟨rfl, ⟨nd, rfl⟩⟩; refine ⟨_, rfl, ?_⟩))
  go_ret
  exact ⟨by first | rfl | (simp; done) | (simp [*]; done), by repeat (first | exact Drawn0.refl _ | apply Drawn0.step)⟩
end Go.Proofs.YtomdidopflebjaaGreatDoor.PM
namespace Go.Proofs.YtomdidopflebjaaGreatDoor.PM
open Go.RowKit Go.Proofs.YtomdidopflebjaaGreatDoorW.PrintWords Go.Proofs.YtomdidopflebjaaGreatDoorW.PrintLast Go.Proofs.YtomdidopflebjaaGreatDoorW.PrintMore
def query_is (k : Nat) (names : List ByteArray) (s : ByteArray) : Option Bool := if names.length = 0 then some true else slices_Contains_string_string.f k names s
set_option maxHeartbeats 1000000 in
theorem named_any (k bn : Nat) (An : Option Addr) (cn : Nat) (names : List ByteArray) (s : ByteArray) (r : Bool) (W : World) (hb : W.heap[bn]? = some (.cells #[.slice An names.length cn] 83 (0, 0))) (hC : Kd.C Kd.string W An names.length names) (hc : names.length ≤ cn) (h : query_is k names s = some r) :
    Calls Tryz.prog 87 #[.string s, .pointer (some ⟨bn, 0, none⟩)] W fun e w' => e = .returned (.bool r) ∧ Drawn0 W w' := by
  have hcell := (blk_cell hb 0).trans rfl
  have hm := Kd.C_max hC
  obtain ⟨N, hN⟩ : ∃ N, N = names.length := ⟨_, rfl⟩
  by_cases h0 : names.length = 0
  · unfold query_is at h
    rw [if_pos h0] at h
    obtain rfl := Option.some.inj h
    rw [h0] at hcell
    clear hb hC hc h hN h0
    go_enter Tryz.func87, Tryz.ntmps87
    go_wp2
    go_ret
    exact ⟨rfl, Drawn0.refl _⟩
  · unfold query_is at h
    rw [if_neg h0] at h
    have HK := Aside0.mk (fun W' (hd : Drawn0 W W') => slices_Contains_string_string.calls k An cn names s r W' (by obtain ⟨m, rfl⟩ := hd; exact Kd.C_drewN hC m) hc h)
    have hz : ((names.length : Int) == 0) = false := by simp; exact fun e => h0 (by rw [e]; rfl)
    rw [← hN] at hcell hz hm HK
    clear hb hC hc h hN h0
    go_enter Tryz.func87, Tryz.ntmps87
    go_wp2_with (go_at_call 88; refine (HK.out _ (Drawn0.refl _)).mono ?_; rintro e w' ⟨rfl, m, rfl⟩)
    go_ret
    exact ⟨rfl, m, rfl⟩
end Go.Proofs.YtomdidopflebjaaGreatDoor.PM
namespace Go.Proofs.YtomdidopflebjaaGreatDoor.PM
open Go.RowKit Go.Proofs.YtomdidopflebjaaGreatDoorW.PrintWords Go.Proofs.YtomdidopflebjaaGreatDoorW.PrintLast Go.Proofs.YtomdidopflebjaaGreatDoorW.PrintMore
def query_step (k : Nat) (each : Int → List Int → Option (List Int)) (l0 : List S113) (names : List ByteArray) (out : List Int) (c : Int) : Option (List Int) :=
  (dom_Tree_Get.f l0 c).bind fun g => if g.1 = 2 then ((query_is k names g.2.2.1).bind fun b => if b = true then (if out.length < 17592186044415 then each c (out ++ [c]) else none) else each c out) else each c out
def query_each : Nat → List S113 → List ByteArray → Int → List Int → Option (List Int)
  | 0, _, _, _, _ => none
  | k + 1, l0, names, n, out => (dom_Tree_Kids.f k l0 n).bind fun kids => kids.foldlM (query_step k (query_each k l0 names) l0 names) out
abbrev ints (l : List Int) : List Value := l.map (Value.int .i64)
/-- query.Under's variables: w0: the world at its call. -/
structure UI (w0 W : World) (A : Option Addr) (An : Option Addr) (cn : Nat) (nm : List ByteArray) (v : Value) (out : List Int) : Prop where
  below : Below w0.heap.size w0 W
  t : W.heap[w0.heap.size]? = some (.cells #[.pointer A] 24 (0, 0))
  nmb : W.heap[w0.heap.size + 1]? = some (.cells #[.slice An nm.length cn] 83 (0, 0))
  is : W.heap[w0.heap.size + 2]? = some (.cells #[.func (.func 87) #[] #[.pointer (some ⟨w0.heap.size + 1, 0, none⟩)]] 124 (0, 0))
  outb : W.heap[w0.heap.size + 3]? = some (.cells #[v] 30 (0, 0))
  ea : W.heap[w0.heap.size + 4]? = some (.cells #[.func (.func 62) #[] #[.pointer (some ⟨w0.heap.size, 0, none⟩), .pointer (some ⟨w0.heap.size + 2, 0, none⟩), .pointer (some ⟨w0.heap.size + 3, 0, none⟩), .pointer (some ⟨w0.heap.size + 4, 0, none⟩)]] 117 (0, 0))
  own : W.ownsRow (w0.heap.size + 5) 3 1 v out.length (ints out)
section
variable {w0 W W' : World} {A An : Option Addr} {cn : Nat} {nm : List ByteArray} {v : Value} {out : List Int}
theorem own_base {w : World} {base e size n : Nat} {v : Value} {xs : List Value} (h : w.ownsRow base e size v n xs) : ∀ k, v.ownBlock = some k → base ≤ k ∧ k < w.heap.size := by
  intro k hk
  rcases h.2 with ⟨rfl, _⟩ | ⟨g, cap, cur, rfl, hb, hg, _⟩
  · simp [Value.ownBlock] at hk
  · obtain rfl : g = k := by simpa [Value.ownBlock] using hk
    exact ⟨hb, blk_lt hg⟩
theorem own_below {w w1 : World} {base e size n : Nat} {v : Value} {xs : List Value} (h : w.ownsRow base e size v n xs) (hb : Below w.heap.size w w1) : w1.ownsRow base e size v n xs :=
  (KeepBut.of_below hb w.heap.size none).own h (fun e => by have := (own_base h _ e).2; omega) (by cases v.ownBlock <;> simp)
theorem own_slice {w : World} {base e size n : Nat} {v : Value} {xs : List Value} (h : w.ownsRow base e size v n xs) : ∃ A c, v = .slice A n c := by
  rcases h.2 with ⟨rfl, rfl⟩ | ⟨g, cap, cur, rfl, _⟩
  · exact ⟨_, _, rfl⟩
  · exact ⟨_, _, rfl⟩
theorem UI.lt (h : UI w0 W A An cn nm v out) : w0.heap.size + 4 < W.heap.size := blk_lt h.ea
theorem UI.step (h : UI w0 W A An cn nm v out) (hb : Below W.heap.size W W') : UI w0 W' A An cn nm v out where
  below := below_step h.below hb
  t := blk_below h.t hb
  nmb := blk_below h.nmb hb
  is := blk_below h.is hb
  outb := blk_below h.outb hb
  ea := blk_below h.ea hb
  own := own_below h.own hb
theorem UI.app {w1 : World} {v' : Value} {c : Int} {o : Obj} (h : UI w0 W A An cn nm v out) (hown : w1.ownsRow (w0.heap.size + 5) 3 1 v' (out.length + 1) (ints out ++ [.int .i64 c])) (hg : (W.alloc o).grownBy w1 v.ownBlock)
    (hloc : v'.ownBlock = v.ownBlock ∨ v'.ownBlock = some (W.alloc o).heap.size) :
    UI w0 (w1.setCell ⟨w0.heap.size + 3, 0, none⟩ v') A An cn nm v' (out ++ [c]) ∧ KeepBut W (w1.setCell ⟨w0.heap.size + 3, 0, none⟩ v') (w0.heap.size + 3) v.ownBlock ∧ (v'.ownBlock = v.ownBlock ∨ ∃ b, v'.ownBlock = some b ∧ W.heap.size ≤ b) := by
  have hk : KeepBut W w1 (w0.heap.size + 3) v.ownBlock := (KeepBut.of_below (below_alloc (Below.refl _ _) o) _ _).trans (KeepBut.of_grown hg _) (.inl rfl)
  have hne : ∀ k, k < w0.heap.size + 5 → some k ≠ v.ownBlock := fun k hk e => by have := (own_base h.own k e.symm).1; omega
  have hlt := h.lt
  have hk2 : KeepBut w1 (w1.setCell ⟨w0.heap.size + 3, 0, none⟩ v') (w0.heap.size + 3) none := (KeepBut.refl w1 _ none).set_ 0 v'
  have b8 : w1.heap[w0.heap.size + 3]? = some (.cells #[v] 30 (0, 0)) := blk_grown (blk_alloc h.outb o) hg (hne _ (by omega))
  have K : ∀ j ob, j ≠ w0.heap.size + 3 → j < w0.heap.size + 5 → W.heap[j]? = some ob → (w1.setCell ⟨w0.heap.size + 3, 0, none⟩ v').heap[j]? = some ob := fun j ob hj h5 hb => hk2.blk (hk.blk hb hj (hne j h5)) hj (by simp)
  refine ⟨⟨?_, K _ _ (by omega) (by omega) h.t, K _ _ (by omega) (by omega) h.nmb, K _ _ (by omega) (by omega) h.is, ?_, K _ _ (by omega) (by omega) h.ea, ?_⟩, hk.set_ 0 v', ?_⟩
  · refine Below.setCell ?_ (by simp) _
    exact ((h.below.alloc h.below.size o).grown hg (Nat.le_trans h.below.size (by simp)) (fun k hk => by have := (own_base h.own k hk).1; omega))
  · exact blk_set b8 0 v'
  · have e : ints (out ++ [c]) = ints out ++ [.int .i64 c] := by simp [ints]
    rw [e, List.length_append, List.length_singleton]
    refine hk2.own hown (fun e => ?_) (by cases v'.ownBlock <;> simp)
    have := (own_base hown _ e).1
    omega
  · rcases hloc with h1 | h1
    · exact .inl h1
    · exact .inr ⟨_, h1, by simp⟩
end
/-- A round's end: what turned since the loop began. -/
theorem keep_close {W1 wr w2 w3 : World} {b : Nat} {v u u3 : Value} (hK : KeepBut W1 wr b v.ownBlock) (hO : u.ownBlock = v.ownBlock ∨ ∃ q, u.ownBlock = some q ∧ W1.heap.size ≤ q) (h2 : KeepBut wr w2 b u.ownBlock) (h3 : KeepBut w2 w3 b u.ownBlock)
    (hO3 : u3.ownBlock = u.ownBlock ∨ ∃ q, u3.ownBlock = some q ∧ w2.heap.size ≤ q) : KeepBut W1 w3 b v.ownBlock ∧ (u3.ownBlock = v.ownBlock ∨ ∃ q, u3.ownBlock = some q ∧ W1.heap.size ≤ q) := by
  refine ⟨hK.trans (h2.trans h3 (.inl rfl)) hO, ?_⟩
  rcases hO3 with h | ⟨q, h, hq⟩
  · rw [h]
    exact hO
  · exact .inr ⟨q, h, Nat.le_trans hK.1 (Nat.le_trans h2.1 hq)⟩
theorem C_int {w : World} {A : Option Addr} {xs : List Int} {m : Nat} (h : Kd.C (Kd.int .i64) w A xs.length xs) (hm : m < xs.length) : ∃ ad, A = some ad ∧ w.cell? (ad.add m) = some (.int .i64 xs[m]) := by
  obtain ⟨ad, e, hc⟩ := h.2.2 (by omega)
  obtain ⟨c, _, hK, hcc⟩ := hc m _ (List.getElem?_eq_getElem hm)
  obtain rfl : c = [.int .i64 xs[m]] := hK
  refine ⟨ad, e, ?_⟩
  have := hcc 0 _ rfl
  rwa [show m * (Kd.int .i64).sz + 0 = m from by show m * 1 + 0 = m; omega] at this
theorem info3z : (Tryz.prog.info? 3).map (fun i => (i.zero, i.size, i.bytes)) = some (some (.int .i64 0), 1, 8) := by kernel_rfl
/-- A row that was made behind W, at a later world that turned one block and one row of W's. -/
theorem R_keepI {W1 w' : World} {b base : Nat} {row : Option Nat} {kv : Value} {xs : List Int} (h : Kd.R (Kd.int .i64) 3 W1 base (fun _ => True) kv xs) (hk : KeepBut W1 w' b row) (hb : b < base) (hr : ∀ q, row = some q → q < base) : Kd.R (Kd.int .i64) 3 w' base (fun _ => True) kv xs := by
  obtain ⟨inner, ho⟩ := Kd.R_own h
  refine Kd.R_mono (Kd.R_step (ok := fun k => True ∧ base ≤ k ∧ k < W1.heap.size ∧ ∃ q, q ∈ 3 :: (Kd.int .i64).E ∧ ∃ cells, W1.heap[k]? = some (.cells cells q (0, 0))) (Kd.R_bound h) (fun k hk1 hk2 => hk.2 k hk2 (by omega) (fun e => by have := hr k e.symm; omega))) (fun _ _ => trivial)
set_option maxHeartbeats 16000000 in
set_option maxRecDepth 100000 in
theorem each_any (w0 : World) (A An : Option Addr) (cn : Nat) (l0 : List S113) (nm : List ByteArray) (hT : Kd.C k113 w0 A l0.length l0) (hA : l0 = [] → A = none) (hN : Kd.C Kd.string w0 An nm.length nm) (hcn : nm.length ≤ cn) :
    ∀ (k : Nat) (n : Int) (out r : List Int) (v : Value) (W : World), UI w0 W A An cn nm v out → query_each k l0 nm n out = some r →
    Calls Tryz.prog 62 #[.int .i64 n, .pointer (some ⟨w0.heap.size, 0, none⟩), .pointer (some ⟨w0.heap.size + 2, 0, none⟩), .pointer (some ⟨w0.heap.size + 3, 0, none⟩), .pointer (some ⟨w0.heap.size + 4, 0, none⟩)] W fun e W' =>
      e = .returned (.tuple #[]) ∧ ∃ v', UI w0 W' A An cn nm v' r ∧ KeepBut W W' (w0.heap.size + 3) v.ownBlock ∧ (v'.ownBlock = v.ownBlock ∨ ∃ b, v'.ownBlock = some b ∧ W.heap.size ≤ b) := by
  intro k
  induction k with
  | zero => intro n out r v W _ h; exact absurd h (by simp [query_each])
  | succ k ih =>
    intro n out r v W hU h
    unfold query_each at h
    obtain ⟨kids, hkids, hfold⟩ := Option.bind_eq_some_iff.mp h
    have HT := Aside0.mk hT
    have HN := Aside0.mk hN
    have HU := Aside0.mk hU
    have HKD := Aside0.mk hkids
    have HF := Aside0.mk hfold
    have IH := Aside0.mk ih
    have HA := Aside0.mk hA
    have HCN := Aside0.mk hcn
    have g1 : W.cell? ⟨w0.heap.size, 0, none⟩ = some (.pointer A) := (blk_cell hU.t 0).trans rfl
    clear hT hN hU hkids hfold ih hA h hcn
    go_enter Tryz.func62, Tryz.ntmps62
    go_wp2_with (go_at_call 63; refine (dom_Tree_Kids.calls k A l0.length l0 n kids _ (Kd.C_below HT.out HU.out.below) ⟨Nat.le_refl _, HA.out⟩ HKD.out).mono ?_; rintro e W1 ⟨kv, rfl, hR, hb1⟩; obtain ⟨Ak, ck, ek⟩ := Kd.R_slice hR; subst ek; have HR := Aside0.mk hR; have HB1 := Aside0.mk hb1; clear hR hb1)
    have HL := Aside0.mk (HU.out.lt)
    have HSZ := Aside0.mk (HB1.out.size)
    have HOB := Aside0.mk (fun q (e : v.ownBlock = some q) => (own_base HU.out.own q e).2)
    clear g1
    go_loopg [14] kids.length (fun kq v14 w' => ∃ (m : Nat) (o : List Int) (u : Value), v14 = .int .i64 (m : Int) ∧ Aside0 (m + kq = kids.length) ∧ Aside0 ((kids.drop m).foldlM (query_step k (query_each k l0 nm) l0 nm) o = some r) ∧ Aside0 (UI w0 w' A An cn nm u o) ∧ Aside0 (KeepBut W1 w' (w0.heap.size + 3) v.ownBlock) ∧ Aside0 (u.ownBlock = v.ownBlock ∨ ∃ b, u.ownBlock = some b ∧ W1.heap.size ≤ b))
    case atStart => exact ⟨0, out, v, rfl, ⟨by omega⟩, HF, ⟨HU.out.step HB1.out⟩, ⟨KeepBut.refl _ _ _⟩, ⟨.inl rfl⟩⟩
    case round =>
      obtain ⟨m, o, u, rfl, HM, HFo, HUo, HKo, HOo⟩ := hrel
      cases gk with
      | zero =>
        have hm : m = kids.length := by have := HM.out; omega
        subst hm
        go_wp2
        go_end0
        obtain rfl : o = r := by
          have := HFo.out
          rw [List.drop_length] at this
          exact Option.some.inj this
        refine ⟨rfl, u, HUo.out, (KeepBut.of_below HB1.out _ _).trans HKo.out (.inl rfl), ?_⟩
        rcases HOo.out with h1 | ⟨b, h1, h2⟩
        · exact .inl h1
        · exact .inr ⟨b, h1, Nat.le_trans HSZ.out h2⟩
      | succ gk =>
        have hlt : m < kids.length := by have := HM.out; omega
        have hf := HFo.out
        rw [List.drop_eq_getElem_cons hlt, List.foldlM_cons] at hf
        obtain ⟨o2, hst0, hrest⟩ := Option.bind_eq_some_iff.mp hf
        unfold query_step at hst0
        obtain ⟨g, hg, hst⟩ := Option.bind_eq_some_iff.mp hst0
        obtain ⟨f0, f1, f2, f3, f4, f5⟩ := g
        simp only at hst
        have HG := Aside0.mk hg
        have HRE := Aside0.mk hrest
        have hmx : kids.length ≤ 9223372036854775807 := Kd.C_max (Kd.R_reads' HR.out).2.2
        have hx := C_int (Kd.R_reads' (R_keepI HR.out HKo.out (by have := HL.out; omega) (fun q hq => HOB.out q hq))).2.2 hlt
        obtain ⟨ad, he, hx⟩ := hx
        subst he
        have g1 : wr.cell? ⟨w0.heap.size, 0, none⟩ = some (.pointer A) := (blk_cell HUo.out.t 0).trans rfl
        have hd : decide ((m : Int) < (kids.length : Int)) = true := decide_eq_true (by omega)
        have hd2 : decide (m < kids.length) = true := decide_eq_true hlt
        obtain ⟨cc, hcc⟩ : ∃ cc, cc = kids[m] := ⟨_, rfl⟩
        rw [← hcc] at hx HG hst
        have HH := Aside0.mk hlt
        clear hst0 hf hg hrest HFo hcc
        by_cases hk : f0 = 2
        · subst hk
          rw [if_pos rfl] at hst
          obtain ⟨b, hi, hst⟩ := Option.bind_eq_some_iff.mp hst
          have HI := Aside0.mk hi
          clear hi
          obtain ⟨Au, cu, eu⟩ := own_slice HUo.out.own
          subst eu
          cases b with
          | false =>
            rw [if_neg Bool.false_ne_true] at hst
            have HST := Aside0.mk hst
            clear hst
            go_wp2_with (first
              | (go_at_call 29; refine (dom_Tree_Get.calls A l0.length l0 cc _ _ _ _ _ _ _ (Kd.C_below HT.out HUo.out.below) ⟨Nat.le_refl _, HA.out⟩ HG.out).mono ?_; rintro e w2 ⟨v4, rfl, hR4, hb2⟩; obtain ⟨A4, c4, e4⟩ := Kd.R_slice hR4; subst e4; have HU2 := Aside0.mk (HUo.out.step hb2); have HB2 := Aside0.mk hb2; have q4 : ∀ o, (w2.alloc o).cell? ⟨w0.heap.size + 4, 0, none⟩ = some (.func (.func 62) #[] #[.pointer (some ⟨w0.heap.size, 0, none⟩), .pointer (some ⟨w0.heap.size + 2, 0, none⟩), .pointer (some ⟨w0.heap.size + 3, 0, none⟩), .pointer (some ⟨w0.heap.size + 4, 0, none⟩)]) := fun o => (blk_cell (blk_alloc HU2.out.ea o) 0).trans rfl; have q2 : ∀ o, (w2.alloc o).cell? ⟨w0.heap.size + 2, 0, none⟩ = some (.func (.func 87) #[] #[.pointer (some ⟨w0.heap.size + 1, 0, none⟩)]) := fun o => (blk_cell (blk_alloc HU2.out.is o) 0).trans rfl; clear hR4 hb2 g1 hx)
              | (go_at_call 87; refine (named_any k (w0.heap.size + 1) An cn nm f2 _ _ (blk_alloc HU2.out.nmb _) (Kd.C_alloc (Kd.C_below HN.out HU2.out.below) _) HCN.out HI.out).mono ?_; rintro e w5 ⟨rfl, m5, hw5⟩; have HU5 := Aside0.mk (show UI w0 w5 A An cn nm (.slice Au o.length cu) o from HU2.out.step (by rw [hw5]; exact pw_below_drewN (below_alloc (Below.refl _ _) _) _)); have HB5 := Aside0.mk (show Below w2.heap.size w2 w5 from by rw [hw5]; exact pw_below_drewN (below_alloc (Below.refl _ _) _) _); clear hw5 q4 q2; have q4 : w5.cell? ⟨w0.heap.size + 4, 0, none⟩ = some (.func (.func 62) #[] #[.pointer (some ⟨w0.heap.size, 0, none⟩), .pointer (some ⟨w0.heap.size + 2, 0, none⟩), .pointer (some ⟨w0.heap.size + 3, 0, none⟩), .pointer (some ⟨w0.heap.size + 4, 0, none⟩)]) := (blk_cell HU5.out.ea 0).trans rfl; have q3 : w5.cell? ⟨w0.heap.size + 3, 0, none⟩ = some (.slice Au o.length cu) := (blk_cell HU5.out.outb 0).trans rfl)
              | (go_at_call 62; refine (IH.out cc o o2 _ _ HU5.out HST.out).mono ?_; rintro e w3 ⟨rfl, u3, hu3, hk3, ho3⟩; have HU3 := Aside0.mk hu3; have HK3 := Aside0.mk hk3; have HO3 := Aside0.mk ho3; clear hu3 hk3 ho3))
            have hc := keep_close HKo.out HOo.out (KeepBut.of_below (below_step HB2.out HB5.out) _ _) HK3.out HO3.out
            go_roundg gk
            case measure => omega
            case rel => exact ⟨m + 1, o2, u3, by go_num, ⟨by have := HM.out; omega⟩, HRE, HU3, ⟨hc.1⟩, ⟨hc.2⟩⟩
          | true =>
            rw [if_pos rfl] at hst
            by_cases ho : o.length < 17592186044415
            case neg => rw [if_neg ho] at hst; cases hst
            rw [if_pos ho] at hst
            have HST := Aside0.mk hst
            have HO := Aside0.mk ho
            clear hst ho
            obtain ⟨i0, hi, hz0, hz1, hz2⟩ := info_parts info3z
            go_wp2_with (first
              | (go_at_call 29; refine (dom_Tree_Get.calls A l0.length l0 cc _ _ _ _ _ _ _ (Kd.C_below HT.out HUo.out.below) ⟨Nat.le_refl _, HA.out⟩ HG.out).mono ?_; rintro e w2 ⟨v4, rfl, hR4, hb2⟩; obtain ⟨A4, c4, e4⟩ := Kd.R_slice hR4; subst e4; have HU2 := Aside0.mk (HUo.out.step hb2); have HB2 := Aside0.mk hb2; have q4 : ∀ o, (w2.alloc o).cell? ⟨w0.heap.size + 4, 0, none⟩ = some (.func (.func 62) #[] #[.pointer (some ⟨w0.heap.size, 0, none⟩), .pointer (some ⟨w0.heap.size + 2, 0, none⟩), .pointer (some ⟨w0.heap.size + 3, 0, none⟩), .pointer (some ⟨w0.heap.size + 4, 0, none⟩)]) := fun o => (blk_cell (blk_alloc HU2.out.ea o) 0).trans rfl; have q2 : ∀ o, (w2.alloc o).cell? ⟨w0.heap.size + 2, 0, none⟩ = some (.func (.func 87) #[] #[.pointer (some ⟨w0.heap.size + 1, 0, none⟩)]) := fun o => (blk_cell (blk_alloc HU2.out.is o) 0).trans rfl; clear hR4 hb2 g1 hx)
              | (go_at_call 87; refine (named_any k (w0.heap.size + 1) An cn nm f2 _ _ (blk_alloc HU2.out.nmb _) (Kd.C_alloc (Kd.C_below HN.out HU2.out.below) _) HCN.out HI.out).mono ?_; rintro e w5 ⟨rfl, m5, hw5⟩; have HU5 := Aside0.mk (show UI w0 w5 A An cn nm (.slice Au o.length cu) o from HU2.out.step (by rw [hw5]; exact pw_below_drewN (below_alloc (Below.refl _ _) _) _)); have HB5 := Aside0.mk (show Below w2.heap.size w2 w5 from by rw [hw5]; exact pw_below_drewN (below_alloc (Below.refl _ _) _) _); clear hw5 q4 q2; have q4 : w5.cell? ⟨w0.heap.size + 4, 0, none⟩ = some (.func (.func 62) #[] #[.pointer (some ⟨w0.heap.size, 0, none⟩), .pointer (some ⟨w0.heap.size + 2, 0, none⟩), .pointer (some ⟨w0.heap.size + 3, 0, none⟩), .pointer (some ⟨w0.heap.size + 4, 0, none⟩)]) := (blk_cell HU5.out.ea 0).trans rfl; have q3 : w5.cell? ⟨w0.heap.size + 3, 0, none⟩ = some (.slice Au o.length cu) := (blk_cell HU5.out.outb 0).trans rfl)
              | (at_builtin; refine wpList_append_own_at _ rfl _ _ 30 rfl (w0.heap.size + 5) 3 i0 (.int .i64 0) 1 8 Tryz.underlying30 hi hz0 hz1 hz2 rfl (by decide) _ _ _ rfl (HU5.out.own.alloc _) ⟨w5.heap.size, 0, none⟩ 1 1 [.int .i64 cc] rfl rfl (cell_one_new _ _ _) (by simp [Value.oneCell']) (by have := HO.out; unfold maxLen; omega) (by have := HO.out; omega) (by have := HU5.out.lt; simp; omega) ?_; intro v6 w6 hown hgrow hnil hloc; obtain ⟨A6, c6, e6⟩ := own_slice hown; subst e6; have ha := UI.app HU5.out hown hgrow hloc; have HUA := Aside0.mk ha.1; have HKA := Aside0.mk ha.2.1; have HOA := Aside0.mk ha.2.2; have hob : w6.heap[w0.heap.size + 3]? = some (.cells #[.slice Au o.length cu] 30 (0, 0)) := blk_grown (blk_alloc HU5.out.outb _) hgrow (fun e => by have := (own_base HU5.out.own _ e.symm).1; omega); have z3 := (blk_cell hob 0).trans rfl; have y3 := blk_frozen hob 0; have q7 := (blk_cell ha.1.ea 0).trans rfl; clear ha hown hgrow hnil hloc hob q3 q4)
              | (go_at_call 62; refine (IH.out cc (o ++ [cc]) o2 _ _ HUA.out HST.out).mono ?_; rintro e w3 ⟨rfl, u3, hu3, hk3, ho3⟩; have HU3 := Aside0.mk hu3; have HK3 := Aside0.mk hk3; have HO3 := Aside0.mk ho3; clear hu3 hk3 ho3))
            have hc0 := keep_close HKo.out HOo.out (KeepBut.of_below (below_step HB2.out HB5.out) _ _) HKA.out HOA.out
            have hc := keep_close hc0.1 hc0.2 (KeepBut.refl _ _ _) HK3.out HO3.out
            go_roundg gk
            case measure => omega
            case rel => exact ⟨m + 1, o2, u3, by go_num, ⟨by have := HM.out; omega⟩, HRE, HU3, ⟨hc.1⟩, ⟨hc.2⟩⟩
        · rw [if_neg hk] at hst
          have hkb : (f0 == 2) = false := beq_eq_false_iff_ne.mpr hk
          have HST := Aside0.mk hst
          clear hst hk
          go_wp2_with (first
            | (go_at_call 29; refine (dom_Tree_Get.calls A l0.length l0 cc _ _ _ _ _ _ _ (Kd.C_below HT.out HUo.out.below) ⟨Nat.le_refl _, HA.out⟩ HG.out).mono ?_; rintro e w2 ⟨v4, rfl, hR4, hb2⟩; obtain ⟨A4, c4, e4⟩ := Kd.R_slice hR4; subst e4; have HU2 := Aside0.mk (HUo.out.step hb2); have HB2 := Aside0.mk hb2; have q4 : ∀ o, (w2.alloc o).cell? ⟨w0.heap.size + 4, 0, none⟩ = some (.func (.func 62) #[] #[.pointer (some ⟨w0.heap.size, 0, none⟩), .pointer (some ⟨w0.heap.size + 2, 0, none⟩), .pointer (some ⟨w0.heap.size + 3, 0, none⟩), .pointer (some ⟨w0.heap.size + 4, 0, none⟩)]) := fun o => (blk_cell (blk_alloc HU2.out.ea o) 0).trans rfl; clear hR4 hb2 g1 hx)
            | (go_at_call 62; refine (IH.out cc o o2 u _ (HU2.out.step (below_alloc (Below.refl _ _) _)) HST.out).mono ?_; rintro e w3 ⟨rfl, u3, hu3, hk3, ho3⟩; have HU3 := Aside0.mk hu3; have HK3 := Aside0.mk hk3; have HO3 := Aside0.mk ho3; clear hu3 hk3 ho3))
          have hc := keep_close HKo.out HOo.out (KeepBut.of_below (below_step HB2.out (below_alloc (Below.refl _ _) _)) _ _) HK3.out HO3.out
          go_roundg gk
          case measure => omega
          case rel => exact ⟨m + 1, o2, u3, by go_num, ⟨by have := HM.out; omega⟩, HRE, HU3, ⟨hc.1⟩, ⟨hc.2⟩⟩
end Go.Proofs.YtomdidopflebjaaGreatDoor.PM
namespace Go.Proofs.YtomdidopflebjaaGreatDoor.PM
open Go.RowKit Go.Proofs.YtomdidopflebjaaGreatDoorW.PrintWords Go.Proofs.YtomdidopflebjaaGreatDoorW.PrintLast Go.Proofs.YtomdidopflebjaaGreatDoorW.PrintMore
set_option maxHeartbeats 1000000 in
theorem named_made (A : Option Addr) (n c : Nat) (w : World) : Calls Tryz.prog 61 #[.slice A n c] w fun e w' => e = .returned (.func (.func 87) #[] #[.pointer (some ⟨w.heap.size, 0, none⟩)]) ∧ w' = w.alloc (.cells #[.slice A n c] 83) := by
  have hmf : ∀ (fn : Fn) (first cap : Array Value) (w : World), (Instr.makeFunc fn first cap).run Tryz.prog w = .ok (.func fn first cap) w := fun _ _ _ _ => rfl
  go_enter Tryz.func61, Tryz.ntmps61
  go_wp2
  go_ret
  exact ⟨rfl, rfl⟩
def w5 (w : World) (A0 A2 : Option Addr) (n2 c2 : Nat) : World :=
  (((((w.alloc (.cells #[.pointer A0] 24)).alloc (.cells #[.slice A2 n2 c2] 83)).alloc (.cells #[.func (.func 87) #[] #[.pointer (some ⟨w.heap.size + 1, 0, none⟩)]] 124)).alloc (.cells #[.slice none 0 0] 30)).alloc (.cells #[.func (.func 62) #[] #[.pointer (some ⟨w.heap.size, 0, none⟩), .pointer (some ⟨w.heap.size + 2, 0, none⟩), .pointer (some ⟨w.heap.size + 3, 0, none⟩), .pointer (some ⟨w.heap.size + 4, 0, none⟩)]] 117))
theorem ui_start (w : World) (A0 A2 : Option Addr) (c2 : Nat) (l2 : List ByteArray) : UI w (w5 w A0 A2 l2.length c2) A0 A2 c2 l2 (.slice none 0 0) [] where
  below := below_alloc (below_alloc (below_alloc (below_alloc (below_alloc (Below.refl _ _) _) _) _) _) _
  t := blk_alloc (blk_alloc (blk_alloc (blk_alloc (blk_new _ _) _) _) _) _
  nmb := blk_alloc (blk_alloc (blk_alloc (by have := blk_new (w.alloc (.cells #[.pointer A0] 24)) (.cells #[.slice A2 l2.length c2] 83); simpa using this) _) _) _
  is := blk_alloc (blk_alloc (by have := blk_new ((w.alloc (.cells #[.pointer A0] 24)).alloc (.cells #[.slice A2 l2.length c2] 83)) (.cells #[.func (.func 87) #[] #[.pointer (some ⟨w.heap.size + 1, 0, none⟩)]] 124); simpa using this) _) _
  outb := blk_alloc (by have := blk_new (((w.alloc (.cells #[.pointer A0] 24)).alloc (.cells #[.slice A2 l2.length c2] 83)).alloc (.cells #[.func (.func 87) #[] #[.pointer (some ⟨w.heap.size + 1, 0, none⟩)]] 124)) (.cells #[.slice none 0 0] 30); simpa using this) _
  ea := by
    have e : ((((w.alloc (.cells #[.pointer A0] 24)).alloc (.cells #[.slice A2 l2.length c2] 83)).alloc (.cells #[.func (.func 87) #[] #[.pointer (some ⟨w.heap.size + 1, 0, none⟩)]] 124)).alloc (.cells #[.slice none 0 0] 30)).heap.size = w.heap.size + 4 := by simp
    have h : (w5 w A0 A2 l2.length c2).heap[((((w.alloc (.cells #[.pointer A0] 24)).alloc (.cells #[.slice A2 l2.length c2] 83)).alloc (.cells #[.func (.func 87) #[] #[.pointer (some ⟨w.heap.size + 1, 0, none⟩)]] 124)).alloc (.cells #[.slice none 0 0] 30)).heap.size]? = some _ := blk_new _ _
    rw [e] at h
    exact h
  own := ⟨rfl, .inl ⟨rfl, rfl⟩⟩
theorem R_ints {w : World} {base : Nat} {v : Value} {out : List Int} (h : w.ownsRow base 3 1 v out.length (ints out)) : Kd.R (Kd.int .i64) 3 w base (fun _ => True) v out :=
  ⟨fun _ _ => trivial, ints out, h, by
    refine ⟨by rw [ints, List.length_map]; exact (Nat.mul_one _).symm, fun j x hx => ?_⟩
    show (Kd.int .i64).M _ _ _ x (((ints out).drop (j * 1)).take 1)
    have e : ((ints out).drop (j * 1)).take 1 = [.int .i64 x] := by
      obtain ⟨hj, rfl⟩ := List.getElem?_eq_some_iff.1 hx
      have hj' : j < (ints out).length := by simpa [ints] using hj
      rw [Nat.mul_one, List.drop_eq_getElem_cons hj']
      simp [ints]
    rw [e]
    exact rfl⟩
def query_Under.f (k : Nat) (l0 : List S113) (a1 : Int) (l2 : List ByteArray) : Option (List Int) := query_each k l0 l2 a1 []
set_option maxHeartbeats 4000000 in
set_option maxRecDepth 100000 in
theorem query_Under.calls (k : Nat) (A0 : Option Addr) (c0 : Nat) (l0 : List S113) (a1 : Int) (A2 : Option Addr) (c2 : Nat) (l2 : List ByteArray) (r : List Int) (w : World) (hr0 : Kd.C k113 w A0 l0.length l0) (hc0 : l0.length ≤ c0 ∧ (l0 = [] → A0 = none)) (hr2 : Kd.C Kd.string w A2 l2.length l2) (hc2 : l2.length ≤ c2) (h : query_Under.f k l0 a1 l2 = some r) :
    Calls Tryz.prog 28 #[.pointer A0, .int .i64 a1, .slice A2 l2.length c2] w fun e w' => ∃ v0_ : Value, e = .returned v0_ ∧ Kd.R (Kd.int .i64) 3 w' w.heap.size (fun _ => True) v0_ r ∧ Below w.heap.size w w' := by
  have HE := Aside0.mk (each_any w A0 A2 c2 l0 l2 hr0 hc0.2 hr2 hc2 k a1 [] r (.slice none 0 0))
  have hmf : ∀ (fn : Fn) (first cap : Array Value) (w : World), (Instr.makeFunc fn first cap).run Tryz.prog w = .ok (.func fn first cap) w := fun _ _ _ _ => rfl
  have HH := Aside0.mk h
  clear h hr0 hc0 hr2 hc2
  go_enter Tryz.func28, Tryz.ntmps28
  go_wp2_with (first
    | (go_at_call 61; refine (named_made _ _ _ _).mono ?_; rintro e w' ⟨rfl, rfl⟩)
    | (go_at_call 62; refine (HE.out (w5 w A0 A2 l2.length c2) (ui_start w A0 A2 c2 l2) HH.out).mono ?_; rintro e w3 ⟨rfl, u3, hu3, _, _⟩; obtain ⟨A3, c3, e3⟩ := own_slice hu3.own; subst e3; have q3 := (blk_cell hu3.outb 0).trans rfl; have HU3 := Aside0.mk hu3; clear hu3))
  go_ret
  exact ⟨_, rfl, Kd.R_lower (R_ints HU3.out.own) (by omega), HU3.out.below⟩
theorem LeO.foldlM {α β : Type} {f g : β → α → Option β} (h : ∀ b a, LeO (f b a) (g b a)) : ∀ (l : List α) (b : β), LeO (l.foldlM f b) (l.foldlM g b)
  | [], b => LeO.refl _
  | a :: l, b => by
    rw [List.foldlM_cons, List.foldlM_cons]
    exact LeO.bind (h b a) (fun b' => LeO.foldlM h l b')
theorem query_is.mono (k : Nat) (names : List ByteArray) (s : ByteArray) : LeO (query_is k names s) (query_is (k + 1) names s) := by
  unfold query_is
  exact LeO.ite (LeO.refl _) (slices_Contains_string_string.mono _ _ _)
theorem query_each.mono : ∀ (k : Nat) (l0 : List S113) (names : List ByteArray) (n : Int) (out : List Int), LeO (query_each k l0 names n out) (query_each (k + 1) l0 names n out)
  | 0, _, _, _, _ => fun r h => by simp [query_each] at h
  | k + 1, l0, names, n, out => by
    rw [query_each, query_each]
    refine LeO.bind (dom_Tree_Kids.mono _ _ _) (fun kids => LeO.foldlM (fun b a => ?_) _ _)
    unfold query_step
    refine LeO.bind (LeO.refl _) (fun g => LeO.ite (LeO.bind (query_is.mono _ _ _) (fun b => LeO.ite (LeO.ite (query_each.mono k _ _ _ _) (LeO.none _)) (query_each.mono k _ _ _ _))) (query_each.mono k _ _ _ _))
theorem query_Under.mono : ∀ a0 a1 a2 k, LeO (query_Under.f k a0 a1 a2) (query_Under.f (k + 1) a0 a1 a2) := fun _ _ _ k => query_each.mono k _ _ _ _
end Go.Proofs.YtomdidopflebjaaGreatDoor.PM
namespace Go.Proofs.YtomdidopflebjaaGreatDoor.Bld
open Go.RowKit
theorem size86 : (Tryz.prog.info? 86).map (·.size) = some 2 := by kernel_rfl
theorem lies86 : liesAt Tryz.prog Tryz.prog.depth 86 (2 / Tryz.prog.cellsOf 86) 0 86 1 = true := by kernel_rfl
theorem infoByte : (Tryz.prog.info? 5).map (fun i => (i.zero, i.size, i.bytes)) = some (some (.int .u8 0), 1, 1) := by kernel_rfl
theorem check_used (b : Nat) (w : World) (h0 : w.cell? ⟨b, 0, none⟩ = some (.pointer (some ⟨b, 0, none⟩))) :
    Calls Tryz.prog 69 #[.pointer (some ⟨b, 0, none⟩)] w fun e w' => e = .returned (.tuple #[]) ∧ w' = w := by
  obtain ⟨j, hj, _⟩ := Option.map_eq_some_iff.1 size86
  have hn := Lib.run_neq_ptr_same (P := Tryz.prog) (w := w) ⟨b, 0, none⟩ Tryz.underlying84 hj
  go_enter Tryz.func69, Tryz.ntmps69
  go_wp2
  go_end0
  exact ⟨rfl, rfl⟩
set_option maxHeartbeats 4000000 in
set_option maxRecDepth 100000 in
theorem check_fresh (b : Nat) (w : World) (h0 : w.cell? ⟨b, 0, none⟩ = some (.pointer none)) (hsh : w.shape? b = some (86, 2)) (hfz : w.frozen? ⟨b, 0, none⟩ = false) :
    Calls Tryz.prog 69 #[.pointer (some ⟨b, 0, none⟩)] w fun e w' => e = .returned (.tuple #[]) ∧ w' = w.setCell ⟨b, 0, none⟩ (.pointer (some ⟨b, 0, none⟩)) := by
  obtain ⟨j, hj, hjs⟩ := Option.map_eq_some_iff.1 size86
  go_enter Tryz.func69, Tryz.ntmps69
  go_wp2
  rw [Lib.run_to_unsafe w ⟨b, 0, none⟩ Tryz.underlying84 Tryz.underlying148 hj (by rw [hjs]; decide) hsh (Nat.zero_lt_succ 1)]
  simp only [Result.andThen]
  rw [Oper.upon_value]
  go_wp2
  rw [run_callFunc_extern Tryz.func89 (by kernel_rfl) (by kernel_rfl) (by kernel_rfl) (e := Extern.AbiNoEscape.same) (by kernel_rfl)]
  rw [Lib.run_noEscape]
  simp only [Result.andThen]
  rw [Oper.upon_value]
  go_wp2
  rw [Lib.run_from_unsafe w ⟨b, 0, none⟩ Tryz.underlying148 Tryz.underlying84 hj hsh lies86]
  simp only [Result.andThen]
  rw [Oper.upon_value]
  go_wp2
  go_end0
  exact ⟨rfl, rfl⟩
theorem check (B b : Nat) (bs : List Value) (w : World) (h : Lib.IsBuilderF 86 5 B b bs w) :
    Calls Tryz.prog 69 #[.pointer (some ⟨b, 0, none⟩)] w fun e w' => e = .returned (.tuple #[]) ∧ (Lib.BuilderAtF 86 5 B b (.pointer (some ⟨b, 0, none⟩)) bs w' ∧ Below B w w' ∧ Lib.OthersKept 5 (some b) w w') := by
  rcases h with h | h
  · refine (check_fresh b w h.cell0 h.shape h.frozen0).mono ?_
    rintro e w' ⟨rfl, rfl⟩
    exact ⟨rfl, h.used _, (Below.refl B w).setCell (p := ⟨b, 0, none⟩) h.1 _, (Lib.OthersKept.refl _ _ w).setCell ⟨b, 0, none⟩ rfl _⟩
  · refine (check_used b w h.cell0).mono ?_
    rintro e w' ⟨rfl, rfl⟩
    exact ⟨rfl, h, Below.refl B _, Lib.OthersKept.refl _ _ _⟩
set_option maxHeartbeats 2000000 in
set_option maxRecDepth 100000 in
theorem writeByte (B b : Nat) (bs : List Value) (c : Int) (w : World) (h : Lib.IsBuilderF 86 5 B b bs w) (hlen : bs.length + 1 ≤ 140737488355328) (hBw : B ≤ w.heap.size) :
    Calls Tryz.prog 76 #[.pointer (some ⟨b, 0, none⟩), .int .u8 c] w fun e w' => e = .returned .nilIface ∧ (Lib.IsBuilderF 86 5 B b (bs ++ [.int .u8 c]) w' ∧ Below B w w' ∧ Lib.OthersKept 5 (some b) w w') := by
  obtain ⟨i0, hi, hz0, hz1, hz2⟩ := info_parts infoByte
  go_enter Tryz.func76, Tryz.ntmps76
  go_wp2_with (go_at_call 69; refine (check B b bs _ h).mono ?_)
  rintro e w1 ⟨rfl, h1, hb1, hk1⟩
  obtain ⟨hB, v, hbk, hown, hne⟩ := h1
  have c0 : w1.cell? ⟨b, 0, none⟩ = some (.pointer (some ⟨b, 0, none⟩)) := by rw [Lib.cell_of_heap hbk]; rfl
  have c1 : w1.cell? ⟨b, 1, none⟩ = some v := by rw [Lib.cell_of_heap hbk]; rfl
  go_wp2_with (at_builtin; refine wpList_append_ownF _ rfl _ _ 51 rfl B 5 i0 (.int .u8 0) 1 1 Tryz.underlying51 hi hz0 hz1 hz2 rfl (by decide) _ _ _ rfl (hown.alloc _) ⟨w1.heap.size, 0, none⟩ 1 1 [.int .u8 c] rfl rfl ?c1 ?c2 ?c3 ?c4 ?c5 ?_)
  case c1 =>
    intro j u hj
    match j, hj with
    | 0, hj => simp at hj; subst hj; simp [Addr.add]
  case c2 => intro u hu; simp at hu; subst hu; rfl
  case c3 => unfold maxLen; omega
  case c4 => omega
  case c5 => have := hb1.size; simp; omega
  intro v' w2 hown' hgrow _
  have hlt : b < w1.heap.size := (Array.getElem?_eq_some_iff.1 hbk).1
  have hb2 : w2.heap[b]? = some (.cells #[.pointer (some ⟨b, 0, none⟩), v] 86 (0, 0)) := by
    rw [hgrow.block b (by simp; omega) (fun e => hne e.symm), Lib.alloc_old w1 _ b hlt]
    exact hbk
  have d0 : w2.cell? ⟨b, 0, none⟩ = some (.pointer (some ⟨b, 0, none⟩)) := by rw [Lib.cell_of_heap hb2]; rfl
  have d1 : w2.cell? ⟨b, 1, none⟩ = some v := by rw [Lib.cell_of_heap hb2]; rfl
  have f1 : w2.frozen? ⟨b, 1, none⟩ = false := Lib.frozen_of_heap hb2 1
  obtain ⟨g, cap, rfl⟩ : ∃ g cap, v' = .slice (some ⟨g, 0, none⟩) (bs.length + 1) cap := by
    rcases hown'.2 with ⟨_, h0⟩ | ⟨g, cap, cur, fz, hv, _⟩
    · omega
    · exact ⟨g, cap, hv⟩
  go_wp2
  go_ret
  refine ⟨rfl, .inr ?_, ?_, ((hk1.alloc _).grown hgrow (Lib.ownsRowF_kind (hown.alloc _))).setCell ⟨b, 1, none⟩ rfl _⟩
  · exact Lib.BuilderAtF.put (T := 86) (e := 5) hB hb2 (bs' := bs ++ [.int .u8 c]) (by simpa using hown') (by decide)
  · exact ((hb1.alloc (by have := hb1.size; omega) _).grown hgrow (by have := hb1.size; simp; omega) (fun k hk => (hown.lt k hk).1)).setCell (p := ⟨b, 1, none⟩) hB _
set_option maxHeartbeats 2000000 in
set_option maxRecDepth 100000 in
theorem writeString (B b : Nat) (bs : List Value) (s : ByteArray) (w : World) (h : Lib.IsBuilderF 86 5 B b bs w) (hlen : bs.length + s.size ≤ 140737488355328) (hBw : B ≤ w.heap.size) :
    Calls Tryz.prog 34 #[.pointer (some ⟨b, 0, none⟩), .string s] w fun e w' => e = .returned (.tuple #[.int .i64 s.size, .nilIface]) ∧ (Lib.IsBuilderF 86 5 B b (bs ++ Lib.strCells s) w' ∧ Below B w w' ∧ Lib.OthersKept 5 (some b) w w') := by
  obtain ⟨i0, hi, hz0, hz1, hz2⟩ := info_parts infoByte
  go_enter Tryz.func34, Tryz.ntmps34
  go_wp2_with (go_at_call 69; refine (check B b bs _ h).mono ?_)
  rintro e w1 ⟨rfl, h1, hb1, hk1⟩
  obtain ⟨hB, v, hbk, hown, hne⟩ := h1
  have c0 : w1.cell? ⟨b, 0, none⟩ = some (.pointer (some ⟨b, 0, none⟩)) := by rw [Lib.cell_of_heap hbk]; rfl
  have c1 : w1.cell? ⟨b, 1, none⟩ = some v := by rw [Lib.cell_of_heap hbk]; rfl
  go_wp2_with (at_builtin; refine Lib.wpList_append_own_stringF _ rfl _ _ 51 9 rfl B 5 i0 Tryz.underlying51 Tryz.underlying9 hi hz0 hz1 hz2 _ _ _ rfl hown s rfl ?c3 ?c4 ?c5 ?_)
  case c3 => unfold maxLen; omega
  case c4 => omega
  case c5 => have := hb1.size; omega
  intro v' w2 hown' hgrow _
  have hlt : b < w1.heap.size := (Array.getElem?_eq_some_iff.1 hbk).1
  have hb2 : w2.heap[b]? = some (.cells #[.pointer (some ⟨b, 0, none⟩), v] 86 (0, 0)) := by
    rw [hgrow.block b hlt (fun e => hne e.symm)]
    exact hbk
  have d0 : w2.cell? ⟨b, 0, none⟩ = some (.pointer (some ⟨b, 0, none⟩)) := by rw [Lib.cell_of_heap hb2]; rfl
  have d1 : w2.cell? ⟨b, 1, none⟩ = some v := by rw [Lib.cell_of_heap hb2]; rfl
  have f1 : w2.frozen? ⟨b, 1, none⟩ = false := Lib.frozen_of_heap hb2 1
  obtain ⟨ao, n', cap, rfl⟩ : ∃ ao n' cap, v' = .slice ao n' cap := by
    rcases hown'.2 with ⟨hv, _⟩ | ⟨g, cap, cur, fz, hv, _⟩
    · exact ⟨_, _, _, hv⟩
    · exact ⟨_, _, _, hv⟩
  go_wp2
  go_ret2
  refine ⟨rfl, .inr ?_, ?_, (hk1.grown hgrow (Lib.ownsRowF_kind hown)).setCell ⟨b, 1, none⟩ rfl _⟩
  · exact Lib.BuilderAtF.put (T := 86) (e := 5) hB hb2 (bs' := bs ++ Lib.strCells s) (by simpa [Lib.strCells_length] using hown') (by decide)
  · exact (hb1.grown hgrow (by have := hb1.size; omega) (fun k hk => (hown.lt k hk).1)).setCell (p := ⟨b, 1, none⟩) hB _
/-- A builder stays one where all that was there is kept. -/
theorem isB_below {B b : Nat} {bs : List Value} {w w' : World} (h : Lib.IsBuilderF 86 5 B b bs w) (hb : Below w.heap.size w w') : Lib.IsBuilderF 86 5 B b bs w' := by
  have one : ∀ {p : Value}, Lib.BuilderAtF 86 5 B b p bs w → Lib.BuilderAtF 86 5 B b p bs w' := by
    rintro p ⟨hB, v, hbk, hown, hne⟩
    refine ⟨hB, v, (hb.block b (Array.getElem?_eq_some_iff.1 hbk).1).trans hbk, hown.kept (row := none) ⟨hb.os, hb.tape, hb.output, hb.size, fun i hi _ => hb.block i hi⟩ ?_, hne⟩
    cases v.ownBlock with
    | none => exact .inl rfl
    | some k => exact .inr (by simp)
  exact h.elim (fun x => .inl (one x)) (fun x => .inr (one x))
end Go.Proofs.YtomdidopflebjaaGreatDoor.Bld
namespace Go.Proofs.YtomdidopflebjaaGreatDoor.PM
open Go.RowKit Go.Proofs.YtomdidopflebjaaGreatDoorW.PrintWords Go.Proofs.YtomdidopflebjaaGreatDoorW.PrintLast Go.Proofs.YtomdidopflebjaaGreatDoorW.PrintMore
def text_step (text : Int → Option ByteArray) (acc : List UInt8) (c : Int) : Option (List UInt8) :=
  (text c).bind fun s => if acc.length + s.size ≤ 140737488355328 then some (acc ++ s.data.toList) else none
def query_Text.f : Nat → List S113 → Int → Option ByteArray
  | 0, _, _ => none
  | k + 1, l0, n => (dom_Tree_Get.f l0 n).bind fun g => if g.2.2.2.2.2 = true then (if g.1 = 3 then some g.2.2.2.1 else (dom_Tree_Kids.f k l0 n).bind fun kids => (kids.foldlM (text_step (query_Text.f k l0)) []).bind fun l => some ⟨l.toArray⟩) else some ⟨#[]⟩
theorem query_Text.mono_ : ∀ (k : Nat) (l0 : List S113) (n : Int), LeO (query_Text.f k l0 n) (query_Text.f (k + 1) l0 n)
  | 0, _, _ => fun r h => by simp [query_Text.f] at h
  | k + 1, l0, n => by
    rw [query_Text.f, query_Text.f]
    refine LeO.bind (LeO.refl _) (fun g => LeO.ite (LeO.ite (LeO.refl _) (LeO.bind (dom_Tree_Kids.mono _ _ _) (fun kids => LeO.bind (LeO.foldlM (fun b a => ?_) _ _) (fun _ => LeO.refl _)))) (LeO.refl _))
    unfold text_step
    exact LeO.bind (query_Text.mono_ k _ _) (fun s => LeO.refl _)
theorem query_Text.mono : ∀ a0 a1 k, LeO (query_Text.f k a0 a1) (query_Text.f (k + 1) a0 a1) := fun a0 a1 k => query_Text.mono_ k a0 a1
theorem isB_blk {B b : Nat} {bs : List Value} {w : World} (h : Lib.IsBuilderF 86 5 B b bs w) : ∃ cs, w.heap[b]? = some (.cells cs 86 (0, 0)) := by
  rcases h with ⟨_, v, hb, _⟩ | ⟨_, v, hb, _⟩
  · exact ⟨_, hb⟩
  · exact ⟨_, hb⟩
/-- A row of numbers beside a builder. -/
theorem ints_others {w w' : World} {base b : Nat} {v : Value} {xs : List Int} {cs : Array Value} (h : Kd.R (Kd.int .i64) 3 w base (fun _ => True) v xs) (hb : w.heap[b]? = some (.cells cs 86 (0, 0))) (hk : Lib.OthersKept 5 (some b) w w') : Kd.R (Kd.int .i64) 3 w' base (fun _ => True) v xs := by
  refine Kd.R_mono (Kd.R_step (Kd.R_bound h) (fun k hk1 hk2 => ?_)) (fun _ _ => trivial)
  obtain ⟨_, _, _, q, hq, cells, hc⟩ := hk1
  obtain rfl : q = 3 := by simpa [Kd.int, Kd.scalar] using hq
  rw [hc]
  refine hk k _ hc (fun e => ?_) (fun c fz e => ?_)
  · injection e with e
    subst e
    rw [hc] at hb
    injection hb with hb
    injection hb with _ hb
    exact absurd hb (by decide)
  · injection e with _ e
    exact absurd e (by decide)
theorem bytes_str (l : List UInt8) (s : ByteArray) : Lib.byteCells l ++ Lib.strCells s = Lib.byteCells (l ++ s.data.toList) := by simp [Lib.byteCells, Lib.strCells]
theorem ret_str' {a b : ByteArray} (h : a = b) : Ending.returned (.string a) = .returned (.string b) := by rw [h]
set_option maxHeartbeats 8000000 in
set_option maxRecDepth 100000 in
theorem text_any : ∀ (k : Nat) (A0 : Option Addr) (c0 : Nat) (l0 : List S113) (a1 : Int) (r : ByteArray) (w : World) (_ : Kd.C k113 w A0 l0.length l0) (_ : l0.length ≤ c0 ∧ (l0 = [] → A0 = none)) (_ : query_Text.f k l0 a1 = some r),
    Calls Tryz.prog 31 #[.pointer A0, .int .i64 a1] w fun e w' => e = .returned (.string r) ∧ Below w.heap.size w w' := by
  intro k
  induction k with
  | zero => intro A0 c0 l0 a1 r w _ _ h; exact absurd h (by simp [query_Text.f])
  | succ k ih =>
    intro A0 c0 l0 a1 r w hr0 hc0 h
    unfold query_Text.f at h
    obtain ⟨g, hg, h⟩ := Option.bind_eq_some_iff.mp h
    obtain ⟨f0, f1, f2, f3, f4, f5⟩ := g
    simp only at h
    have HT := Aside0.mk hr0
    have HA := Aside0.mk hc0.2
    have HG := Aside0.mk hg
    have IH := Aside0.mk ih
    clear hr0 hc0 hg ih
    cases f5 with
    | false =>
      rw [if_neg Bool.false_ne_true] at h
      obtain rfl := Option.some.inj h
      clear h
      go_enter Tryz.func31, Tryz.ntmps31
      go_wp2_with (go_at_call 29; refine (dom_Tree_Get.calls A0 l0.length l0 a1 _ _ _ _ _ _ _ HT.out ⟨Nat.le_refl _, HA.out⟩ HG.out).mono ?_; rintro e w2 ⟨v4, rfl, hR4, hb2⟩; obtain ⟨A4, c4, e4⟩ := Kd.R_slice hR4; subst e4; have HB2 := Aside0.mk hb2; clear hR4 hb2)
      go_ret
      exact ⟨rfl, below_alloc HB2.out _⟩
    | true =>
      rw [if_pos rfl] at h
      by_cases hk : f0 = 3
      · subst hk
        rw [if_pos rfl] at h
        obtain rfl := Option.some.inj h
        clear h
        go_enter Tryz.func31, Tryz.ntmps31
        go_wp2_with (go_at_call 29; refine (dom_Tree_Get.calls A0 l0.length l0 a1 _ _ _ _ _ _ _ HT.out ⟨Nat.le_refl _, HA.out⟩ HG.out).mono ?_; rintro e w2 ⟨v4, rfl, hR4, hb2⟩; obtain ⟨A4, c4, e4⟩ := Kd.R_slice hR4; subst e4; have HB2 := Aside0.mk hb2; clear hR4 hb2)
        go_ret
        exact ⟨rfl, below_alloc HB2.out _⟩
      · rw [if_neg hk] at h
        have hkb : (f0 == 3) = false := beq_eq_false_iff_ne.mpr hk
        obtain ⟨kids, hkids, h⟩ := Option.bind_eq_some_iff.mp h
        obtain ⟨L, hL, h⟩ := Option.bind_eq_some_iff.mp h
        have HKD := Aside0.mk hkids
        have HF := Aside0.mk hL
        have HR := Aside0.mk (Option.some.inj h)
        clear h hkids hL hk
        go_enter Tryz.func31, Tryz.ntmps31
        go_wp2_with (first
          | (go_at_call 29; refine (dom_Tree_Get.calls A0 l0.length l0 a1 _ _ _ _ _ _ _ HT.out ⟨Nat.le_refl _, HA.out⟩ HG.out).mono ?_; rintro e w2 ⟨v4, rfl, hR4, hb2⟩; obtain ⟨A4, c4, e4⟩ := Kd.R_slice hR4; subst e4; have HB2 := Aside0.mk hb2; clear hR4 hb2)
          | (go_at_call 63; refine (dom_Tree_Kids.calls k A0 l0.length l0 a1 kids _ (Kd.C_below HT.out (below_alloc (below_alloc HB2.out _) _)) ⟨Nat.le_refl _, HA.out⟩ HKD.out).mono ?_; rintro e w3 ⟨kv, rfl, hR, hb3⟩; obtain ⟨Ak, ck, ek⟩ := Kd.R_slice hR; subst ek; have HRK := Aside0.mk hR; have HB3 := Aside0.mk hb3; clear hR hb3))
        have hbd : Lib.IsBuilderF 86 5 (w2.heap.size + 1) (w2.heap.size + 1) (Lib.byteCells []) w3 := by
          have h0 := Lib.IsBuilderF.of (Lib.fresh_isBuilder 86 5 (w2.alloc (.cells #[.int .i64 f0, .int .i64 f1, .string f2, .string f3, .slice A4 f4.length c4] 59)))
          rw [show (w2.alloc (.cells #[.int .i64 f0, .int .i64 f1, .string f2, .string f3, .slice A4 f4.length c4] 59)).heap.size = w2.heap.size + 1 from by simp] at h0
          exact Bld.isB_below h0 HB3.out
        have hbl : Below w.heap.size w w3 := below_step (below_alloc (below_alloc HB2.out _) _) HB3.out
        have hrk := Kd.R_lower (base' := w2.heap.size) HRK.out (by simp; omega)
        have hle : w.heap.size ≤ w2.heap.size := HB2.out.size
        have HLE := Aside0.mk hle
        have hmx : kids.length ≤ 9223372036854775807 := Kd.C_max (Kd.R_reads' hrk).2.2
        clear HRK HB3 HB2 hle
        go_loopg [27] kids.length (fun kq v27 wr => ∃ (m : Nat) (acc : List UInt8), v27 = .int .i64 (m : Int) ∧ Aside0 (m + kq = kids.length) ∧ Aside0 ((kids.drop m).foldlM (text_step (query_Text.f k l0)) acc = some L) ∧ Aside0 (Lib.IsBuilderF 86 5 (w2.heap.size + 1) (w2.heap.size + 1) (Lib.byteCells acc) wr) ∧ Aside0 (Below w.heap.size w wr) ∧ Aside0 (Kd.R (Kd.int .i64) 3 wr w2.heap.size (fun _ => True) (.slice Ak kids.length ck) kids))
        case atStart => exact ⟨0, [], rfl, ⟨by omega⟩, HF, ⟨hbd⟩, ⟨hbl⟩, ⟨hrk⟩⟩
        case round =>
          clear hbd hbl hrk
          obtain ⟨m, acc, rfl, HM, HFo, HBd, HBl, HRk⟩ := hrel
          cases gk with
          | zero =>
            have hm : m = kids.length := by have := HM.out; omega
            subst hm
            go_wp2_with (go_at_call 37; refine (Tryz.Builder_String_any_k (w2.heap.size + 1) (w2.heap.size + 1) acc _ HBd.out ?s1).mono ?_; (case s1 => (obtain ⟨cs, hcs⟩ := isB_blk HBd.out; have := blk_lt hcs; omega)); rintro e w1 ⟨rfl, _, hl1_, _⟩; have HL1 := Aside0.mk (HBl.out.trans (hl1_.mono (by have := HLE.out; omega))); clear hl1_)
            go_ret
            have he : acc = L := by
              have := HFo.out
              rw [List.drop_length] at this
              exact Option.some.inj this
            refine ⟨ret_str' ?_, HL1.out⟩
            rw [he, HR.out]
          | succ gk =>
            have hlt : m < kids.length := by have := HM.out; omega
            have hf := HFo.out
            rw [List.drop_eq_getElem_cons hlt, List.foldlM_cons] at hf
            obtain ⟨acc2, hst0, hrest⟩ := Option.bind_eq_some_iff.mp hf
            unfold text_step at hst0
            obtain ⟨t, ht, hst⟩ := Option.bind_eq_some_iff.mp hst0
            by_cases hsz : acc.length + t.size ≤ 140737488355328
            case neg => rw [if_neg hsz] at hst; cases hst
            rw [if_pos hsz] at hst
            obtain rfl := Option.some.inj hst
            obtain ⟨ad, he, hx⟩ := C_int (Kd.R_reads' HRk.out).2.2 hlt
            subst he
            have HTX := Aside0.mk ht
            have HRE := Aside0.mk hrest
            have HSZ := Aside0.mk hsz
            have hd : decide ((m : Int) < (kids.length : Int)) = true := decide_eq_true (by omega)
            have hd2 : decide (m < kids.length) = true := decide_eq_true hlt
            obtain ⟨cc, hcc⟩ : ∃ cc, cc = kids[m] := ⟨_, rfl⟩
            rw [← hcc] at hx HTX
            clear hst hst0 hf hrest HFo ht hsz hcc
            go_wp2_with (first
              | (go_at_call 31; refine (IH.out A0 l0.length l0 cc t _ (Kd.C_below HT.out HBl.out) ⟨Nat.le_refl _, HA.out⟩ HTX.out).mono ?_; rintro e w4 ⟨rfl, hb4⟩; have HB4 := Aside0.mk hb4; have HBd4 := Aside0.mk (Bld.isB_below HBd.out hb4); clear hb4 hx)
              | (go_at_call 34; refine (Bld.writeString (w2.heap.size + 1) (w2.heap.size + 1) _ t _ HBd4.out ?s3 ?s4).mono ?_; (case s3 => (have := HSZ.out; rw [Lib.byteCells_length]; omega)); (case s4 => (obtain ⟨cs, hcs⟩ := isB_blk HBd4.out; have := blk_lt hcs; omega)); rintro e w5 ⟨rfl, hb5, hl5, ho5⟩; have HB5 := Aside0.mk hb5; have HL5 := Aside0.mk hl5; have HO5 := Aside0.mk ho5; clear hb5 hl5 ho5))
            go_roundg gk
            case measure => omega
            case rel =>
              refine ⟨m + 1, acc ++ t.data.toList, by go_num, ⟨by have := HM.out; omega⟩, HRE, ⟨by rw [← bytes_str]; exact HB5.out⟩, ⟨?_⟩, ⟨?_⟩⟩
              · exact (below_step HBl.out HB4.out).trans (HL5.out.mono (by have := HLE.out; omega))
              · obtain ⟨cs, hcs⟩ := isB_blk HBd4.out
                exact ints_others (Kd.R_step HRk.out (fun k' _ hk => HB4.out.block k' hk)) hcs HO5.out
theorem query_Text.calls (k : Nat) (A0 : Option Addr) (c0 : Nat) (l0 : List S113) (a1 : Int) (r : ByteArray) (w : World) (hr0 : Kd.C k113 w A0 l0.length l0) (hc0 : l0.length ≤ c0 ∧ (l0 = [] → A0 = none)) (h : query_Text.f k l0 a1 = some r) :
    Calls Tryz.prog 31 #[.pointer A0, .int .i64 a1] w fun e w' => e = .returned (.string r) ∧ Below w.heap.size w w' := text_any k A0 c0 l0 a1 r w hr0 hc0 h
end Go.Proofs.YtomdidopflebjaaGreatDoor.PM
