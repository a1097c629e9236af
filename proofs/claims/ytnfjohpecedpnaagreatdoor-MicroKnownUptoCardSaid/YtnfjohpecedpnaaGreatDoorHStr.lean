/- strings.IndexByte, strings.Cut, strconv.Atoi, in the print's form; what Atoi's error is stays open. -/
import Derived.Test.YtnfjohpecedpnaaGreatDoorPMx0
import Derived.Test.YtnfjohpecedpnaaGreatDoorGlob
namespace Go.Proofs.YtnfjohpecedpnaaGreatDoor.PM
open Go.RowKit Go.Lib Go.Proofs.YtnfjohpecedpnaaGreatDoor.Glob Go.Proofs.YtnfjohpecedpnaaGreatDoorW.PrintWords
def strings_IndexByte.f (a0 : ByteArray) (a1 : Int) : Option Int := some (Lib.indexByte a0.data.toList a1.toNat.toUInt8)
theorem strings_IndexByte.calls (a0 : ByteArray) (a1 : Int) (r : Int) (w : World) (h : strings_IndexByte.f a0 a1 = some r) : Calls Tryz.prog 83 #[.string a0, .int .u8 a1] w fun e w' => e = .returned (.int .i64 r) ∧ Below w.heap.size w w' := by
  obtain rfl := Option.some.inj h
  refine (Tryz.strings_IndexByte a0 a1 w).mono ?_
  rintro e w' ⟨rfl, rfl⟩
  exact ⟨rfl, Below.refl _ _⟩
/-- The number that strconv.Atoi returns, with an error or without. -/
def atoiV (l : List UInt8) : Int := match Lib.atoiAll l with
  | .ok v => v
  | .range => Lib.atoiSat l
  | _ => 0
def strconv_Atoi.f (a0 : ByteArray) : Option (Int × Unit) := if a0.size ≤ 281474976710656 then some (atoiV a0.data.toList, ()) else none
theorem strconv_Atoi.calls (a0 : ByteArray) (r1 : Int) (r2 : Unit) (w : World) (hG : GW w) (h : strconv_Atoi.f a0 = some (r1, r2)) : Calls Tryz.prog 84 #[.string a0] w fun e w' => ∃ ev, e = .returned (.tuple #[.int .i64 r1, ev]) ∧ Below w.heap.size w w' := by
  unfold strconv_Atoi.f at h
  split at h
  case isFalse => cases h
  rename_i hs
  injection h with h
  injection h with h _
  unfold atoiV at h
  cases ha : Lib.atoiAll a0.data.toList with
  | ok v =>
    rw [ha] at h
    subst h
    refine (Tryz.strconv_Atoi_ok a0 (by omega) v ha w).mono ?_
    rintro e w' ⟨rfl, hw⟩
    refine ⟨_, rfl, ?_⟩
    rcases hw with rfl | ⟨t, rfl⟩
    · exact Below.refl _ _
    · exact Lib.bytesWorld_below _ _ _
  | range =>
    rw [ha] at h
    subst h
    obtain ⟨ev, hc, he⟩ := hG.rng
    refine (Any.strconv_Atoi_range Tryz.laysC172 a0 hs ha ev w hc he).mono ?_
    rintro e w' ⟨N, rfl, -, -, hb⟩
    exact ⟨_, rfl, hb⟩
  | _ =>
    rw [ha] at h
    subst h
    obtain ⟨ev, hc, he⟩ := hG.syn
    refine (Any.strconv_Atoi_syntax Tryz.laysC172 a0 hs ha ev w hc he).mono ?_
    rintro e w' ⟨N, rfl, -, -, hb⟩
    exact ⟨_, rfl, hb⟩
def strings_Cut.f (a0 a1 : ByteArray) : Option (ByteArray × ByteArray × Bool) := if a0.size < 4294967281 then some (⟨(Lib.cut a0.data.toList a1.data.toList).1.toArray⟩, ⟨(Lib.cut a0.data.toList a1.data.toList).2.1.toArray⟩, (Lib.cut a0.data.toList a1.data.toList).2.2) else none
theorem strings_Cut.calls (a0 a1 : ByteArray) (r1 r2 : ByteArray) (r3 : Bool) (w : World) (hG : GW w) (h : strings_Cut.f a0 a1 = some (r1, r2, r3)) : Calls Tryz.prog 42 #[.string a0, .string a1] w fun e w' => e = .returned (.tuple #[.string r1, .string r2, .bool r3]) ∧ Below w.heap.size w w' := by
  unfold strings_Cut.f at h
  split at h
  · rename_i hc
    cases h
    refine (Tryz.strings_Cut_shaped a0 a1 w hG.shaped hc).mono ?_
    rintro e w' ⟨rfl, n, rfl⟩
    exact ⟨rfl, rfl, rfl, rfl, Nat.le_refl _, fun _ _ => rfl⟩
  · cases h
end Go.Proofs.YtnfjohpecedpnaaGreatDoor.PM
