/- strings.TrimLeft, Index, Cut, IndexAny, in the print's form. -/
import Derived.Test.YtmafnkjplnckoaaDoorHStr
import Derived.Test.YtmafnkjplnckoaaDoorGlob
import Derived.Test.YtmafnkjplnckoaaDoorHIdx2
namespace Go.Proofs.YtmafnkjplnckoaaDoor.PL
open Go.RowKit Go.Lib Go.Proofs.YtmafnkjplnckoaaDoor.Glob
def strings_TrimLeft.f (a0 a1 : ByteArray) : Option ByteArray := if asciiB a1 = true ∧ a1.size < 4294967281 then some ⟨(Lib.trimLeftS a0.data.toList a1.data.toList).toArray⟩ else none
theorem strings_TrimLeft.calls (a0 a1 : ByteArray) (r : ByteArray) (w : World) (h : strings_TrimLeft.f a0 a1 = some r) : Calls Tryd.prog 14 #[.string a0, .string a1] w fun e w' => e = .returned (.string r) ∧ Below w.heap.size w w' := by
  unfold strings_TrimLeft.f at h
  split at h
  · rename_i hc
    cases h
    exact Any.strings_TrimLeft_laid Tryd.lays161 (by kernel_rfl) a0 a1 w hc.2 (ascii_of_all hc.1)
  · cases h
def strings_Index.f (a0 a1 : ByteArray) : Option Int := if a0.size < 4294967281 then some (Lib.index a0.data.toList a1.data.toList) else none
theorem strings_Index.calls (a0 a1 : ByteArray) (r : Int) (w : World) (hG : GW w) (h : strings_Index.f a0 a1 = some r) : Calls Tryd.prog 13 #[.string a0, .string a1] w fun e w' => e = .returned (.int .i64 r) ∧ Below w.heap.size w w' := by
  unfold strings_Index.f at h
  split at h
  · rename_i hc
    cases h
    refine (Tryd.strings_Index_shaped a0 a1 w hG.shaped hc).mono ?_
    rintro e w' ⟨rfl, rfl⟩
    exact ⟨rfl, Below.refl _ _⟩
  · cases h
def strings_Cut.f (a0 a1 : ByteArray) : Option (ByteArray × ByteArray × Bool) := if a0.size < 4294967281 then some (⟨(Lib.cut a0.data.toList a1.data.toList).1.toArray⟩, ⟨(Lib.cut a0.data.toList a1.data.toList).2.1.toArray⟩, (Lib.cut a0.data.toList a1.data.toList).2.2) else none
theorem strings_Cut.calls (a0 a1 : ByteArray) (r1 r2 : ByteArray) (r3 : Bool) (w : World) (hG : GW w) (h : strings_Cut.f a0 a1 = some (r1, r2, r3)) : Calls Tryd.prog 16 #[.string a0, .string a1] w fun e w' => e = .returned (.tuple #[.string r1, .string r2, .bool r3]) ∧ Below w.heap.size w w' := by
  unfold strings_Cut.f at h
  split at h
  · rename_i hc
    cases h
    refine (Tryd.strings_Cut_shaped a0 a1 w hG.shaped hc).mono ?_
    rintro e w' ⟨rfl, n, rfl⟩
    exact ⟨rfl, Idx.below_drewN _ _⟩
  · cases h
def strings_IndexAny.f (a0 a1 : ByteArray) : Option Int := if a1.data.toList = [9, 10, 12, 13, 32, 59] ∧ a0.size ≤ 4000000000 then some (Lib.indexAny a0.data.toList [9, 10, 12, 13, 32, 59]) else none
theorem strings_IndexAny.calls (a0 a1 : ByteArray) (r : Int) (w : World) (h : strings_IndexAny.f a0 a1 = some r) : Calls Tryd.prog 17 #[.string a0, .string a1] w fun e w' => e = .returned (.int .i64 r) ∧ Below w.heap.size w w' := by
  unfold strings_IndexAny.f at h
  split at h
  · rename_i hc
    injection h with h
    obtain ⟨h1, hs⟩ := hc
    have e1 : a1 = Idx.cs := by
      cases a1
      simp only [ByteArray.mk.injEq]
      exact Array.toList_inj.1 h1
    subst e1
    by_cases h8 : a0.size ≤ 8
    · exact Idx.idx_short a0 h8 r h w
    · refine (Tryd.strings_IndexAny_long (zero_of_info (n := 256) (by kernel_rfl)).1 a0 Idx.cs w (by decide) (by omega) (by omega) (by decide) (ascii_of_all (by decide))).mono ?_
      rintro e w' ⟨rfl, rfl⟩
      refine ⟨?_, ((Below.refl _ _).alloc (Nat.le_refl _) _).alloc (by simp) _⟩
      rw [← h]
  · cases h
end Go.Proofs.YtmafnkjplnckoaaDoor.PL
