/- strings.IndexAny at the set of blanks and ';', at any string: the first byte of the set (second part). -/
import Derived.Test.YtmafnkjplnckoaaDoorHIdx
import Derived.Test.YtmafnkjplnckoaaDoorWWords
import Derived.Lib.IndexAny
import Derived.Shelf.Strings.IndexAnyAll
namespace Go.Proofs.YtmafnkjplnckoaaDoor.Idx
open Go.RowKit Go.Proofs.YtmafnkjplnckoaaDoorW.PrintWords

theorem next_any {P : Program} (W : World) (b : Nat) (s : ByteArray) (pos : Nat) (hb : W.heap[b]? = some (.stringIter s pos)) (h : pos < s.size) :
    ∃ W', (∀ ty, (Instr.next (.pointer (some ⟨b, 0, none⟩)) true ty).run P W = .ok (.tuple #[.bool true, .int .i64 pos, .int .i32 (Utf8.decode s pos).1]) W') ∧ W'.heap[b]? = some (.stringIter s (pos + (Utf8.decode s pos).2)) ∧ ∀ B w, B ≤ b → Below B w W → Below B w W' := by
  refine ⟨{ W with heap := W.heap.setIfInBounds b (.stringIter s (pos + (Utf8.decode s pos).2)) }, fun ty => ?_, ?_, ?_⟩
  · simp only [Instr.next, getObj, setObj, Sem.run_bind, Sem.run, hb, Result.andThen, h, if_true]
    simp [goInt]
  · have hlt : b < W.heap.size := by
      apply Decidable.byContradiction
      intro hn
      rw [Array.getElem?_eq_none (by omega)] at hb
      cases hb
    simp [hlt]
  · intro B w hB hw
    refine ⟨hw.os, hw.tape, hw.output, by simpa using hw.size, fun k hk => ?_⟩
    rw [← hw.block k hk]
    show (W.heap.setIfInBounds b _)[k]? = _
    rw [Array.getElem?_setIfInBounds_ne (by omega)]
theorem heap_lt {w : World} {b : Nat} {o : Obj} (h : w.heap[b]? = some o) : b < w.heap.size := by
  apply Decidable.byContradiction
  intro hn
  rw [Array.getElem?_eq_none (by omega)] at h
  cases h
theorem next_end {P : Program} (W : World) (b : Nat) (s : ByteArray) (pos : Nat) (hb : W.heap[b]? = some (.stringIter s pos)) (h : ¬ pos < s.size) (ty : TypeId) :
    (Instr.next (.pointer (some ⟨b, 0, none⟩)) true ty).run P W = .ok (.tuple #[.bool false]) W := by
  simp [Instr.next, getObj, Sem.run, hb, h]
theorem csNot {x : UInt8} (h : 128 ≤ x.toNat) : cs.data.toList.contains x = false := by
  have : ∀ y ∈ cs.data.toList, (x == y) = false := by
    intro y hy
    rw [beq_eq_false_iff_ne]
    rintro rfl
    have : x = 9 ∨ x = 10 ∨ x = 12 ∨ x = 13 ∨ x = 32 ∨ x = 59 := by simpa [cs] using hy
    rcases this with rfl | rfl | rfl | rfl | rfl | rfl <;> exact absurd h (by decide)
  rw [List.contains_eq_any_beq]
  exact List.any_eq_false.2 fun y hy => by rw [this y hy]; decide
set_option maxRecDepth 1000000 in
set_option maxHeartbeats 8000000 in
theorem idx_short (s : ByteArray) (h8 : s.size ≤ 8) (res : Int) (hres : Lib.indexAny s.data.toList cs.data.toList = res) (w : World) :
    Calls Tryd.prog 17 #[.string s, .string cs] w fun e w' => e = .returned (.int .i64 res) ∧ Below w.heap.size w w' := by
  have HRES := Aside0.mk hres
  clear hres
  have hemp : cs.toList.isEmpty = false := by rw [ByteArray.toList_eq]; rfl
  have h8z : decide ((8 : Int) < (s.size : Int)) = false := decide_eq_false (by omega)
  go_enter Tryd.func17, Tryd.ntmps17
  go_wp2_with (go_at_call 31; refine (Tryd.strings_shouldUseASCIISet _ _).mono ?_; rintro e w' ⟨rfl, e1⟩; rw [e1, h8z]; clear e1 w')
  go_loopg [9, 10] s.size (fun g _ _ wx => ∃ i : Nat, i + g = s.size ∧ Aside0 (wx.heap[w.heap.size]? = some (.stringIter s i) ∧ Below w.heap.size w wx ∧ Lib.NoAny s.data.toList cs.data.toList i))
  case atStart => exact ⟨0, by omega, ⟨World.iter_heap _ _ _, (Below.refl _ _).alloc (Nat.le_refl _) _, Lib.NoAny.zero _ _⟩⟩
  case round =>
    obtain ⟨i, hig, HN⟩ := hrel
    cases gk with
    | zero =>
      obtain rfl : i = s.size := by omega
      have hnx := next_end (P := Tryd.prog) wr w.heap.size s s.size HN.out.1 (Nat.lt_irrefl _)
      go_wp2
      go_ret
      refine ⟨?_, HN.out.2.1⟩
      rw [← HRES.out, Lib.indexAny_none (by rw [← Lib.size_eq]; exact HN.out.2.2)]
      rfl
    | succ g =>
      have hi : i < s.size := by omega
      obtain ⟨W', hnx, hW1, hW2⟩ := next_any (P := Tryd.prog) wr w.heap.size s i HN.out.1 hi
      have HW := Aside0.mk (And.intro hW1 hW2)
      clear hW1 hW2
      by_cases ha : (s[i]'hi).toNat < 128
      · have hd := decode_ascii s i hi ha
        rw [hd] at hnx HW
        obtain ⟨x, hx⟩ : ∃ x : UInt8, s[i]'hi = x := ⟨_, rfl⟩
        have hxl : s.data.toList[i]? = some x := by rw [← hx]; exact Lib.data_getElem? s i hi
        rw [hx] at hnx HW ha
        have Hx : Aside0 (s.data.toList[i]? = some x) := ⟨hxl⟩
        have Hi : Aside0 (i < s.size) := ⟨hi⟩
        clear hxl hx hd hi
        have hcon := Lib.contains_iff_indexByte cs.data.toList x
        have hback : ((x.toNat : Int)).toNat.toUInt8 = x := by simp
        cases hin : cs.data.toList.contains x
        · rw [hin] at hcon
          have hlt : ¬ ((0 : Int) ≤ Lib.indexByte cs.data.toList x) := of_decide_eq_false hcon.symm
          clear hcon
          obtain ⟨z, hz⟩ : ∃ z, z = Lib.indexByte cs.data.toList x := ⟨_, rfl⟩
          rw [← hz] at hlt
          have HZ := Aside0.mk hz
          clear hz
          go_wp2_with (go_at_call 30; refine (Tryd.strings_IndexRune_ascii _ _ _ (by omega) (by omega)).mono ?_; rintro e w' ⟨rfl, e1⟩; rw [e1, hback, ← HZ.out]; clear e1 w')
          go_roundg g
          case measure => omega
          case rel => exact ⟨i + 1, by omega, ⟨HW.out.1, HW.out.2 _ _ (Nat.le_refl _) HN.out.2.1, HN.out.2.2.succ Hx.out hin⟩⟩
        · rw [hin] at hcon
          have hge : (0 : Int) ≤ Lib.indexByte cs.data.toList x := of_decide_eq_true hcon.symm
          clear hcon
          obtain ⟨z, hz⟩ : ∃ z, z = Lib.indexByte cs.data.toList x := ⟨_, rfl⟩
          rw [← hz] at hge
          have HZ := Aside0.mk hz
          clear hz
          go_wp2_with (go_at_call 30; refine (Tryd.strings_IndexRune_ascii _ _ _ (by omega) (by omega)).mono ?_; rintro e w' ⟨rfl, e1⟩; rw [e1, hback, ← HZ.out]; clear e1 w')
          go_ret
          refine ⟨?_, HW.out.2 _ _ (Nat.le_refl _) HN.out.2.1⟩
          rw [← HRES.out, Lib.indexAny_hit HN.out.2.2 Hx.out hin]
          rfl
      · have hrun := decode_run s i hi (by omega)
        have hhi := decode_high s i hi (by omega)
        have hle := decode_le s i
        obtain ⟨⟨r, d⟩, hrd⟩ : ∃ p, p = Utf8.decode s i := ⟨_, rfl⟩
        rw [← hrd] at hnx HW hrun hhi hle
        simp only at hnx hrun hhi hle
        have hend : i + d ≤ s.size := by
          have := (hrun (i + d - 1) (by omega) (by omega)).1
          omega
        have HNO : Aside0 (Lib.NoAny s.data.toList cs.data.toList (i + d)) := ⟨fun j b hj hb => by
          by_cases hji : j < i
          · exact HN.out.2.2 j b hji hb
          · obtain ⟨hjs, hj8⟩ := hrun j (by omega) hj
            rw [Lib.data_getElem? s j hjs] at hb
            cases hb
            exact csNot hj8⟩
        have hH := Aside0.mk hhi
        have hL := Aside0.mk hle
        clear hrun hrd hhi hle ha
        have HE := Aside0.mk (And.intro hend hH.out.2)
        clear hend
        go_wp2_with (go_at_call 30; refine (runeHigh (r : Int) (by have := hH.out.1; omega) (by have := hL.out; omega) _).mono ?_; rintro e w2 ⟨rfl, hb2⟩; have HB2 := Aside0.mk hb2; clear hb2)
        go_roundg (s.size - (i + d))
        case measure => have := HE.out; omega
        case rel => exact ⟨i + d, by have := HE.out; omega, ⟨(HB2.out.block _ (heap_lt HW.out.1)).trans HW.out.1, (HW.out.2 _ _ (Nat.le_refl _) HN.out.2.1).trans (HB2.out.mono (Nat.le_of_lt (heap_lt HW.out.1))), HNO.out⟩⟩
end Go.Proofs.YtmafnkjplnckoaaDoor.Idx
