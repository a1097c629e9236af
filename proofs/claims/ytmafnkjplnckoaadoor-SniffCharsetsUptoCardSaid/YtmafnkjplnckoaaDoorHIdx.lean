/- strings.IndexAny at the set of blanks and ';', at any string: the first byte of the set. -/
import Derived.Test.YtmafnkjplnckoaaDoorShelf
import Derived.Laws.Runes
import Derived.Laws.RangeAny
import Derived.Laws.RangeString
import Derived.Tactics
import Derived.WalkKit
import Derived.Scope
import Derived.WalkMore
import Derived.Outline
import Derived.Lib.IndexAny
import Derived.Shelf.Strings.IndexAnyAll
import Derived.Lib.Hide
namespace Go.Proofs.YtmafnkjplnckoaaDoor.Idx
open Go.RowKit

abbrev cs : ByteArray := ⟨#[9, 10, 12, 13, 32, 59]⟩
theorem encode_forms (r : Int) (hv : Utf8.valid r = true) (h128 : 128 ≤ r) : ∃ rs, Utf8.encode r = rs ∧ ((∃ a b, rs = ⟨#[a, b]⟩ ∧ 128 ≤ b.toNat) ∨ (∃ a b c, rs = ⟨#[a, b, c]⟩ ∧ 128 ≤ c.toNat) ∨ (∃ a b c d, rs = ⟨#[a, b, c, d]⟩ ∧ 128 ≤ d.toNat)) := by
  refine ⟨_, rfl, ?_⟩
  have hc : ¬ r.toNat < 128 := by omega
  unfold Utf8.encode
  simp only [hv, if_true, hc, if_false]
  split
  · refine .inl ⟨_, _, rfl, ?_⟩
    simp; omega
  · split
    · refine .inr (.inl ⟨_, _, _, rfl, ?_⟩)
      simp; omega
    · refine .inr (.inr ⟨_, _, _, _, rfl, ?_⟩)
      simp; omega
theorem valid_eq (r : Int) : Utf8.valid r = Lib.validRune r := by
  rw [validRune_eq]
  rfl
theorem none_of (l : List UInt8) (h : ∀ x ∈ l, x.toNat < 128) (c : UInt8) (hc : 128 ≤ c.toNat) : Lib.indexByte l c = -1 := by
  induction l with
  | nil => rfl
  | cons x r ih =>
    unfold Lib.indexByte
    have h1 : (x == c) = false := by
      rw [beq_eq_false_iff_ne]
      rintro rfl
      have := h x (List.mem_cons_self ..)
      omega
    rw [h1, ih (fun y hy => h y (List.mem_cons_of_mem _ hy))]
    rfl
theorem below_drewN (w : World) (n : Nat) : Below w.heap.size w (w.drewN n) := ⟨rfl, rfl, rfl, Nat.le_refl _, fun _ _ => rfl⟩
theorem csA (i : Nat) (h : i < cs.size) : (cs[i]'h).toNat < 128 := by
  have h2 : i < 6 := h
  match i, h2 with
  | 0, _ => exact (by decide : (9 : Nat) < 128)
  | 1, _ => exact (by decide : (10 : Nat) < 128)
  | 2, _ => exact (by decide : (12 : Nat) < 128)
  | 3, _ => exact (by decide : (13 : Nat) < 128)
  | 4, _ => exact (by decide : (32 : Nat) < 128)
  | 5, _ => exact (by decide : (59 : Nat) < 128)
theorem ixb (s : ByteArray) (c : Int) (w : World) (hs : ∀ x ∈ s.data.toList, x.toNat < 128) (hc : 128 ≤ (c.toNat.toUInt8).toNat) : Calls Tryd.prog 41 #[.string s, .int .u8 c] w fun e w' => e = .returned (.int .i64 (-1)) ∧ w' = w := by
  have h := Tryd.strings_IndexByte s c w
  rw [none_of _ hs _ hc] at h
  exact h
set_option maxRecDepth 1000000 in
set_option maxHeartbeats 8000000 in
theorem runeHigh (r : Int) (h128 : 128 ≤ r) (h31 : r ≤ 2147483647) (w : World) : Calls Tryd.prog 30 #[.string cs, .int .i32 r] w fun e w' => e = .returned (.int .i64 (-1)) ∧ Below w.heap.size w w' := by
  have d0 : decide (r < 128) = false := decide_eq_false (by omega)
  have d1 : decide (0 ≤ r) = true := decide_eq_true (by omega)
  by_cases h2 : r = 65533
  · subst h2
    go_enter Tryd.func30, Tryd.ntmps30
    go_wp2
    go_loopg [5, 6] 6 (fun g _ _ wx => ∃ i : Nat, i + g = 6 ∧ wx = w.iter cs i)
    case atStart => exact ⟨0, rfl, rfl⟩
    case round =>
      obtain ⟨i, hig, rfl⟩ := hrel
      cases gk with
      | zero =>
        obtain rfl : i = 6 := by omega
        have hnx := run_next_end (P := Tryd.prog) w cs 6
        go_wp2
        go_ret
        exact ⟨rfl, (Below.refl _ _).alloc (Nat.le_refl _) _⟩
      | succ g =>
        have hi : i < cs.size := by show i < 6; omega
        have hx : (cs[i]'hi).toNat < 128 := csA _ _
        have hnx := fun ty => run_next_ascii (P := Tryd.prog) w cs i ty hi hx
        have hne : (((cs[i]'hi).toNat : Int) == 65533) = false := beq_eq_false_iff_ne.2 (by omega)
        generalize cs[i] = x at hnx hne hx
        go_wp2
        go_roundg g
        case measure => omega
        case rel => exact ⟨i + 1, by omega, rfl⟩
  · have e2 : (r == 65533) = false := beq_eq_false_iff_ne.2 h2
    cases hv : Lib.validRune r with
    | false =>
      go_enter Tryd.func30, Tryd.ntmps30
      go_wp2_with (go_at_call 42; refine (Tryd.utf8_ValidRune r _).mono ?_; rintro e w' ⟨rfl, e1⟩; rw [e1, hv]; clear e1 w')
      go_ret
      exact ⟨rfl, Below.refl _ _⟩
    | true =>
      obtain ⟨rs, hrs, hf⟩ := encode_forms r (by rw [← hv]; exact valid_eq r) h128
      rcases hf with ⟨a, b, rfl, hb⟩ | ⟨a, b, c, rfl, hb⟩ | ⟨a, b, c, d, rfl, hb⟩
      · go_enter Tryd.func30, Tryd.ntmps30
        go_wp2_with (go_at_call 42; refine (Tryd.utf8_ValidRune r _).mono ?_; rintro e w' ⟨rfl, e1⟩; rw [e1, hv]; clear e1 w')
        refine wp_scope_straight ?_
        go_wp2
        go_loopg [9] 0 (fun _ v9 wr => v9 = .int .i64 1 ∧ wr = w)
        case atStart => exact ⟨rfl, rfl⟩
        case round =>
          obtain ⟨rfl, rfl⟩ := hrel
          have hnb : (((cs[1]'(by decide)).toNat : Int) == (((⟨#[a, b]⟩ : ByteArray)[1]'(show 1 < 2 by decide)).toNat : Int)) = false := beq_eq_false_iff_ne.2 (by show ((10 : Nat) : Int) ≠ (b.toNat : Int); omega)
          go_wp2
          refine wp_scope_straight ?_
          go_wp2
          repeat (go_quiet (fail); try go_wp2)
          go_region_with (go_at_call 41; refine (ixb _ _ _ (by decide) (by show 128 ≤ (((b.toNat : Int)).toNat.toUInt8).toNat; simpa using hb)).mono ?_; rintro e w2 ⟨rfl, rfl⟩)
          go_wp2
          all_goals
            rw [Exit.noGoto_ret]
            go_simp
            go_ret
            exact ⟨rfl, below_drewN _ _⟩
      · go_enter Tryd.func30, Tryd.ntmps30
        go_wp2_with (go_at_call 42; refine (Tryd.utf8_ValidRune r _).mono ?_; rintro e w' ⟨rfl, e1⟩; rw [e1, hv]; clear e1 w')
        refine wp_scope_straight ?_
        go_wp2
        go_loopg [9] 0 (fun _ v9 wr => v9 = .int .i64 2 ∧ wr = w)
        case atStart => exact ⟨rfl, rfl⟩
        case round =>
          obtain ⟨rfl, rfl⟩ := hrel
          have hnb : (((cs[2]'(by decide)).toNat : Int) == (((⟨#[a, b, c]⟩ : ByteArray)[2]'(show 2 < 3 by decide)).toNat : Int)) = false := beq_eq_false_iff_ne.2 (by show ((12 : Nat) : Int) ≠ (c.toNat : Int); omega)
          go_wp2
          refine wp_scope_straight ?_
          go_wp2
          repeat (go_quiet (fail); try go_wp2)
          go_region_with (go_at_call 41; refine (ixb _ _ _ (by decide) (by show 128 ≤ (((c.toNat : Int)).toNat.toUInt8).toNat; simpa using hb)).mono ?_; rintro e w2 ⟨rfl, rfl⟩)
          go_wp2
          all_goals
            rw [Exit.noGoto_ret]
            go_simp
            go_ret
            exact ⟨rfl, below_drewN _ _⟩
      · go_enter Tryd.func30, Tryd.ntmps30
        go_wp2_with (go_at_call 42; refine (Tryd.utf8_ValidRune r _).mono ?_; rintro e w' ⟨rfl, e1⟩; rw [e1, hv]; clear e1 w')
        refine wp_scope_straight ?_
        go_wp2
        go_loopg [9] 0 (fun _ v9 wr => v9 = .int .i64 3 ∧ wr = w)
        case atStart => exact ⟨rfl, rfl⟩
        case round =>
          obtain ⟨rfl, rfl⟩ := hrel
          have hnb : (((cs[3]'(by decide)).toNat : Int) == (((⟨#[a, b, c, d]⟩ : ByteArray)[3]'(show 3 < 4 by decide)).toNat : Int)) = false := beq_eq_false_iff_ne.2 (by show ((13 : Nat) : Int) ≠ (d.toNat : Int); omega)
          go_wp2
          refine wp_scope_straight ?_
          go_wp2
          repeat (go_quiet (fail); try go_wp2)
          go_region_with (go_at_call 41; refine (ixb _ _ _ (by decide) (by show 128 ≤ (((d.toNat : Int)).toNat.toUInt8).toNat; simpa using hb)).mono ?_; rintro e w2 ⟨rfl, rfl⟩)
          go_wp2
          all_goals
            rw [Exit.noGoto_ret]
            go_simp
            go_ret
            exact ⟨rfl, below_drewN _ _⟩

/-- The bytes that one rune of the upper half takes are all of the upper half. -/
theorem decode_run (s : ByteArray) (pos : Nat) (h : pos < s.size) (ha : 128 ≤ (s[pos]'h).toNat) : ∀ j, pos ≤ j → j < pos + (Utf8.decode s pos).2 → ∃ hj : j < s.size, 128 ≤ (s[j]'hj).toNat := by
  have hn : ¬ (s[pos]'h).toNat < 128 := by omega
  have g : ∀ k, (hk : pos + k < s.size) → s.get! (pos + k) = s[pos + k]'hk := fun k hk => by
    simp [ByteArray.get!, getElem!_pos, hk]
    rfl
  have c : ∀ k, (decide (pos + k < s.size) && (s.get! (pos + k)).toNat / 64 == 2) = true → ∃ hj : pos + k < s.size, 128 ≤ (s[pos + k]'hj).toNat := fun k hk => by
    rw [Bool.and_eq_true] at hk
    have h1 := of_decide_eq_true hk.1
    have h2 := beq_iff_eq.1 hk.2
    refine ⟨h1, ?_⟩
    rw [g k h1] at h2
    omega
  intro j hj1 hj2
  obtain ⟨k, rfl⟩ : ∃ k, j = pos + k := ⟨j - pos, by omega⟩
  have hk : k < (Utf8.decode s pos).2 := by omega
  cases k with
  | zero => exact ⟨h, ha⟩
  | succ k =>
    simp only [Utf8.decode, get_at s pos h, hn, if_false] at hk
    split at hk
    · rename_i hc
      simp only [Bool.and_eq_true] at hc
      split at hk
      · have : k = 0 := by simp at hk; omega
        subst this
        exact c 1 (by simpa using hc.2)
      · simp at hk
    · split at hk
      · rename_i hc
        simp only [Bool.and_eq_true] at hc
        split at hk
        · have : k = 0 ∨ k = 1 := by simp at hk; omega
          rcases this with rfl | rfl
          · exact c 1 (by simpa using hc.1.2)
          · exact c 2 (by simpa using hc.2)
        · simp at hk
      · split at hk
        · rename_i hc
          simp only [Bool.and_eq_true] at hc
          split at hk
          · have : k = 0 ∨ k = 1 ∨ k = 2 := by simp at hk; omega
            rcases this with rfl | rfl | rfl
            · exact c 1 (by simpa using hc.1.1.2)
            · exact c 2 (by simpa using hc.1.2)
            · exact c 3 (by simpa using hc.2)
          · simp at hk
        · simp at hk
end Go.Proofs.YtmafnkjplnckoaaDoor.Idx
