/- The pure statement of MergeNames: the name of any code and the code of any name agree with the reference's list. No condition beside the printed bounds. -/
import Derived.Test.YtkkdpkfachpjeaaPMergeNamesx1
namespace Go.Proofs.Ytkkdpkfachpjeaa.Pure
open Go.RowKit Go.Proofs.Ytkkdpkfachpjeaa.PMergeNames Go.Proofs.YtkkdpkfachpjeaaW.PrintWords Go.Proofs.YtkkdpkfachpjeaaW.PrintLast

/-- The reference's names, and the program's. -/
noncomputable def mnR : List ByteArray := (beadleref06_Names.f).getD []
noncomputable def mnL : List ByteArray := (merge_names.f).getD []
theorem mnR_eq : beadleref06_Names.f = some mnR := rfl
theorem mnL_eq : merge_names.f = some mnL := rfl
theorem mnR_len : mnR.length = 61 := by decide +kernel
theorem mnL_len : mnL.length = 62 := by decide +kernel
def mnB (xs : List ByteArray) (i : Nat) : List UInt8 := (xs.getD i ByteArray.empty).toList
theorem mn_first : mnB mnL 0 = [] := by decide +kernel
theorem mn_same : ∀ i, i < 61 → mnB mnL (i + 1) = mnB mnR i := by decide +kernel
theorem mn_nil : ∀ i, i < 61 → mnB mnR i ≠ [] := by decide +kernel
theorem mn_apart : ∀ i, i < 61 → ∀ j, j < 61 → mnB mnR i = mnB mnR j → i = j := by decide +kernel

theorem mn_empty : (⟨#[]⟩ : ByteArray).toList = [] := by decide +kernel
theorem mn_rd (xs : List ByteArray) (i : Int) : (rdOf ByteArray.empty xs i).toList = mnB xs i.toNat := rfl

/-- slices.Index: the first place, or -1. -/
theorem mn_index (name : ByteArray) (d : Nat) : ∀ (k : Nat) (i : Int), 0 ≤ i → i ≤ 62 → 62 - i = d → d < k →
    (∀ j : Nat, (j : Int) < i → name.toList ≠ mnB mnL j) →
    ∃ r, slices_Index_string_string.l0 k mnL name 62 i = some r ∧ ((r = -1 ∧ ∀ j : Nat, j < 62 → name.toList ≠ mnB mnL j) ∨ (∃ j : Nat, j < 62 ∧ r = j ∧ name.toList = mnB mnL j)) := by
  induction d with
  | zero =>
    intro k i h0 h1 hd hk hn
    obtain ⟨k, rfl⟩ : ∃ m, k = m + 1 := ⟨k - 1, by omega⟩
    refine ⟨-1, ?_, .inl ⟨rfl, fun j hj => hn j (by omega)⟩⟩
    simp only [slices_Index_string_string.l0]
    rw [if_neg (by omega)]
  | succ d ih =>
    intro k i h0 h1 hd hk hn
    obtain ⟨k, rfl⟩ : ∃ m, k = m + 1 := ⟨k - 1, by omega⟩
    simp only [slices_Index_string_string.l0]
    rw [if_pos (by omega), if_pos h0, if_pos (by rw [mnL_len]; omega), mn_rd]
    by_cases hq : name.toList = mnB mnL i.toNat
    · rw [if_pos hq]
      exact ⟨i, rfl, .inr ⟨i.toNat, by omega, by omega, hq⟩⟩
    · rw [if_neg hq]
      have hw : wrap64 (i + 1) = i + 1 := by unfold wrap64; omega
      rw [hw]
      refine ih k (i + 1) (by omega) (by omega) (by omega) (by omega) fun j hj => ?_
      by_cases e : (j : Int) = i
      · have : j = i.toNat := by omega
        rw [this]; exact hq
      · exact hn j (by omega)

/-- merge.Code: the place of a name from 1 on. -/
theorem mn_code (name : ByteArray) (k : Nat) (hk : 62 < k) :
    ∃ r b, merge_Code.f k name = some (r, b) ∧ ((r = 0 ∧ b = false ∧ ∀ j : Nat, j < 61 → name.toList ≠ mnB mnR j) ∨ (∃ j : Nat, j < 61 ∧ r = (j : Int) + 1 ∧ b = true ∧ name.toList = mnB mnR j)) := by
  obtain ⟨r, hr, h⟩ := mn_index name 62 k 0 (by omega) (by omega) (by omega) hk (fun j hj => absurd hj (by omega))
  unfold merge_Code.f slices_Index_string_string.f
  rw [mnL_eq]
  simp only [Option.bind_some]
  rw [mnL_len]
  rw [show ((62 : Nat) : Int) = 62 from rfl, hr]
  simp only [Option.bind_some]
  rcases h with ⟨rfl, hn⟩ | ⟨j, hj, rfl, hq⟩
  · rw [if_pos (by omega)]
    refine ⟨0, false, rfl, .inl ⟨rfl, rfl, fun j hj => ?_⟩⟩
    rw [← mn_same j hj]
    exact hn (j + 1) (by omega)
  · by_cases e : j = 0
    · subst e
      rw [if_pos (by omega)]
      refine ⟨0, false, rfl, .inl ⟨rfl, rfl, fun i hi hh => ?_⟩⟩
      rw [hq, mn_first] at hh
      exact mn_nil i hi hh.symm
    · rw [if_neg (by omega)]
      obtain ⟨m, rfl⟩ : ∃ m, j = m + 1 := ⟨j - 1, by omega⟩
      refine ⟨_, true, rfl, .inr ⟨m, by omega, by omega, rfl, ?_⟩⟩
      rw [hq, mn_same m (by omega)]

/-- merge.Name at any number. -/
theorem mn_name (c : Int) : ∃ r, merge_Name.f c = some r ∧ r.toList = (if 1 ≤ c ∧ c ≤ 61 then mnB mnR (c - 1).toNat else []) := by
  unfold merge_Name.f
  rw [mnL_eq]
  simp only [Option.bind_some]
  rw [mnL_len]
  by_cases h1 : c < 1
  · rw [if_pos h1, if_neg (by omega)]
    exact ⟨_, rfl, mn_empty⟩
  · rw [if_neg h1]
    by_cases h2 : c ≥ ((62 : Nat) : Int)
    · rw [if_pos h2, if_neg (by omega)]
      exact ⟨_, rfl, mn_empty⟩
    · rw [if_neg h2, if_pos (by omega), if_pos (by omega), if_pos (by omega)]
      refine ⟨_, rfl, ?_⟩
      rw [mn_rd, ← mn_same _ (by omega)]
      congr 1
      omega

/-- The law's loop. -/
theorem mn_loop (c : Int) (name : ByteArray) (d : Nat) : ∀ (k : Nat) (i : Int) (want : ByteArray) (code : Int), 0 ≤ i → i ≤ 61 → 61 - i = d → d + 70 < k →
    want.toList = (if 1 ≤ c ∧ c ≤ i then mnB mnR (c - 1).toNat else []) →
    ((code = 0 ∧ ∀ j : Nat, (j : Int) < i → name.toList ≠ mnB mnR j) ∨ (∃ j : Nat, (j : Int) < i ∧ code = (j : Int) + 1 ∧ name.toList = mnB mnR j)) →
    beadlelaw06_MergeNames.l0 k c name mnR want code i = some true := by
  induction d with
  | zero =>
    intro k i want code h0 h1 hd hk hw hc
    obtain ⟨k, rfl⟩ : ∃ m, k = m + 1 := ⟨k - 1, by omega⟩
    obtain ⟨r, b, hr, hrb⟩ := mn_code name k (by omega)
    obtain ⟨n, hn, hnn⟩ := mn_name c
    simp only [beadlelaw06_MergeNames.l0]
    rw [if_neg (by rw [mnR_len]; omega), hr, hn]
    simp only [Option.bind_some]
    obtain rfl : i = 61 := by omega
    rw [if_pos (by rw [hw, hnn])]
    rcases hc with ⟨rfl, hc⟩ | ⟨j, hj, rfl, hc⟩
    · rcases hrb with ⟨rfl, rfl, _⟩ | ⟨m, hm, rfl, rfl, hq⟩
      · simp
      · exact absurd hq (hc m (by omega))
    · rcases hrb with ⟨rfl, rfl, hq⟩ | ⟨m, hm, rfl, rfl, hq⟩
      · exact absurd hc (hq j (by omega))
      · obtain rfl := mn_apart j (by omega) m hm (by rw [← hc, ← hq])
        rw [if_pos rfl]
        have : decide ((j : Int) + 1 > 0) = true := decide_eq_true (by omega)
        rw [this]; rfl
  | succ d ih =>
    intro k i want code h0 h1 hd hk hw hc
    obtain ⟨k, rfl⟩ : ∃ m, k = m + 1 := ⟨k - 1, by omega⟩
    have hwr : wrap64 (i + 1) = i + 1 := by unfold wrap64; omega
    simp only [beadlelaw06_MergeNames.l0]
    rw [if_pos (by rw [mnR_len]; omega), hwr, if_pos h0]
    have hcode : ∀ want', (want'.toList = (if 1 ≤ c ∧ c ≤ i + 1 then mnB mnR (c - 1).toNat else [])) →
        (if (rdOf ByteArray.empty mnR i).toList = name.toList then beadlelaw06_MergeNames.l0 k c name mnR want' (i + 1) (i + 1) else beadlelaw06_MergeNames.l0 k c name mnR want' code (i + 1)) = some true := by
      intro want' hw'
      rw [mn_rd]
      by_cases hq : mnB mnR i.toNat = name.toList
      · rw [if_pos hq]
        exact ih k (i + 1) want' (i + 1) (by omega) (by omega) (by omega) (by omega) hw' (.inr ⟨i.toNat, by omega, by omega, hq.symm⟩)
      · rw [if_neg hq]
        refine ih k (i + 1) want' code (by omega) (by omega) (by omega) (by omega) hw' ?_
        rcases hc with ⟨rfl, hc⟩ | ⟨j, hj, rfl, hc⟩
        · refine .inl ⟨rfl, fun j hj => ?_⟩
          by_cases e : (j : Int) = i
          · have : j = i.toNat := by omega
            rw [this]; exact fun h => hq h.symm
          · exact hc j (by omega)
        · exact .inr ⟨j, by omega, rfl, hc⟩
    by_cases hci : c = i + 1
    · rw [if_pos hci]
      refine hcode _ ?_
      rw [mn_rd, if_pos (by omega)]
      congr 1
      omega
    · rw [if_neg hci, if_pos h0]
      refine hcode _ ?_
      rw [hw]
      by_cases hh : 1 ≤ c ∧ c ≤ i
      · rw [if_pos hh, if_pos (by omega)]
      · rw [if_neg hh, if_neg (by omega)]

theorem MergeNames : beadlelaw06_MergeNames.Pure := by
  intro c name _ _
  refine ⟨200, ?_⟩
  unfold beadlelaw06_MergeNames.f
  obtain ⟨n, hn, hnn⟩ := mn_name 4
  rw [hn]
  simp only [Option.bind_some]
  have h4 : n.toList = ([117, 110, 101, 120, 112, 101, 99, 116, 101, 100, 45, 110, 117, 108, 108, 45, 99, 104, 97, 114, 97, 99, 116, 101, 114] : List UInt8) := by
    rw [hnn, if_pos (by omega)]
    decide +kernel
  rw [if_pos h4, mnR_eq]
  simp only [Option.bind_some]
  exact mn_loop c name 61 200 0 _ 0 (by omega) (by omega) (by omega) (by omega) (by rw [if_neg (by omega)]; exact mn_empty) (.inl ⟨rfl, fun j hj => absurd hj (by omega)⟩)

end Go.Proofs.Ytkkdpkfachpjeaa.Pure
