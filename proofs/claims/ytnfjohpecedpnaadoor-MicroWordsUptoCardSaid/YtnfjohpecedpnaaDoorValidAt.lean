/- What micro.Valid tells at each kind's own word, in plain words. -/
import Derived.Test.YtnfjohpecedpnaaDoorPMx5
import Derived.Test.YtnfjohpecedpnaaDoorIntLaw
import Derived.Test.YtnfjohpecedpnaaDoorWords
set_option linter.unusedVariables false
namespace Go.Proofs.YtnfjohpecedpnaaDoor.Pure
open Go.RowKit Go.Proofs.YtnfjohpecedpnaaDoor.PM Go.Proofs.YtnfjohpecedpnaaDoor.Scan Go.Proofs.YtnfjohpecedpnaaDoor.Words Go.Proofs.YtnfjohpecedpnaaDoorW.PrintWords Go.Proofs.YtnfjohpecedpnaaDoorW.PrintLast
def natOf (l : List UInt8) : Bool := okOf l && (bt (ofL l) 0 != 45)
theorem ok_ne {l : List UInt8} (h : okOf l = true) : l ≠ [] := by
  rintro rfl
  exact absurd h (by decide)
theorem plain_at (l : List UInt8) (hl : l.length ≤ 281474976710656) : plainF 100 (ofL l) = some (numOf l, natOf l) := by
  unfold plainF natOf
  rw [int_at 100 l hl (by decide), Option.bind_some]
  cases h : okOf l with
  | false => rw [if_neg (by simp)]; rfl
  | true =>
    have := ok_ne h
    rw [if_pos rfl, if_pos (by rw [ofL_size]; exact List.length_pos_iff.2 this)]
    rfl
theorem float_int {l : List UInt8} (h : okOf l = true) : floatF 100 (ofL l) = some true := by
  obtain ⟨h1, h2, h3⟩ := of_decide_eq_true h
  have hlen : l.length ≤ (tailOf l).length + 1 := by cases l with | nil => simp | cons c r => unfold tailOf; simp only; split <;> simp
  have hF : micro_float_1.f 100 (ofL l) false = some (ofL [], false) := by
    have main : ∀ d, d ≠ [] → (∀ c ∈ d, isD c = true) → d.length ≤ 9 → ((micro_scan_digits.f 100 (ofL d) false 0 40).bind fun bt115 => ((micro_scan_sign.f bt115.2.1 bt115.2.2 (⟨#[46]⟩ : ByteArray)).bind fun bt118 => (if bt118.1 = 0 then (if ((bt115.2.1.size : Int) < ((ofL d).size : Int)) then (micro_float_1.j0 100 bt118.2.1 bt118.2.2) else (micro_float_1.j0 100 bt118.2.1 true)) else ((micro_scan_digits.f 100 bt118.2.1 bt118.2.2 1 40).bind fun bt121 => (micro_float_1.j0 100 bt121.2.1 bt121.2.2))))) = some (ofL [], false) := by
      intro d g1 g2 g3
      have := digits_f 100 d false 0 40 (by decide) (by omega) (by decide)
      rw [show ((0 : Nat) : Int) = 0 from rfl, show ((40 : Nat) : Int) = 40 from rfl, if_neg (by omega), lead_full g2 (by omega), List.drop_length] at this
      rw [this, Option.bind_some]
      simp only
      rw [show (⟨#[46]⟩ : ByteArray) = ofL [46] from rfl, sign_nil, Option.bind_some]
      simp only
      rw [if_pos trivial, if_pos (by have := List.length_pos_iff.2 g1; simp only [ofL_size, List.length_nil]; omega)]
      show micro_float_1.j0 (99 + 1) (ofL []) false = _
      rw [micro_float_1.j0, show (⟨#[101, 69]⟩ : ByteArray) = ofL [101, 69] from rfl, sign_nil, Option.bind_some]
      rfl
    unfold micro_float_1.f
    cases l with
    | nil => exact absurd rfl (ok_ne h)
    | cons c r =>
      by_cases hc : c = 45
      · subst hc
        rw [show (⟨#[45]⟩ : ByteArray) = ofL [45] from rfl, sign_hit [45] 45 r false (by simp), Option.bind_some]
        have ht : tailOf (45 :: r) = r := by simp [tailOf]
        rw [ht] at h1 h2 h3
        exact main r h1 h2 h3
      · rw [show (⟨#[45]⟩ : ByteArray) = ofL [45] from rfl, sign_miss [45] c r false (by simpa using hc), Option.bind_some]
        have ht : tailOf (c :: r) = c :: r := by simp [tailOf, hc]
        rw [ht] at h1 h2 h3
        exact main (c :: r) h1 h2 h3
  unfold floatF
  rw [if_neg (by rw [ofL_size]; omega)]
  unfold wholeF runParts
  show ((micro_float_1.f 100 (ofL l) false).bind fun x => runParts [] x.1 x.2).bind _ = _
  rw [hF, Option.bind_some, runParts, Option.bind_some, over_f]
  rfl
theorem digits_total (d : List UInt8) (b : Bool) (least most : Nat) (h : most < 100) (hl : d.length ≤ 281474976710656) : ∃ v r b', micro_scan_digits.f 100 (ofL d) b least most = some (v, ofL r, b') ∧ r.length ≤ d.length := by
  rw [digits_f 100 d b least most (by omega) hl h]
  split
  · exact ⟨_, _, _, rfl, Nat.le_refl _⟩
  · exact ⟨_, _, _, rfl, by simp⟩
theorem sign_total (d set : List UInt8) (b : Bool) : ∃ v r, micro_scan_sign.f (ofL d) b (ofL set) = some (v, ofL r, b) ∧ r.length ≤ d.length := by
  cases d with
  | nil => exact ⟨_, _, sign_nil set b, Nat.le_refl _⟩
  | cons c r =>
    by_cases h : c ∈ set
    · exact ⟨_, _, sign_hit set c r b h, by simp⟩
    · exact ⟨_, _, sign_miss set c r b h, Nat.le_refl _⟩
theorem float_total (l : List UInt8) (hl : l.length ≤ 281474976710656) : ∃ b, floatF 100 (ofL l) = some b := by
  unfold floatF
  split
  · exact ⟨_, rfl⟩
  · have hj : ∀ (d : List UInt8) (b : Bool), d.length ≤ 281474976710656 → ∃ r b', micro_float_1.j0 100 (ofL d) b = some (ofL r, b') := by
      intro d b hd
      show ∃ r b', micro_float_1.j0 (99 + 1) (ofL d) b = some (ofL r, b')
      rw [micro_float_1.j0]
      obtain ⟨v1, r1, e1, l1⟩ := sign_total d [101, 69] b
      rw [show (⟨#[101, 69]⟩ : ByteArray) = ofL [101, 69] from rfl, e1, Option.bind_some]
      simp only
      split
      · exact ⟨_, _, rfl⟩
      · obtain ⟨v2, r2, e2, l2⟩ := sign_total r1 [43, 45] b
        rw [show (⟨#[43, 45]⟩ : ByteArray) = ofL [43, 45] from rfl, e2, Option.bind_some]
        simp only
        have := digits_f 99 r2 b 1 40 (by decide) (by omega) (by decide)
        rw [show ((1 : Nat) : Int) = 1 from rfl, show ((40 : Nat) : Int) = 40 from rfl] at this
        rw [this]
        split
        · exact ⟨_, _, rfl⟩
        · exact ⟨_, _, rfl⟩
    have hF : ∃ r b', micro_float_1.f 100 (ofL l) false = some (ofL r, b') := by
      unfold micro_float_1.f
      obtain ⟨v1, r1, e1, l1⟩ := sign_total l [45] false
      rw [show (⟨#[45]⟩ : ByteArray) = ofL [45] from rfl, e1, Option.bind_some]
      simp only
      obtain ⟨v2, r2, b2, e2, l2⟩ := digits_total r1 false 0 40 (by decide) (by omega)
      rw [show ((0 : Nat) : Int) = 0 from rfl, show ((40 : Nat) : Int) = 40 from rfl] at e2
      rw [e2, Option.bind_some]
      simp only
      obtain ⟨v3, r3, e3, l3⟩ := sign_total r2 [46] b2
      rw [show (⟨#[46]⟩ : ByteArray) = ofL [46] from rfl, e3, Option.bind_some]
      simp only
      split
      · split
        · exact hj _ _ (by omega)
        · exact hj _ _ (by omega)
      · obtain ⟨v4, r4, b4, e4, l4⟩ := digits_total r3 b2 1 40 (by decide) (by omega)
        rw [show ((1 : Nat) : Int) = 1 from rfl, show ((40 : Nat) : Int) = 40 from rfl] at e4
        rw [e4, Option.bind_some]
        exact hj _ _ (by omega)
    obtain ⟨r, b', hF⟩ := hF
    unfold wholeF runParts
    show ∃ b, ((micro_float_1.f 100 (ofL l) false).bind fun x => runParts [] x.1 x.2).bind _ = some b
    rw [hF, Option.bind_some, runParts, Option.bind_some, over_f]
    exact ⟨_, rfl⟩
theorem valid_at_text (s : ByteArray) (hs : s.size ≤ 4294967296) : micro_Valid.f ⟨#[116, 101, 120, 116]⟩ s = (plainF 100 s).bind fun x => some true := by
  have hk : (kWord ⟨#[116, 101, 120, 116]⟩).toList = [116, 101, 120, 116] := by decide +kernel
  unfold micro_Valid.f validF
  rw [if_pos ⟨by decide +kernel, by decide +kernel, hs⟩]
  congr 1
  funext x
  unfold validAt
  rw [hk]
  rfl
theorem valid_at_int (s : ByteArray) (hs : s.size ≤ 4294967296) : micro_Valid.f ⟨#[105, 110, 116]⟩ s = (plainF 100 s).bind fun x => (micro_Int.f 100 s).map fun y => y.2 := by
  have hk : (kWord ⟨#[105, 110, 116]⟩).toList = [105, 110, 116] := by decide +kernel
  unfold micro_Valid.f validF
  rw [if_pos ⟨by decide +kernel, by decide +kernel, hs⟩]
  congr 1
  funext x
  unfold validAt
  rw [hk]
  rfl
theorem valid_at_nat (s : ByteArray) (hs : s.size ≤ 4294967296) : micro_Valid.f ⟨#[110, 97, 116]⟩ s = (plainF 100 s).bind fun x => some x.2 := by
  have hk : (kWord ⟨#[110, 97, 116]⟩).toList = [110, 97, 116] := by decide +kernel
  unfold micro_Valid.f validF
  rw [if_pos ⟨by decide +kernel, by decide +kernel, hs⟩]
  congr 1
  funext x
  unfold validAt
  rw [hk]
  rfl
theorem valid_at_pos (s : ByteArray) (hs : s.size ≤ 4294967296) : micro_Valid.f ⟨#[112, 111, 115]⟩ s = (plainF 100 s).bind fun x => some (x.2 && decide (x.1 > 0)) := by
  have hk : (kWord ⟨#[112, 111, 115]⟩).toList = [112, 111, 115] := by decide +kernel
  unfold micro_Valid.f validF
  rw [if_pos ⟨by decide +kernel, by decide +kernel, hs⟩]
  congr 1
  funext x
  unfold validAt
  rw [hk]
  rfl
theorem valid_at_span (s : ByteArray) (hs : s.size ≤ 4294967296) : micro_Valid.f ⟨#[115, 112, 97, 110]⟩ s = (plainF 100 s).bind fun x => some (x.2 && decide (x.1 > 0) && decide (x.1 ≤ 1000)) := by
  have hk : (kWord ⟨#[115, 112, 97, 110]⟩).toList = [115, 112, 97, 110] := by decide +kernel
  unfold micro_Valid.f validF
  rw [if_pos ⟨by decide +kernel, by decide +kernel, hs⟩]
  congr 1
  funext x
  unfold validAt
  rw [hk]
  rfl
theorem valid_at_id (s : ByteArray) (hs : s.size ≤ 4294967296) : micro_Valid.f ⟨#[105, 100]⟩ s = (plainF 100 s).bind fun x => some (decide (tokens s = [s])) := by
  have hk : (kWord ⟨#[105, 100]⟩).toList = [105, 100] := by decide +kernel
  unfold micro_Valid.f validF
  rw [if_pos ⟨by decide +kernel, by decide +kernel, hs⟩]
  congr 1
  funext x
  unfold validAt
  rw [hk]
  rfl
theorem valid_at_ids (s : ByteArray) (hs : s.size ≤ 4294967296) : micro_Valid.f ⟨#[105, 100, 115]⟩ s = (plainF 100 s).bind fun x => some (decide ((tokens s).length > 0)) := by
  have hk : (kWord ⟨#[105, 100, 115]⟩).toList = [105, 100, 115] := by decide +kernel
  unfold micro_Valid.f validF
  rw [if_pos ⟨by decide +kernel, by decide +kernel, hs⟩]
  congr 1
  funext x
  unfold validAt
  rw [hk]
  rfl
theorem valid_at_float (s : ByteArray) (hs : s.size ≤ 4294967296) : micro_Valid.f ⟨#[102, 108, 111, 97, 116]⟩ s = (plainF 100 s).bind fun x => floatF 100 s := by
  have hk : (kWord ⟨#[102, 108, 111, 97, 116]⟩).toList = [102, 108, 111, 97, 116] := by decide +kernel
  unfold micro_Valid.f validF
  rw [if_pos ⟨by decide +kernel, by decide +kernel, hs⟩]
  congr 1
  funext x
  unfold validAt
  rw [hk]
  rfl
theorem valid_at_tokens (s : ByteArray) (hs : s.size ≤ 4294967296) : micro_Valid.f ⟨#[116, 111, 107, 101, 110, 115]⟩ s = (plainF 100 s).bind fun x => if s.size ≤ 1048576 then some (decide ((tokens s).length > 0) && (joinS (tokens s)).toList == (joinS (wordsOf s)).toList) else none := by
  have hk : (kWord ⟨#[116, 111, 107, 101, 110, 115]⟩).toList = [116, 111, 107, 101, 110, 115] := by decide +kernel
  unfold micro_Valid.f validF
  rw [if_pos ⟨by decide +kernel, by decide +kernel, hs⟩]
  congr 1
  funext x
  unfold validAt
  rw [hk]
  rfl
end Go.Proofs.YtnfjohpecedpnaaDoor.Pure
