/- The parts of micro's scan over lists of bytes: each either goes on, or the scan is bad for good; a date, and the document's date. -/
import Derived.Test.YtnfjohpecedpnaaGreatDoorScan
import Derived.Test.YtnfjohpecedpnaaGreatDoorHDate
set_option linter.unusedVariables false
namespace Go.Proofs.YtnfjohpecedpnaaGreatDoor.Spec
open Go Go.RowKit Go.Proofs.YtnfjohpecedpnaaGreatDoor.PM Go.Proofs.YtnfjohpecedpnaaGreatDoor.Scan Go.Proofs.YtnfjohpecedpnaaGreatDoorW.PrintWords Go.Proofs.YtnfjohpecedpnaaGreatDoorW.PrintLast

/-- What a part does that tells a value: it goes on where its law does, else the scan is bad. -/
def Tells {α : Type} (F : Option (α × ByteArray × Bool)) (S : Option (α × List UInt8)) (b : Bool) (n : Nat) : Prop :=
  (b = false → ∀ v r, S = some (v, r) → F = some (v, ofL r, false)) ∧ ((b = true ∨ S = none) → ∃ v r, F = some (v, ofL r, true) ∧ r.length ≤ n)
def Goes (F : Option (ByteArray × Bool)) (S : Option (List UInt8)) (b : Bool) (n : Nat) : Prop :=
  (b = false → ∀ r, S = some r → F = some (ofL r, false)) ∧ ((b = true ∨ S = none) → ∃ r, F = some (ofL r, true) ∧ r.length ≤ n)
def digitsS (least most : Nat) (l : List UInt8) : Option (Int × List UInt8) := if lead most l < least then none else some ((val 0 (l.take (lead most l)) : Int), l.drop (lead most l))
def mustS (set l : List UInt8) : Option (List UInt8) := match l with
  | [] => none
  | c :: r => if c ∈ set then some r else none
def uptoS (a b : Int) (l : List UInt8) : Option (Int × List UInt8) := (digitsS 2 2 l).bind fun x => if x.1 < a ∨ x.1 > b then none else some x
theorem mustS_hit {set : List UInt8} {c : UInt8} (r : List UInt8) (h : c ∈ set) : mustS set (c :: r) = some r := if_pos h
theorem mustS_miss {set : List UInt8} {c : UInt8} (r : List UInt8) (h : ¬ c ∈ set) : mustS set (c :: r) = none := if_neg h
theorem digits_tells (k : Nat) (l : List UInt8) (b : Bool) (least most : Nat) (hm : most ≤ 18) (hl : l.length ≤ 281474976710656) (hk : most < k) : Tells (micro_scan_digits.f k (ofL l) b least most) (digitsS least most l) b l.length := by
  rw [digits_f k l b least most (by omega) hl hk]
  have hv : atoiV (l.take (lead most l)) = (val 0 (l.take (lead most l)) : Int) := atoi_digits (lead_all most l) (by have := lead_most most l; rw [List.length_take]; omega)
  unfold digitsS
  constructor
  · rintro rfl v r h
    split at h
    · cases h
    · rename_i h2
      rw [if_neg h2, hv]
      cases h
      rfl
  · intro h
    split
    · exact ⟨_, _, rfl, Nat.le_refl _⟩
    · rename_i h2
      rcases h with rfl | h
      · exact ⟨_, _, rfl, by simp⟩
      · rw [if_neg h2] at h; cases h
theorem must_goes (l set : List UInt8) (b : Bool) (h0 : ∀ c ∈ set, c.toNat ≠ 0) : Goes (micro_scan_must.f (ofL l) b (ofL set)) (mustS set l) b l.length := by
  unfold micro_scan_must.f
  cases l with
  | nil =>
    rw [sign_nil, Option.bind_some]
    exact ⟨fun _ r h => (by cases h), fun _ => ⟨[], rfl, Nat.le_refl _⟩⟩
  | cons c r =>
    by_cases h : c ∈ set
    · rw [sign_hit set c r b h, Option.bind_some]
      simp only
      rw [if_neg (by have := h0 c h; omega)]
      rw [mustS_hit r h]
      exact ⟨fun hb r' h' => by subst hb; cases h'; rfl, fun h' => by
        rcases h' with rfl | h'
        · exact ⟨r, rfl, by simp⟩
        · cases h'⟩
    · rw [sign_miss set c r b h, Option.bind_some]
      simp only
      rw [if_pos trivial, mustS_miss r h]
      exact ⟨fun _ r h => (by cases h), fun _ => ⟨_, rfl, Nat.le_refl _⟩⟩
theorem upto_tells (k : Nat) (l : List UInt8) (b : Bool) (a1 a2 : Int) (hl : l.length ≤ 281474976710656) (hk : 2 < k) : Tells (micro_scan_upto.f k (ofL l) b a1 a2) (uptoS a1 a2 l) b l.length := by
  have h := digits_tells k l b 2 2 (by decide) hl hk
  unfold micro_scan_upto.f uptoS
  rw [show ((2 : Nat) : Int) = 2 from rfl] at h
  constructor
  · rintro rfl v r hS
    obtain ⟨⟨x, r'⟩, h1, h2⟩ := Option.bind_eq_some_iff.1 hS
    simp only at h2
    split at h2
    · cases h2
    · rename_i hn
      cases h2
      rw [h.1 rfl v r h1, Option.bind_some]
      simp only
      rw [if_neg (by omega), if_neg (by omega)]
  · intro hS
    cases hd : digitsS 2 2 l with
    | none =>
      obtain ⟨v, r, e, hr⟩ := h.2 (.inr hd)
      rw [e, Option.bind_some]
      simp only
      refine ⟨v, r, ?_, hr⟩
      split
      · rfl
      · split <;> rfl
    | some x =>
      cases b with
      | true =>
        obtain ⟨v, r, e, hr⟩ := h.2 (.inl rfl)
        rw [e, Option.bind_some]
        simp only
        refine ⟨v, r, ?_, hr⟩
        split
        · rfl
        · split <;> rfl
      | false =>
        obtain ⟨x, r⟩ := x
        rw [h.1 rfl x r hd, Option.bind_some]
        rw [hd, Option.bind_some] at hS
        simp only at hS ⊢
        have hr : r.length ≤ l.length := by
          unfold digitsS at hd
          split at hd
          · cases hd
          · cases hd; simp
        refine ⟨x, r, ?_, hr⟩
        rcases hS with h' | h'
        · cases h'
        · by_cases c1 : x < a1
          · rw [if_pos c1]
          · rw [if_neg c1]
            by_cases c2 : x > a2
            · rw [if_pos c2]
            · rw [if_neg (by omega)] at h'; cases h'
/-! A part behind a part. -/
theorem Goes.len {F : Option (ByteArray × Bool)} {S : Option (List UInt8)} {b : Bool} {n : Nat} (h : Goes F S b n) (hS : ∀ r, S = some r → r.length ≤ n) : ∃ r b', F = some (ofL r, b') ∧ r.length ≤ n ∧ ((b' = false ∧ b = false ∧ S = some r) ∨ (b' = true ∧ (b = true ∨ S = none))) := by
  by_cases hb : b = true ∨ S = none
  · obtain ⟨r, e, hr⟩ := h.2 hb
    exact ⟨r, true, e, hr, .inr ⟨rfl, hb⟩⟩
  · have hb1 : b = false := by cases b; rfl; exact absurd (.inl rfl) hb
    cases hs : S with
    | none => exact absurd (.inr hs) hb
    | some r => exact ⟨r, false, h.1 hb1 r hs, hS r hs, .inl ⟨rfl, hb1, rfl⟩⟩
theorem Tells.len {α : Type} {F : Option (α × ByteArray × Bool)} {S : Option (α × List UInt8)} {b : Bool} {n : Nat} (h : Tells F S b n) (hS : ∀ v r, S = some (v, r) → r.length ≤ n) : ∃ v r b', F = some (v, ofL r, b') ∧ r.length ≤ n ∧ ((b' = false ∧ b = false ∧ S = some (v, r)) ∨ (b' = true ∧ (b = true ∨ S = none))) := by
  by_cases hb : b = true ∨ S = none
  · obtain ⟨v, r, e, hr⟩ := h.2 hb
    exact ⟨v, r, true, e, hr, .inr ⟨rfl, hb⟩⟩
  · have hb1 : b = false := by cases b; rfl; exact absurd (.inl rfl) hb
    cases hs : S with
    | none => exact absurd (.inr hs) hb
    | some x => obtain ⟨v, r⟩ := x; exact ⟨v, r, false, h.1 hb1 v r hs, hS v r hs, .inl ⟨rfl, hb1, rfl⟩⟩
theorem digitsS_len {least most : Nat} {l : List UInt8} : ∀ v r, digitsS least most l = some (v, r) → r.length ≤ l.length := by
  intro v r h
  unfold digitsS at h
  split at h
  · cases h
  · cases h; simp
theorem mustS_len {set l : List UInt8} : ∀ r, mustS set l = some r → r.length ≤ l.length := by
  intro r h
  cases l with
  | nil => cases h
  | cons c t =>
    by_cases hc : c ∈ set
    · rw [mustS_hit t hc] at h; cases h; simp
    · rw [mustS_miss t hc] at h; cases h
theorem uptoS_len {a b : Int} {l : List UInt8} : ∀ v r, uptoS a b l = some (v, r) → r.length ≤ l.length := by
  intro v r h
  obtain ⟨⟨x, r'⟩, h1, h2⟩ := Option.bind_eq_some_iff.1 h
  simp only at h2
  split at h2
  · cases h2
  · cases h2; exact digitsS_len _ _ h1
/-! Month and date. -/
def monthS (l : List UInt8) : Option ((Int × Int) × List UInt8) := (digitsS 4 4 l).bind fun x => if x.1 < 1 then none else (mustS [45] x.2).bind fun r => (uptoS 1 12 r).bind fun y => some ((x.1, y.1), y.2)
def dateS (l : List UInt8) : Option ((Int × Int × Int) × List UInt8) := (monthS l).bind fun x => (mustS [45] x.2).bind fun r => (uptoS 1 (daysOf x.1.1 x.1.2) r).bind fun y => some ((x.1.1, x.1.2, y.1), y.2)
theorem h45 : ∀ c ∈ ([45] : List UInt8), c.toNat ≠ 0 := by decide
theorem month_at (k : Nat) (l : List UInt8) (b : Bool) (hl : l.length ≤ 281474976710656) (hk : 4 < k) : ∃ y m r b', micro_scan_month.f k (ofL l) b = some (y, m, ofL r, b') ∧ r.length ≤ l.length ∧ ((b' = false ∧ b = false ∧ monthS l = some ((y, m), r)) ∨ (b' = true ∧ (b = true ∨ monthS l = none))) := by
  obtain ⟨y, r1, b1, e1, l1, c1⟩ := (digits_tells k l b 4 4 (by decide) hl hk).len digitsS_len
  rw [show ((4 : Nat) : Int) = 4 from rfl] at e1
  unfold micro_scan_month.f monthS
  rw [e1, Option.bind_some]
  simp only
  have hm : ∀ b2, ∃ r2 b3, micro_scan_must.f (ofL r1) b2 ⟨#[45]⟩ = some (ofL r2, b3) ∧ r2.length ≤ r1.length ∧ ((b3 = false ∧ b2 = false ∧ mustS [45] r1 = some r2) ∨ (b3 = true ∧ (b2 = true ∨ mustS [45] r1 = none))) := fun b2 => (must_goes r1 [45] b2 h45).len mustS_len
  by_cases hy : y < 1
  · rw [if_pos hy]
    obtain ⟨r2, b3, e2, l2, c2⟩ := hm true
    obtain ⟨m, r3, b4, e3, l3, c3⟩ := (upto_tells k r2 b3 1 12 (by omega) (by omega)).len uptoS_len
    rw [e2, Option.bind_some]
    simp only
    rw [e3, Option.bind_some]
    refine ⟨y, m, r3, b4, rfl, by omega, .inr ?_⟩
    have hb3 : b3 = true := by rcases c2 with ⟨_, h, _⟩ | ⟨h, _⟩; cases h; exact h
    have hb4 : b4 = true := by rcases c3 with ⟨_, h, _⟩ | ⟨h, _⟩; rw [hb3] at h; cases h; exact h
    refine ⟨hb4, ?_⟩
    rcases c1 with ⟨_, _, h⟩ | ⟨_, h | h⟩
    · right; rw [h, Option.bind_some, if_pos hy]
    · exact .inl h
    · right; rw [h]; rfl
  · rw [if_neg hy]
    obtain ⟨r2, b3, e2, l2, c2⟩ := hm b1
    obtain ⟨m, r3, b4, e3, l3, c3⟩ := (upto_tells k r2 b3 1 12 (by omega) (by omega)).len uptoS_len
    rw [e2, Option.bind_some]
    simp only
    rw [e3, Option.bind_some]
    refine ⟨y, m, r3, b4, rfl, by omega, ?_⟩
    rcases c1 with ⟨hb1, hb, h1⟩ | ⟨hb1, h1⟩
    · rw [h1, Option.bind_some]
      simp only
      rw [if_neg hy]
      rcases c2 with ⟨hb3, _, h2⟩ | ⟨hb3, h2⟩
      · rw [h2, Option.bind_some]
        rcases c3 with ⟨hb4, _, h3⟩ | ⟨hb4, h3⟩
        · left; rw [h3]; exact ⟨hb4, hb, rfl⟩
        · right
          refine ⟨hb4, .inr ?_⟩
          rcases h3 with h3 | h3
          · rw [hb3] at h3; cases h3
          · rw [h3]; rfl
      · right
        refine ⟨?_, .inr ?_⟩
        · rcases c3 with ⟨_, h, _⟩ | ⟨h, _⟩
          · rw [hb3] at h; cases h
          · exact h
        · rcases h2 with h2 | h2
          · rw [hb1] at h2; cases h2
          · rw [h2]; rfl
    · right
      have hb3 : b3 = true := by rcases c2 with ⟨_, h, _⟩ | ⟨h, _⟩; rw [hb1] at h; cases h; exact h
      refine ⟨?_, ?_⟩
      · rcases c3 with ⟨_, h, _⟩ | ⟨h, _⟩
        · rw [hb3] at h; cases h
        · exact h
      · rcases h1 with h1 | h1
        · exact .inl h1
        · right; rw [h1]; rfl
theorem date_at (k : Nat) (l : List UInt8) (b : Bool) (hl : l.length ≤ 281474976710656) (hk : 4 < k) : ∃ y m d r b', micro_scan_date.f k (ofL l) b = some (y, m, d, ofL r, b') ∧ r.length ≤ l.length ∧ ((b' = false ∧ b = false ∧ dateS l = some ((y, m, d), r)) ∨ (b' = true ∧ (b = true ∨ dateS l = none))) := by
  obtain ⟨y, m, r1, b1, e1, l1, c1⟩ := month_at k l b hl hk
  unfold micro_scan_date.f dateS micro_Days.f
  rw [e1, Option.bind_some]
  simp only
  obtain ⟨r2, b2, e2, l2, c2⟩ := (must_goes r1 [45] b1 h45).len mustS_len
  rw [show (⟨#[45]⟩ : ByteArray) = ofL [45] from rfl, e2, Option.bind_some]
  simp only
  rw [Option.bind_some]
  obtain ⟨d, r3, b3, e3, l3, c3⟩ := (upto_tells k r2 b2 1 (daysOf y m) (by omega) (by omega)).len uptoS_len
  rw [e3, Option.bind_some]
  refine ⟨y, m, d, r3, b3, rfl, by omega, ?_⟩
  rcases c1 with ⟨hb1, hb, h1⟩ | ⟨hb1, h1⟩
  · rw [h1, Option.bind_some]
    simp only
    rcases c2 with ⟨hb2, _, h2⟩ | ⟨hb2, h2⟩
    · rw [h2, Option.bind_some]
      rcases c3 with ⟨hb3, _, h3⟩ | ⟨hb3, h3⟩
      · left; rw [h3]; exact ⟨hb3, hb, rfl⟩
      · right
        refine ⟨hb3, .inr ?_⟩
        rcases h3 with h3 | h3
        · rw [hb2] at h3; cases h3
        · rw [h3]; rfl
    · right
      refine ⟨?_, .inr ?_⟩
      · rcases c3 with ⟨_, h, _⟩ | ⟨h, _⟩
        · rw [hb2] at h; cases h
        · exact h
      · rcases h2 with h2 | h2
        · rw [hb1] at h2; cases h2
        · rw [h2]; rfl
  · right
    have hb2 : b2 = true := by rcases c2 with ⟨_, h, _⟩ | ⟨h, _⟩; rw [hb1] at h; cases h; exact h
    refine ⟨?_, ?_⟩
    · rcases c3 with ⟨_, h, _⟩ | ⟨h, _⟩
      · rw [hb2] at h; cases h
      · exact h
    · rcases h1 with h1 | h1
      · exact .inl h1
      · right; rw [h1]; rfl
/-- A whole date, or none. -/
def dateD (l : List UInt8) : Int × Int × Int × Bool := match dateS l with
  | some ((y, m, d), []) => (y, m, d, true)
  | _ => (0, 0, 0, false)
theorem Date_at (k : Nat) (l : List UInt8) (hl : l.length ≤ 281474976710656) (hk : 4 < k) : micro_Date.f k (ofL l) = some (dateD l) := by
  unfold micro_Date.f dateD
  obtain ⟨y, m, d, r, b', e, lr, c⟩ := date_at k l false hl hk
  rw [e, Option.bind_some]
  simp only
  rw [over_f, Option.bind_some]
  simp only
  rcases c with ⟨rfl, _, h⟩ | ⟨rfl, h | h⟩
  · rw [h]
    cases r with
    | nil => rfl
    | cons x t => rfl
  · cases h
  · rw [h]; rfl
end Go.Proofs.YtnfjohpecedpnaaGreatDoor.Spec
