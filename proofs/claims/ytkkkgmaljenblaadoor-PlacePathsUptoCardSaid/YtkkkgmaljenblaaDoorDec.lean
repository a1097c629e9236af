/- Decimal numerals of lists of bytes, and pieces between slashes: plain laws. -/
import Derived.Lib.AtoiAll
import Derived.Lib.ItoaNum
import Derived.Lib.ItoaMem
import Derived.Lib.SplitLaws
namespace Go.Proofs.YtkkkgmaljenblaaDoor.Dec
open Go

def isD (c : UInt8) : Bool := decide (48 ≤ c.toNat ∧ c.toNat ≤ 57)
theorem isD_of {c : UInt8} (h0 : 48 ≤ c.toNat) (h1 : c.toNat ≤ 57) : isD c = true := decide_eq_true ⟨h0, h1⟩
theorem isD_out {c : UInt8} (h : isD c = true) : 48 ≤ c.toNat ∧ c.toNat ≤ 57 := of_decide_eq_true h
def val (acc : Nat) : List UInt8 → Nat
  | [] => acc
  | c :: r => val (10 * acc + (c.toNat - 48)) r
theorem val_append (xs ys : List UInt8) : ∀ acc, val acc (xs ++ ys) = val (val acc xs) ys := by
  induction xs with
  | nil => intro acc; rfl
  | cons c r ih => intro acc; exact ih _
theorem val_ge (xs : List UInt8) : ∀ acc, acc ≤ val acc xs := by
  induction xs with
  | nil => intro acc; exact Nat.le_refl _
  | cons c r ih => intro acc; have := ih (10 * acc + (c.toNat - 48)); show acc ≤ val (10 * acc + (c.toNat - 48)) r; omega
theorem val_lt (xs : List UInt8) : ∀ acc, (∀ c ∈ xs, isD c = true) → val acc xs < (acc + 1) * 10 ^ xs.length := by
  induction xs with
  | nil => intro acc _; show acc < (acc + 1) * 1; omega
  | cons c r ih =>
    intro acc h
    have h1 := ih (10 * acc + (c.toNat - 48)) (fun x hx => h x (List.mem_cons_of_mem _ hx))
    have h2 := isD_out (h c (List.mem_cons_self ..))
    show val (10 * acc + (c.toNat - 48)) r < (acc + 1) * 10 ^ (r.length + 1)
    rw [Nat.pow_succ, Nat.mul_comm (10 ^ r.length) 10, ← Nat.mul_assoc]
    exact Nat.lt_of_lt_of_le h1 (Nat.mul_le_mul_right _ (by omega))
theorem val_lt18 {xs : List UInt8} (h : ∀ c ∈ xs, isD c = true) (hl : xs.length ≤ 18) : val 0 xs < 1000000000000000000 := by
  have := val_lt xs 0 h
  have h2 : 10 ^ xs.length ≤ 10 ^ 18 := Nat.pow_le_pow_right (by decide) hl
  omega
theorem ofNat_toNat {n : Nat} (h : n < 256) : (UInt8.ofNat n).toNat = n := by simp; omega
theorem dec_out (u : Nat) : val 0 (Lib.decDigits u) = u ∧ (∀ c ∈ Lib.decDigits u, isD c = true) ∧ ∃ c r, Lib.decDigits u = c :: r ∧ (c.toNat = 48 → r = [] ∧ u = 0) := by
  induction u using Nat.strongRecOn with
  | _ u ih =>
    by_cases h : u < 10
    · rw [Lib.decDigits_one h]
      have e : (UInt8.ofNat (48 + u)).toNat = 48 + u := ofNat_toNat (by omega)
      refine ⟨?_, ?_, _, _, rfl, ?_⟩
      · show 10 * 0 + ((UInt8.ofNat (48 + u)).toNat - 48) = u
        omega
      · intro c hc
        rw [List.mem_singleton] at hc
        subst hc
        exact isD_of (by omega) (by omega)
      · intro e2
        exact ⟨rfl, by omega⟩
    · rw [Lib.decDigits, dif_neg h]
      obtain ⟨i1, i2, c, r, i3, i4⟩ := ih (u / 10) (by omega)
      have e : (UInt8.ofNat (48 + u % 10)).toNat = 48 + u % 10 := ofNat_toNat (by omega)
      refine ⟨?_, ?_, c, r ++ [UInt8.ofNat (48 + u % 10)], by rw [i3]; rfl, ?_⟩
      · rw [val_append, i1]
        show 10 * (u / 10) + ((UInt8.ofNat (48 + u % 10)).toNat - 48) = u
        omega
      · intro d hd
        rcases List.mem_append.1 hd with hd | hd
        · exact i2 d hd
        · rw [List.mem_singleton] at hd
          subst hd
          exact isD_of (by omega) (by omega)
      · intro e2
        have := (i4 e2).2
        omega
theorem dec_len {u : Nat} (h : u < 1000000000000000000) : (Lib.decDigits u).length ≤ 18 := by
  have key : ∀ (k u : Nat), u < 10 ^ (k + 1) → Lib.nDigits u ≤ k + 1 := by
    intro k
    induction k with
    | zero => intro u h; rw [Lib.nDigits_small (by simpa using h)]; exact Nat.le_refl _
    | succ k ih =>
      intro u h
      by_cases h1 : u < 10
      · rw [Lib.nDigits_small h1]; omega
      · rw [Lib.nDigits_big h1]
        rw [Nat.pow_succ] at h
        have := ih (u / 10) (by omega)
        omega
  rw [Lib.decDigits_length]
  exact key 17 u (by omega)
theorem digits_dec : ∀ (n : Nat) (c : UInt8) (r : List UInt8), r.length ≤ n → (∀ x ∈ c :: r, isD x = true) → (c.toNat = 48 → r = []) → Lib.decDigits (val 0 (c :: r)) = c :: r := by
  intro n
  induction n with
  | zero =>
    intro c r hl hd _
    obtain rfl : r = [] := List.length_eq_zero_iff.1 (by omega)
    have h1 := isD_out (hd c (List.mem_cons_self ..))
    have e : val 0 [c] = c.toNat - 48 := by show 10 * 0 + (c.toNat - 48) = _; omega
    rw [e, Lib.decDigits_one (by omega)]
    congr 1
    apply UInt8.toNat_inj.1
    rw [ofNat_toNat (by omega)]
    omega
  | succ n ih =>
    intro c r hl hd hz
    rcases List.eq_nil_or_concat r with rfl | ⟨r', d, rfl⟩
    · exact ih c [] (by simp) hd hz
    · rw [List.concat_eq_append] at *
      have hc : c.toNat ≠ 48 := fun e => by simpa using hz e
      have h1 := isD_out (hd c (List.mem_cons_self ..))
      have h2 := isD_out (hd d (by simp))
      have i := ih c r' (by simp at hl; omega) (fun x hx => hd x (by rcases List.mem_cons.1 hx with rfl | hx <;> simp [*])) (fun e => absurd e hc)
      have e1 : val 0 (c :: (r' ++ [d])) = 10 * val 0 (c :: r') + (d.toNat - 48) := by
        rw [← List.cons_append, val_append]
        rfl
      have e2 : 1 ≤ val 0 (c :: r') := by
        have := val_ge r' (10 * 0 + (c.toNat - 48))
        have e3 : val 0 (c :: r') = val (10 * 0 + (c.toNat - 48)) r' := rfl
        omega
      rw [e1, Lib.decDigits, dif_neg (by omega), show (10 * val 0 (c :: r') + (d.toNat - 48)) / 10 = val 0 (c :: r') from by omega, i, show (10 * val 0 (c :: r') + (d.toNat - 48)) % 10 = d.toNat - 48 from by omega, List.cons_append]
      congr 2
      congr 1
      apply UInt8.toNat_inj.1
      rw [ofNat_toNat (by omega)]
      omega
theorem parse_digits (s : List UInt8) : ∀ acc, (∀ c ∈ s, isD c = true) → val acc s < 1000000000000000000 → Lib.parseUint10 acc s = .ok (val acc s) := by
  induction s with
  | nil => intro acc _ _; rfl
  | cons c r ih =>
    intro acc h hv
    have h1 := isD_out (h c (List.mem_cons_self ..))
    have e : val acc (c :: r) = val (10 * acc + (c.toNat - 48)) r := rfl
    have h2 := val_ge r (10 * acc + (c.toNat - 48))
    rw [e] at hv ⊢
    rw [Lib.parseUint10, if_pos h1, if_neg (by omega), if_neg (by omega), Nat.mul_comm acc 10]
    exact ih _ (fun x hx => h x (List.mem_cons_of_mem _ hx)) hv

def stepL (s : List UInt8) : Option Int :=
  match Lib.atoiAll s with
  | .ok v => if v < 0 then none else if 18 < s.length then none else if Lib.itoa v = s then some v else none
  | _ => none
theorem stepL_digits {c : UInt8} {r : List UInt8} (hd : ∀ x ∈ c :: r, isD x = true) (hz : c.toNat = 48 → r = []) (hl : (c :: r).length ≤ 18) : stepL (c :: r) = some (val 0 (c :: r) : Int) := by
  have h1 := isD_out (hd c (List.mem_cons_self ..))
  have hv := val_lt18 hd hl
  have ha : Lib.atoiAll (c :: r) = .ok (val 0 (c :: r) : Int) := by
    unfold Lib.atoiAll
    simp only
    rw [if_neg (by omega), Lib.parseMag, if_neg (by simp), parse_digits _ 0 hd hv]
    simp only
    rw [if_neg (by omega), if_neg (by omega), if_neg (by omega)]
  unfold stepL
  rw [ha]
  simp only
  rw [if_neg (by omega), if_neg (by omega), if_pos]
  rw [Lib.itoa_nonneg]
  exact digits_dec _ c r (Nat.le_refl _) hd hz
theorem stepL_out {s : List UInt8} {v : Int} (h : stepL s = some v) : ∃ u : Nat, v = u ∧ s = Lib.decDigits u ∧ s.length ≤ 18 := by
  unfold stepL at h
  split at h
  · split at h
    · cases h
    · split at h
      · cases h
      · split at h
        · rename_i v' _ h0 h1 h2
          cases h
          refine ⟨v.toNat, by omega, ?_, by omega⟩
          have e := Lib.itoa_nonneg v.toNat
          rw [show ((v.toNat : Nat) : Int) = v from by omega, h2] at e
          exact e
        · cases h
  · cases h
theorem stepL_dec {u : Nat} (h : u < 1000000000000000000) : stepL (Lib.decDigits u) = some (u : Int) := by
  obtain ⟨h1, h2, c, r, h3, h4⟩ := dec_out u
  have := stepL_digits (c := c) (r := r) (by rw [← h3]; exact h2) (fun e => (h4 e).1) (by rw [← h3]; exact dec_len h)
  rw [← h3, h1] at this
  exact this
theorem stepL_nil : stepL [] = none := rfl
/-- No number: another byte, too many, or a nought ahead. -/
theorem stepL_other {s : List UInt8} (h : ∃ c ∈ s, isD c = false) : stepL s = none := by
  cases e : stepL s with
  | none => rfl
  | some v =>
    obtain ⟨u, _, rfl, _⟩ := stepL_out e
    obtain ⟨c, hc, hd⟩ := h
    rw [(dec_out u).2.1 c hc] at hd
    cases hd
theorem stepL_long {s : List UInt8} (h : 18 < s.length) : stepL s = none := by
  cases e : stepL s with
  | none => rfl
  | some v => obtain ⟨u, _, _, h2⟩ := stepL_out e; omega
theorem stepL_nought {c : UInt8} {r : List UInt8} (h : c.toNat = 48) (hr : r ≠ []) : stepL (c :: r) = none := by
  cases e : stepL (c :: r) with
  | none => rfl
  | some v =>
    obtain ⟨u, _, h1, _⟩ := stepL_out e
    obtain ⟨_, _, c', r', h3, h4⟩ := dec_out u
    rw [h3] at h1
    cases h1
    exact absurd (h4 h).1 hr

/-! ### pieces -/
def consH (c : UInt8) : List (List UInt8) → List (List UInt8)
  | h :: t => (c :: h) :: t
  | [] => [[c]]
def sp : List UInt8 → List (List UInt8)
  | [] => [[]]
  | c :: r => if c = 47 then [] :: sp r else consH c (sp r)
theorem sp_cons (l : List UInt8) : ∃ h t, sp l = h :: t := by
  induction l with
  | nil => exact ⟨_, _, rfl⟩
  | cons c r ih =>
    obtain ⟨h, t, e⟩ := ih
    unfold sp
    split
    · exact ⟨_, _, rfl⟩
    · rw [e]; exact ⟨_, _, rfl⟩
theorem sp_run (xs R : List UInt8) (h : ∀ c ∈ xs, c ≠ 47) {g : List UInt8} {t : List (List UInt8)} (hR : sp R = g :: t) : sp (xs ++ R) = (xs ++ g) :: t := by
  induction xs with
  | nil => exact hR
  | cons c r ih =>
    rw [List.cons_append, sp, if_neg (h c (List.mem_cons_self ..)), ih (fun x hx => h x (List.mem_cons_of_mem _ hx))]
    rfl
theorem split_other (c : UInt8) (l : List UInt8) (h : c ≠ 47) (k : Nat) : Lib.splitK [47] 0 k (c :: l) = consH c (Lib.splitK [47] 0 k l) := by
  cases k with
  | zero => rfl
  | succ k =>
    have hp : ([47] : List UInt8).isPrefixOf (c :: l) = false := by simp [List.isPrefixOf, Ne.symm h]
    have hix : Lib.index (c :: l) [47] = if Lib.index l [47] == -1 then -1 else Lib.index l [47] + 1 := by rw [Lib.index, hp]; simp
    by_cases hm : Lib.index l [47] = -1
    · unfold Lib.splitK
      rw [hix, if_pos (beq_iff_eq.2 hm), if_pos (by decide), if_pos (beq_iff_eq.2 hm)]
      rfl
    · have hge := Lib.index_ge l [47]
      obtain ⟨j, hj⟩ : ∃ j : Nat, Lib.index l [47] = j := ⟨(Lib.index l [47]).toNat, by omega⟩
      unfold Lib.splitK
      rw [hix, if_neg (fun e => hm (beq_iff_eq.1 e)), if_neg (fun e => by have := beq_iff_eq.1 e; omega), if_neg (fun e => hm (beq_iff_eq.1 e)), hj]
      rw [show ((j : Int) + 1).toNat = j + 1 from by omega, show ((j : Int)).toNat = j from by omega]
      rfl
theorem split_sp (l : List UInt8) : Lib.splitK [47] 0 (Lib.count l [47]) l = sp l := by
  induction l with
  | nil => rw [Lib.count_one]; rfl
  | cons c l ih =>
    by_cases h : c = 47
    · subst h
      have hix : Lib.index ((47 : UInt8) :: l) [47] = ((0 : Nat) : Int) := by rw [Lib.index]; simp [List.isPrefixOf]
      rw [Lib.count_cons_eq, Nat.add_comm, Lib.splitK, hix, if_neg (by decide), sp, if_pos rfl]
      simp [ih]
    · rw [Lib.count_cons_ne c 47 l h, split_other c l h, ih, sp, if_neg h]
end Go.Proofs.YtkkkgmaljenblaaDoor.Dec
