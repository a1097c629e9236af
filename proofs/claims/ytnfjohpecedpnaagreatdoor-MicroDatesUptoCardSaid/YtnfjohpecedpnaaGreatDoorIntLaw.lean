/- The number of any text: what micro.Int and the document's Int tell, in plain words. -/
import Derived.Test.YtnfjohpecedpnaaGreatDoorPMx9
import Derived.Test.YtnfjohpecedpnaaGreatDoorPMx7
import Derived.Test.YtnfjohpecedpnaaGreatDoorScan
set_option linter.unusedVariables false
namespace Go.Proofs.YtnfjohpecedpnaaGreatDoor.Pure
open Go.RowKit Go.Proofs.YtnfjohpecedpnaaGreatDoor.PM Go.Proofs.YtnfjohpecedpnaaGreatDoor.Scan Go.Proofs.YtnfjohpecedpnaaGreatDoorW.PrintWords Go.Proofs.YtnfjohpecedpnaaGreatDoorW.PrintLast
theorem speaks_num : beadlelaw18_speaks.f = some true := by decide +kernel
/-- The digits of a text behind its sign; the number. -/
def tailOf (l : List UInt8) : List UInt8 := match l with
  | [] => []
  | c :: r => if c = 45 then r else c :: r
def okOf (l : List UInt8) : Bool := decide (tailOf l ≠ [] ∧ (∀ c ∈ tailOf l, isD c = true) ∧ (tailOf l).length ≤ 9)
def numOf (l : List UInt8) : Int := if okOf l = true then (if (tailOf l).length < l.length then -(val 0 (tailOf l) : Int) else (val 0 (tailOf l) : Int)) else 0
theorem lead_full {d : List UInt8} {n : Nat} (h : ∀ c ∈ d, isD c = true) (hl : d.length ≤ n) : lead n d = d.length := by
  rcases lead_end n d with h1 | h1 | ⟨c, h1, h2⟩
  · have := lead_len n d; omega
  · exact h1
  · have := h c (List.mem_of_getElem? h1); rw [this] at h2; cases h2
theorem lead_zero {d : List UInt8} {n : Nat} (hn : 0 < n) (h : lead n d = 0) : d = [] ∨ ∃ c r, d = c :: r ∧ isD c = false := by
  rcases lead_end n d with h1 | h1 | ⟨c, h1, h2⟩
  · omega
  · exact .inl (List.eq_nil_of_length_eq_zero (by omega))
  · rw [h] at h1
    cases d with
    | nil => exact .inl rfl
    | cons x r => simp at h1; subst h1; exact .inr ⟨_, _, rfl, h2⟩
theorem val9 {d : List UInt8} (h : ∀ c ∈ d, isD c = true) (hl : d.length ≤ 9) : val 0 d < 1000000000 := by
  have := val_lt d 0 h
  have h2 : 10 ^ d.length ≤ 10 ^ 9 := Nat.pow_le_pow_right (by decide) hl
  omega
theorem digits19 (k : Nat) (d : List UInt8) (b : Bool) (hl : d.length ≤ 281474976710656) (hk : 9 < k) : micro_scan_digits.f k (ofL d) b 1 9 = if lead 9 d < 1 then some (0, ofL d, true) else some (atoiV (d.take (lead 9 d)), ofL (d.drop (lead 9 d)), b) :=
  digits_f k d b 1 9 (by decide) hl hk
theorem tail_int (k : Nat) (d : List UInt8) (c : Int) (hl : d.length ≤ 281474976710656) (hk : 9 < k) : ((micro_scan_digits.f k (ofL d) false 1 9).bind fun b2 => (micro_scan_over.f b2.2.1 b2.2.2).bind fun b3 => if b3.1 = true then (if c = 0 then some (b2.1, true) else some (wrap64 (-b2.1), true)) else some (0, false))
    = if d ≠ [] ∧ (∀ c ∈ d, isD c = true) ∧ d.length ≤ 9 then some (if c = 0 then (val 0 d : Int) else -(val 0 d : Int), true) else some (0, false) := by
  rw [digits19 k d false hl hk]
  by_cases h0 : lead 9 d < 1
  · rw [if_pos h0, Option.bind_some]
    simp only [over_f, Option.bind_some]
    rw [if_neg (by simp), if_neg]
    rintro ⟨h1, h2, h3⟩
    rcases lead_zero (by decide) (by omega : lead 9 d = 0) with rfl | ⟨x, r, rfl, hx⟩
    · exact h1 rfl
    · have := h2 x (List.mem_cons_self ..); rw [this] at hx; cases hx
  · rw [if_neg h0, Option.bind_some]
    simp only [over_f, Option.bind_some]
    by_cases hA : d ≠ [] ∧ (∀ c ∈ d, isD c = true) ∧ d.length ≤ 9
    · rw [if_pos hA]
      obtain ⟨h1, h2, h3⟩ := hA
      rw [lead_full h2 h3, List.drop_length, List.take_length, if_pos (show (!false && ([] : List UInt8).isEmpty) = true from rfl), atoi_digits h2 (by omega)]
      have := val9 h2 h3
      split
      · rfl
      · rw [w64 (by omega) (by omega)]
    · rw [if_neg hA, if_neg]
      intro hE
      apply hA
      have hE2 : d.drop (lead 9 d) = [] := by simpa using hE
      have hlen : d.length ≤ lead 9 d := by simpa using hE2
      have hm := lead_most 9 d
      have hall := lead_all 9 d
      rw [List.take_of_length_le hlen] at hall
      refine ⟨?_, hall, by omega⟩
      rintro rfl
      exact h0 (by decide)
theorem int_at (k : Nat) (l : List UInt8) (hl : l.length ≤ 281474976710656) (hk : 10 ≤ k) : micro_Int.f k (ofL l) = some (numOf l, okOf l) := by
  unfold micro_Int.f
  have hfin : ∀ (d : List UInt8) (c : Int), tailOf l = d → (c = 0 ↔ ¬ d.length < l.length) → (if d ≠ [] ∧ (∀ c ∈ d, isD c = true) ∧ d.length ≤ 9 then some (if c = 0 then (val 0 d : Int) else -(val 0 d : Int), true) else some (0, false)) = some (numOf l, okOf l) := by
    intro d c hd hc
    unfold numOf okOf
    rw [hd]
    by_cases hA : d ≠ [] ∧ (∀ c ∈ d, isD c = true) ∧ d.length ≤ 9
    · rw [if_pos hA, decide_eq_true hA, if_pos rfl]
      by_cases h0 : c = 0
      · rw [if_pos h0, if_neg (hc.1 h0)]
      · rw [if_neg h0, if_pos (by by_cases h : d.length < l.length; exact h; exact absurd (hc.2 h) h0)]
    · rw [if_neg hA, decide_eq_false hA, if_neg (by decide)]
  cases l with
  | nil =>
    rw [show (⟨#[45]⟩ : ByteArray) = ofL [45] from rfl, sign_nil, Option.bind_some]
    rw [tail_int k [] 0 hl hk]
    exact hfin [] 0 rfl (by simp)
  | cons c r =>
    by_cases hc : c = 45
    · subst hc
      rw [show (⟨#[45]⟩ : ByteArray) = ofL [45] from rfl, sign_hit [45] 45 r false (by simp), Option.bind_some]
      rw [tail_int k r _ (by simp at hl; omega) hk]
      exact hfin r _ (by simp [tailOf]) (by simp)
    · rw [show (⟨#[45]⟩ : ByteArray) = ofL [45] from rfl, sign_miss [45] c r false (by simpa using hc), Option.bind_some]
      rw [tail_int k (c :: r) 0 hl hk]
      exact hfin (c :: r) 0 (by simp [tailOf, hc]) (by simp)
theorem int_ev (l : List UInt8) (hl : l.length ≤ 281474976710656) : Ev (fun k => micro_Int.f k (ofL l)) (numOf l, okOf l) := ⟨10, fun k hk => int_at k l hl hk⟩
/-! The reference. -/
theorem ref_digit (c : UInt8) : beadleref18_digit.f (c.toNat : Int) = some (isD c) := by
  unfold beadleref18_digit.f isD
  split
  · congr 1; rw [Bool.eq_iff_iff]; simp; omega
  · congr 1; rw [Bool.eq_iff_iff]; simp; omega
theorem ref_digits_l0 (l : List UInt8) (hl : l.length ≤ 281474976710656) : ∀ (d i : Nat), i + d = l.length → Ev (fun k => beadleref18_digits.l0 k (ofL l) (i : Int)) (decide ((∀ c ∈ l.drop i, isD c = true) ∧ l ≠ [])) := by
  intro d
  induction d with
  | zero =>
    intro i hi
    refine Ev.step (f := fun _ => some _) (fun k => ?_) (Ev.now _)
    rw [beadleref18_digits.l0, if_neg (by simp; omega)]
    congr 1
    rw [Bool.eq_iff_iff]
    have : l.drop i = [] := List.drop_eq_nil_iff.2 (by omega)
    rw [this]
    simp
    cases l <;> simp
  | succ d ih =>
    intro i hi
    obtain ⟨c, hc⟩ : ∃ c, l[i]? = some c := ⟨_, List.getElem?_eq_getElem (by omega)⟩
    have hdr : l.drop i = c :: l.drop (i + 1) := by
      obtain ⟨hl, rfl⟩ := List.getElem?_eq_some_iff.1 hc
      exact List.drop_eq_getElem_cons hl
    refine Ev.step (f := fun k => if isD c = true then beadleref18_digits.l0 k (ofL l) ((i + 1 : Nat) : Int) else some false) (fun k => ?_) ?_
    · rw [beadleref18_digits.l0, if_pos (by simp; omega), if_pos (by omega), ofL_bt hc, ref_digit, Option.bind_some, w64 (by omega) (by omega)]
      rfl
    · rw [hdr]
      cases h : isD c
      · simp [h]; exact Ev.now _
      · have := ih (i + 1) (by omega)
        simpa [h] using this
theorem ref_digits (l : List UInt8) (hl : l.length ≤ 281474976710656) : Ev (fun k => beadleref18_digits.f k (ofL l)) (decide ((∀ c ∈ l, isD c = true) ∧ l ≠ [])) := by
  have := ref_digits_l0 l hl l.length 0 (by omega)
  simpa [beadleref18_digits.f] using this
theorem num_step (V c : Nat) (hV : V < 1000000000) (h1 : 48 ≤ c) (h2 : c ≤ 57) : wrap64 ((wrap64 ((wrap64 (10 * (V : Int))) + (wrap64 (c : Int)))) - 48) = ((10 * V + (c - 48) : Nat) : Int) := by
  have e1 : wrap64 (10 * (V : Int)) = 10 * (V : Int) := w64 (by omega) (by omega)
  have e2 : wrap64 (c : Int) = (c : Int) := w64 (by omega) (by omega)
  rw [e1, e2, w64 (n := 10 * (V : Int) + (c : Int)) (by omega) (by omega), w64 (by omega) (by omega)]
  omega
theorem ref_number_l0 (l : List UInt8) (hd : ∀ c ∈ l, isD c = true) (hl : l.length ≤ 9) : ∀ (d i : Nat), i + d = l.length → Ev (fun k => beadleref18_Number.l0 k (ofL l) (val 0 (l.take i) : Int) (i : Int)) (val 0 l : Int) := by
  intro d
  induction d with
  | zero =>
    intro i hi
    refine Ev.step (f := fun _ => some _) (fun k => ?_) (Ev.now _)
    rw [beadleref18_Number.l0, if_neg (by simp; omega), List.take_of_length_le (by omega)]
  | succ d ih =>
    intro i hi
    obtain ⟨c, hc⟩ : ∃ c, l[i]? = some c := ⟨_, List.getElem?_eq_getElem (by omega)⟩
    have hcd := isD_out (hd c (List.mem_of_getElem? hc))
    have hv := val9 (d := l.take i) (fun x hx => hd x (List.mem_of_mem_take hx)) (by simp; omega)
    have hn : val 0 (l.take (i + 1)) = 10 * val 0 (l.take i) + (c.toNat - 48) := by
      rw [List.take_add_one, hc]
      have : ∀ (xs ys : List UInt8) acc, val acc (xs ++ ys) = val (val acc xs) ys := by
        intro xs ys
        induction xs with
        | nil => intro acc; rfl
        | cons c r ih => intro acc; exact ih _
      rw [this]
      rfl
    refine Ev.step (f := fun k => beadleref18_Number.l0 k (ofL l) (val 0 (l.take (i + 1)) : Int) ((i + 1 : Nat) : Int)) (fun k => ?_) (ih (i + 1) (by omega))
    rw [beadleref18_Number.l0, if_pos (by simp; omega), if_pos (by omega), ofL_bt hc, hn, num_step _ _ hv hcd.1 hcd.2, w64 (by omega) (by omega), show ((i : Int) + 1) = ((i + 1 : Nat) : Int) from rfl]
theorem ref_number (l : List UInt8) (hd : ∀ c ∈ l, isD c = true) (hl : l.length ≤ 9) : Ev (fun k => beadleref18_Number.f k (ofL l)) (val 0 l : Int) := by
  have := ref_number_l0 l hd hl l.length 0 (by omega)
  have e : ((val 0 (l.take 0) : Nat) : Int) = 0 := by rw [List.take_zero]; rfl
  rw [e] at this
  exact this
theorem ref_int (l : List UInt8) (hl : l.length ≤ 281474976710656) : Ev (fun k => beadleref18_Int.f k (ofL l)) (numOf l, okOf l) := by
  have main : ∀ d, tailOf l = d → Ev (fun k => beadleref18_Int.j1 k (ofL l) (ofL d)) (numOf l, okOf l) := by
    intro d hd
    have hdl : d.length ≤ l.length := by subst hd; cases l with | nil => simp [tailOf] | cons c r => unfold tailOf; simp only; split <;> simp
    refine Ev.step (f := fun k => (beadleref18_digits.f k (ofL d)).bind fun t179 => (if t179 = true then (beadleref18_Int.j2 k (ofL l) (ofL d) (decide (((ofL d).size : Int) > 9))) else (beadleref18_Int.j2 k (ofL l) (ofL d) true))) (fun k => by rw [beadleref18_Int.j1]) ?_
    refine Ev.bind (ref_digits d (by omega)) ?_
    unfold numOf okOf
    rw [hd]
    by_cases h1 : (∀ c ∈ d, isD c = true) ∧ d ≠ []
    · rw [decide_eq_true h1]
      simp only [if_true]
      by_cases h9 : d.length ≤ 9
      · rw [decide_eq_true (⟨h1.2, h1.1, h9⟩ : d ≠ [] ∧ (∀ c ∈ d, isD c = true) ∧ d.length ≤ 9), if_pos rfl]
        have hg : decide (((ofL d).size : Int) > 9) = false := decide_eq_false (by simp; omega)
        rw [hg]
        have hv := val9 h1.1 h9
        by_cases h2 : d.length < l.length
        · rw [if_pos h2]
          refine Ev.step (f := fun k => (beadleref18_Number.f k (ofL d)).bind fun t180 => some (wrap64 (-t180), true)) (fun k => by rw [beadleref18_Int.j2, if_neg (by decide), if_pos (by simp; omega)]) ?_
          refine Ev.bind (ref_number d h1.1 h9) ?_
          rw [w64 (by omega) (by omega)]
          exact Ev.now _
        · rw [if_neg h2]
          refine Ev.step (f := fun k => (beadleref18_Number.f k (ofL d)).bind fun t181 => some (t181, true)) (fun k => by rw [beadleref18_Int.j2, if_neg (by decide), if_neg (by simp; omega)]) ?_
          exact Ev.bind (ref_number d h1.1 h9) (Ev.now _)
      · rw [decide_eq_false (fun h : d ≠ [] ∧ (∀ c ∈ d, isD c = true) ∧ d.length ≤ 9 => h9 h.2.2), if_neg (by decide)]
        have hg : decide (((ofL d).size : Int) > 9) = true := decide_eq_true (by simp; omega)
        rw [hg]
        exact Ev.step (f := fun k => some (0, false)) (fun k => by rw [beadleref18_Int.j2, if_pos rfl]) (Ev.now _)
    · rw [decide_eq_false h1, decide_eq_false (fun h : d ≠ [] ∧ (∀ c ∈ d, isD c = true) ∧ d.length ≤ 9 => h1 ⟨h.2.1, h.1⟩), if_neg (by decide)]
      simp only [Bool.false_eq_true, if_false]
      exact Ev.step (f := fun k => some (0, false)) (fun k => by rw [beadleref18_Int.j2, if_pos rfl]) (Ev.now _)
  cases l with
  | nil =>
    refine Ev.congr (f := fun k => beadleref18_Int.j0 k (ofL []) (ofL []) false) (fun k => by rw [beadleref18_Int.f, if_neg (by simp)]) ?_
    refine Ev.step (f := fun k => beadleref18_Int.j1 k (ofL []) (ofL [])) (fun k => by rw [beadleref18_Int.j0, if_neg (by decide)]) ?_
    exact main [] rfl
  | cons c r =>
    have hb : bt (ofL (c :: r)) 0 = (c.toNat : Int) := ofL_bt (l := c :: r) (i := 0) rfl
    refine Ev.congr (f := fun k => beadleref18_Int.j0 k (ofL (c :: r)) (ofL (c :: r)) ((c.toNat : Int) == 45)) (fun k => by rw [beadleref18_Int.f, if_pos (by simp only [ofL_size, List.length_cons]; omega), if_pos (by simp only [ofL_size, List.length_cons]; omega), hb]) ?_
    by_cases hc : c = 45
    · subst hc
      refine Ev.step (f := fun k => beadleref18_Int.j1 k (ofL (45 :: r)) (ofL r)) (fun k => ?_) (main r (by simp [tailOf]))
      rw [beadleref18_Int.j0, if_pos (by decide), if_pos (by simp only [ofL_size, List.length_cons]; omega), ofL_drop]
      rfl
    · have hcn : c.toNat ≠ 45 := fun h => hc (by apply UInt8.toNat_inj.1; rw [h]; rfl)
      refine Ev.step (f := fun k => beadleref18_Int.j1 k (ofL (c :: r)) (ofL (c :: r))) (fun k => ?_) (main (c :: r) (by simp [tailOf, hc]))
      have hne : ((c.toNat : Int) == 45) = false := by rw [beq_eq_false_iff_ne]; omega
      rw [hne, beadleref18_Int.j0, if_neg (by decide)]
end Go.Proofs.YtnfjohpecedpnaaGreatDoor.Pure
