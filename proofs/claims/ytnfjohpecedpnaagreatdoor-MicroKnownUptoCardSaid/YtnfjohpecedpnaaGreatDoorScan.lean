/- The scan of micro over lists of bytes: signs, digits, numbers. -/
import Derived.Test.YtnfjohpecedpnaaGreatDoorPMx5
import Derived.Lib.AtoiAll
set_option linter.unusedVariables false
namespace Go.Proofs.YtnfjohpecedpnaaGreatDoor.Scan
open Go Go.RowKit Go.Proofs.YtnfjohpecedpnaaGreatDoor.PM Go.Proofs.YtnfjohpecedpnaaGreatDoorW.PrintWords Go.Proofs.YtnfjohpecedpnaaGreatDoorW.PrintLast

def isD (c : UInt8) : Bool := decide (48 ≤ c.toNat ∧ c.toNat ≤ 57)
theorem isD_of {c : UInt8} (h0 : 48 ≤ c.toNat) (h1 : c.toNat ≤ 57) : isD c = true := decide_eq_true ⟨h0, h1⟩
theorem isD_out {c : UInt8} (h : isD c = true) : 48 ≤ c.toNat ∧ c.toNat ≤ 57 := of_decide_eq_true h
theorem isD_not {c : UInt8} (h : isD c = false) : c.toNat < 48 ∨ 57 < c.toNat := by have := of_decide_eq_false h; omega
def val (acc : Nat) : List UInt8 → Nat
  | [] => acc
  | c :: r => val (10 * acc + (c.toNat - 48)) r
theorem val_ge (xs : List UInt8) : ∀ acc, acc ≤ val acc xs := by
  induction xs with
  | nil => intro acc; exact Nat.le_refl _
  | cons c r ih => intro acc; have := ih (10 * acc + (c.toNat - 48)); show acc ≤ val (10 * acc + (c.toNat - 48)) r; omega
theorem val_lt (xs : List UInt8) : ∀ acc, (∀ c ∈ xs, isD c = true) → val acc xs < (acc + 1) * 10 ^ xs.length := by
  induction xs with
  | nil => intro acc _; show acc < (acc + 1) * 1; omega
  | cons c r ih =>
    intro acc h
    have h1 := ih (10 * acc + (c.toNat - 48)) (fun x hx => h x (List.mem_cons_of_mem _ hx))
    have h2 := isD_out (h c (List.mem_cons_self ..))
    show val (10 * acc + (c.toNat - 48)) r < (acc + 1) * 10 ^ (r.length + 1)
    rw [Nat.pow_succ, Nat.mul_comm (10 ^ r.length) 10, ← Nat.mul_assoc]
    exact Nat.lt_of_lt_of_le h1 (Nat.mul_le_mul_right _ (by omega))
theorem val_lt18 {xs : List UInt8} (h : ∀ c ∈ xs, isD c = true) (hl : xs.length ≤ 18) : val 0 xs < 1000000000000000000 := by
  have := val_lt xs 0 h
  have h2 : 10 ^ xs.length ≤ 10 ^ 18 := Nat.pow_le_pow_right (by decide) hl
  omega
theorem parse_digits (s : List UInt8) : ∀ acc, (∀ c ∈ s, isD c = true) → val acc s < 1000000000000000000 → Lib.parseUint10 acc s = .ok (val acc s) := by
  induction s with
  | nil => intro acc _ _; rfl
  | cons c r ih =>
    intro acc h hv
    have h1 := isD_out (h c (List.mem_cons_self ..))
    have e : val acc (c :: r) = val (10 * acc + (c.toNat - 48)) r := rfl
    have h2 := val_ge r (10 * acc + (c.toNat - 48))
    rw [e] at hv ⊢
    rw [Lib.parseUint10, if_pos h1, if_neg (by omega), if_neg (by omega), Nat.mul_comm acc 10]
    exact ih _ (fun x hx => h x (List.mem_cons_of_mem _ hx)) hv
theorem atoi_digits {l : List UInt8} (hd : ∀ x ∈ l, isD x = true) (hl : l.length ≤ 18) : atoiV l = (val 0 l : Int) := by
  cases l with
  | nil => rfl
  | cons c r =>
    have h1 := isD_out (hd c (List.mem_cons_self ..))
    have hv := val_lt18 hd hl
    have ha : Lib.atoiAll (c :: r) = .ok (val 0 (c :: r) : Int) := by
      unfold Lib.atoiAll
      simp only
      rw [if_neg (by omega), Lib.parseMag, if_neg (by simp), parse_digits _ 0 hd hv]
      simp only
      rw [if_neg (by omega), if_neg (by omega), if_neg (by omega)]
    unfold atoiV
    rw [ha]

def ofL (l : List UInt8) : ByteArray := ⟨l.toArray⟩
theorem ofL_self (s : ByteArray) : ofL s.data.toList = s := by cases s; simp [ofL]
@[simp] theorem ofL_size (l : List UInt8) : (ofL l).size = l.length := by simp [ofL, ByteArray.size]
@[simp] theorem ofL_list (l : List UInt8) : (ofL l).toList = l := by rw [ByteArray.toList_eq]; simp [ofL]
@[simp] theorem ofL_data (l : List UInt8) : (ofL l).data.toList = l := by simp [ofL]
theorem ofL_inj {a b : List UInt8} : ofL a = ofL b ↔ a = b := ⟨fun h => by simpa using congrArg (fun x : ByteArray => x.data.toList) h, fun h => h ▸ rfl⟩
theorem ofL_drop (l : List UInt8) (a : Nat) : (ofL l).extract a (ofL l).size = ofL (l.drop a) := by
  apply ByteArray.ext
  simp [ofL, ByteArray.size]
  exact List.take_of_length_le (by simp)
theorem ofL_take (l : List UInt8) (a : Nat) : (ofL l).extract 0 a = ofL (l.take a) := by
  apply ByteArray.ext
  simp [ofL]
theorem ofL_bt {l : List UInt8} {i : Nat} {c : UInt8} (h : l[i]? = some c) : bt (ofL l) (i : Int) = (c.toNat : Int) := by
  obtain ⟨hl, e⟩ := List.getElem?_eq_some_iff.1 h
  unfold bt
  rw [dif_pos (by simpa using hl)]
  congr 2
theorem w64 {n : Int} (h0 : -9223372036854775808 ≤ n) (h1 : n ≤ 9223372036854775807) : wrap64 n = n := by unfold wrap64; omega

def lead : Nat → List UInt8 → Nat
  | 0, _ => 0
  | _ + 1, [] => 0
  | n + 1, c :: r => if isD c = true then lead n r + 1 else 0
theorem lead_most : ∀ (n : Nat) (l : List UInt8), lead n l ≤ n
  | 0, _ => Nat.le_refl _
  | _ + 1, [] => Nat.zero_le _
  | n + 1, c :: r => by unfold lead; have := lead_most n r; split <;> omega
theorem lead_len : ∀ (n : Nat) (l : List UInt8), lead n l ≤ l.length
  | 0, _ => Nat.zero_le _
  | _ + 1, [] => Nat.zero_le _
  | n + 1, c :: r => by unfold lead; have := lead_len n r; simp only [List.length_cons]; split <;> omega
theorem lead_all : ∀ (n : Nat) (l : List UInt8), ∀ c ∈ l.take (lead n l), isD c = true
  | 0, _ => by simp [lead]
  | _ + 1, [] => by simp
  | n + 1, c :: r => by
    unfold lead
    split
    · rename_i h
      intro x hx
      rw [List.take_succ_cons] at hx
      rcases List.mem_cons.1 hx with rfl | hx
      · exact h
      · exact lead_all n r x hx
    · simp
theorem lead_end : ∀ (n : Nat) (l : List UInt8), lead n l = n ∨ lead n l = l.length ∨ ∃ c, l[lead n l]? = some c ∧ isD c = false
  | 0, _ => .inl rfl
  | _ + 1, [] => .inr (.inl rfl)
  | n + 1, c :: r => by
    unfold lead
    split
    · rcases lead_end n r with h | h | ⟨c, h, h2⟩
      · exact .inl (by omega)
      · exact .inr (.inl (by simp only [List.length_cons]; omega))
      · exact .inr (.inr ⟨c, by simpa using h, h2⟩)
    · rename_i h
      exact .inr (.inr ⟨c, rfl, by simpa using h⟩)
set_option maxHeartbeats 1000000 in
theorem digits_l0 (l : List UInt8) (b : Bool) (least most : Nat) (hm : most ≤ 1000) (hl : l.length ≤ 281474976710656) : ∀ (d i k : Nat), i + d = lead most l → d < k →
    micro_scan_digits.l0 k least most i (ofL l) b = if lead most l < least then some (0, ofL l, true) else some (atoiV (l.take (lead most l)), ofL (l.drop (lead most l)), b) := by
  intro d
  have h1 := lead_most most l
  have h2 := lead_len most l
  induction d with
  | zero =>
    intro i k hi hk
    obtain ⟨k, rfl⟩ : ∃ k', k = k' + 1 := ⟨k - 1, by omega⟩
    obtain rfl : i = lead most l := by omega
    have hend := lead_end most l
    obtain ⟨m, hme⟩ : ∃ m, lead most l = m := ⟨_, rfl⟩
    rw [hme] at hend h1 h2 ⊢
    clear hme hi
    have hA : (strconv_Atoi.f ((ofL l).extract 0 ((m : Int)).toNat)).bind (fun bt => some (bt.1, (ofL l).extract ((m : Int)).toNat (ofL l).size, b)) = some (atoiV (l.take m), ofL (l.drop m), b) := by
      rw [Int.toNat_natCast, ofL_drop, ofL_take]
      unfold strconv_Atoi.f
      rw [if_pos (by simp; omega), Option.bind_some, ofL_data]
    rw [micro_scan_digits.l0]
    rw [hA]
    have hs : (m : Int) ≤ ((ofL l).size : Int) := by simp; omega
    have h0 : (0 : Int) ≤ (m : Int) := by omega
    by_cases hle : m < least
    · have hle2 : (m : Int) < (least : Int) := by omega
      rw [if_pos hle]
      simp only [if_pos hle2, if_pos h0, if_pos hs]
      by_cases c1 : (m : Int) < ((ofL l).size : Int)
      · rw [if_pos c1]
        by_cases c2 : (m : Int) < (most : Int)
        · rw [if_pos c2]
          rcases hend with h | h | ⟨c, hc, hd⟩
          · omega
          · simp at c1; omega
          · rw [ofL_bt hc]
            by_cases c3 : (c.toNat : Int) ≥ 48
            · rw [if_pos c3, if_neg (by have := isD_not hd; omega)]
            · rw [if_neg c3]
        · rw [if_neg c2]
      · rw [if_neg c1]
    · have hle2 : ¬ (m : Int) < (least : Int) := by omega
      rw [if_neg hle]
      simp only [if_neg hle2, if_pos h0, if_pos hs]
      by_cases c1 : (m : Int) < ((ofL l).size : Int)
      · rw [if_pos c1]
        by_cases c2 : (m : Int) < (most : Int)
        · rw [if_pos c2]
          rcases hend with h | h | ⟨c, hc, hd⟩
          · omega
          · simp at c1; omega
          · rw [ofL_bt hc]
            by_cases c3 : (c.toNat : Int) ≥ 48
            · rw [if_pos c3, if_neg (by have := isD_not hd; omega)]
            · rw [if_neg c3]
        · rw [if_neg c2]
      · rw [if_neg c1]
  | succ d ih =>
    intro i k hi hk
    obtain ⟨k, rfl⟩ : ∃ k', k = k' + 1 := ⟨k - 1, by omega⟩
    obtain ⟨c, hc⟩ : ∃ c, l[i]? = some c := ⟨_, List.getElem?_eq_getElem (by omega)⟩
    have hd : isD c = true := by
      refine lead_all most l c (List.mem_of_getElem? (i := i) ?_)
      rw [List.getElem?_take, if_pos (by omega), hc]
    have hd2 := isD_out hd
    rw [micro_scan_digits.l0, if_pos (by simp; omega), if_pos (by omega), if_pos (by omega), ofL_bt hc, if_pos (by omega), if_pos (by omega), w64 (by omega) (by omega)]
    exact ih (i + 1) k (by omega) (by omega)
theorem digits_f (k : Nat) (l : List UInt8) (b : Bool) (least most : Nat) (hm : most ≤ 1000) (hl : l.length ≤ 281474976710656) (hk : most < k) :
    micro_scan_digits.f k (ofL l) b least most = if lead most l < least then some (0, ofL l, true) else some (atoiV (l.take (lead most l)), ofL (l.drop (lead most l)), b) := by
  unfold micro_scan_digits.f
  exact digits_l0 l b least most hm hl (lead most l) 0 k (by omega) (by have := lead_most most l; omega)

theorem index_mem (set : List UInt8) (c : UInt8) : (0 ≤ Lib.indexByte set c) ↔ c ∈ set := by
  induction set with
  | nil => simp [Lib.indexByte]
  | cons x r ih =>
    rw [Lib.indexByte, List.mem_cons]
    by_cases h : x = c
    · subst h; simp
    · rw [if_neg (by simpa using h)]
      by_cases h2 : Lib.indexByte r c = -1
      · rw [if_pos (by simpa using h2)]
        have : ¬ c ∈ r := fun h3 => by have := ih.2 h3; omega
        constructor
        · intro h3; omega
        · rintro (h3 | h3)
          · exact absurd h3.symm h
          · exact absurd h3 this
      · rw [if_neg (by simpa using h2)]
        have h4 : -1 ≤ Lib.indexByte r c := by
          clear ih h2 h
          induction r with
          | nil => simp [Lib.indexByte]
          | cons y t ih2 =>
            rw [Lib.indexByte]
            split
            · omega
            · split <;> omega
        rw [← ih]
        constructor
        · intro h5; exact .inr (by omega)
        · rintro (h5 | h5)
          · exact absurd h5.symm h
          · omega
/-- One of some bytes, if it stands here. -/
theorem sign_hit (set : List UInt8) (c : UInt8) (r : List UInt8) (b : Bool) (h : c ∈ set) : micro_scan_sign.f (ofL (c :: r)) b (ofL set) = some ((c.toNat : Int), ofL r, b) := by
  have h2 := (index_mem set c).2 h
  unfold micro_scan_sign.f strings_IndexByte.f
  rw [if_neg (by simp), if_pos (by simp only [ofL_size, List.length_cons]; omega)]
  have hb : bt (ofL (c :: r)) 0 = (c.toNat : Int) := ofL_bt (l := c :: r) (i := 0) rfl
  rw [hb, Option.bind_some, ofL_data]
  rw [show ((c.toNat : Int).toNat.toUInt8) = c by simp]
  rw [if_neg (by omega), if_pos (by simp only [ofL_size, List.length_cons]; omega), ofL_drop]
  rfl
theorem sign_miss (set : List UInt8) (c : UInt8) (r : List UInt8) (b : Bool) (h : ¬ c ∈ set) : micro_scan_sign.f (ofL (c :: r)) b (ofL set) = some (0, ofL (c :: r), b) := by
  have h2 : ¬ 0 ≤ Lib.indexByte set c := fun h3 => h ((index_mem set c).1 h3)
  unfold micro_scan_sign.f strings_IndexByte.f
  rw [if_neg (by simp), if_pos (by simp only [ofL_size, List.length_cons]; omega)]
  have hb : bt (ofL (c :: r)) 0 = (c.toNat : Int) := ofL_bt (l := c :: r) (i := 0) rfl
  rw [hb, Option.bind_some, ofL_data]
  rw [show ((c.toNat : Int).toNat.toUInt8) = c by simp]
  rw [if_pos (by omega)]
theorem sign_nil (set : List UInt8) (b : Bool) : micro_scan_sign.f (ofL []) b (ofL set) = some (0, ofL [], b) := by
  unfold micro_scan_sign.f
  rw [if_pos (by simp)]
theorem over_f (l : List UInt8) (b : Bool) : micro_scan_over.f (ofL l) b = some (!b && l.isEmpty, ofL l, b) := by
  unfold micro_scan_over.f
  cases b
  · rw [if_neg (by decide), ofL_list]; cases l <;> rfl
  · rw [if_pos rfl]; rfl
end Go.Proofs.YtnfjohpecedpnaaGreatDoor.Scan
