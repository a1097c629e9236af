/- A heap of things in a list, as package container/heap keeps it: what a swap, a step up and a step down keep. Plain: no program in sight. Conditions: those of each statement. -/
import Derived.Tactics
namespace Go.Proofs.Ytkkdpkfachpjeaa.Heap

section
variable {β : Type} (d : β) (L : β → β → Bool)
def g (l : List β) (i : Nat) : β := l.getD i d
theorem g_of (l : List β) (i : Nat) (h : i < l.length) : g d l i = l[i] := by unfold g; rw [List.getD_eq_getElem?_getD, List.getElem?_eq_getElem h]; rfl
theorem g_set (l : List β) (i j : Nat) (x : β) (hi : i < l.length) : g d (l.set i x) j = if j = i then x else g d l j := by
  unfold g
  rw [List.getD_eq_getElem?_getD, List.getD_eq_getElem?_getD, List.getElem?_set]
  by_cases h : i = j
  · subst h; simp [hi]
  · rw [if_neg h, if_neg (fun e => h e.symm)]
def sw (l : List β) (i j : Nat) : List β := (l.set i (g d l j)).set j (g d l i)
theorem sw_len (l : List β) (i j : Nat) : (sw d l i j).length = l.length := by simp [sw]
theorem sw_g (l : List β) (i j k : Nat) (hi : i < l.length) (hj : j < l.length) : g d (sw d l i j) k = if k = j then g d l i else if k = i then g d l j else g d l k := by
  unfold sw
  rw [g_set d _ j k _ (by simpa using hj), g_set d _ i k _ hi]
theorem sw_perm (l : List β) (i j : Nat) (hi : i < l.length) (hj : j < l.length) : (sw d l i j).Perm l := by
  unfold sw
  rw [g_of d l j hj, g_of d l i hi]
  exact List.set_set_perm hi hj

/-- Nothing of it is ahead of a. -/
def le (a b : β) : Prop := L b a = false
structure Ord : Prop where
  irrefl : ∀ a, L a a = false
  asym : ∀ a b, L a b = true → L b a = false
  trans : ∀ a b c, le L a b → le L b c → le L a c
variable {L}
theorem Ord.refl (h : Ord L) (a : β) : le L a a := h.irrefl a
theorem Ord.lt_le (h : Ord L) {a b : β} (hl : L a b = true) : le L a b := h.asym a b hl
variable (L)
def Heap (l : List β) (n : Nat) : Prop := ∀ k, 0 < k → k < n → le L (g d l ((k - 1) / 2)) (g d l k)
structure Up (l : List β) (n j : Nat) : Prop where
  a : ∀ k, 0 < k → k < n → k ≠ j → le L (g d l ((k - 1) / 2)) (g d l k)
  b : ∀ k, 0 < k → k < n → (k - 1) / 2 = j → 0 < j → le L (g d l ((j - 1) / 2)) (g d l k)
structure Dn (l : List β) (n i : Nat) : Prop where
  a : ∀ k, 0 < k → k < n → (k - 1) / 2 ≠ i → le L (g d l ((k - 1) / 2)) (g d l k)
  b : ∀ k, 0 < k → k < n → (k - 1) / 2 = i → 0 < i → le L (g d l ((i - 1) / 2)) (g d l k)
variable {d L}
theorem Heap.min (ho : Ord L) {l : List β} {n : Nat} (h : Heap d L l n) : ∀ (m k : Nat), k ≤ m → k < n → le L (g d l 0) (g d l k)
  | 0, k, hk, _ => by
    obtain rfl : k = 0 := by omega
    exact ho.refl _
  | m + 1, k, hk, hn => by
    rcases Nat.eq_zero_or_pos k with rfl | h0
    · exact ho.refl _
    · exact ho.trans _ _ _ (Heap.min ho h m ((k - 1) / 2) (by omega) (by omega)) (h k h0 hn)
theorem Up.done {l : List β} {n j : Nat} (h : Up d L l n j) (hj : j = 0 ∨ le L (g d l ((j - 1) / 2)) (g d l j)) : Heap d L l n := by
  intro k h0 hn
  by_cases e : k = j
  · subst e
    rcases hj with hj | hj
    · omega
    · exact hj
  · exact h.a k h0 hn e
theorem Up.step (ho : Ord L) {l : List β} {n j : Nat} (h : Up d L l n j) (hn : n ≤ l.length) (h0 : 0 < j) (hj : j < n) (hl : L (g d l j) (g d l ((j - 1) / 2)) = true) : Up d L (sw d l ((j - 1) / 2) j) n ((j - 1) / 2) := by
  have hp : (j - 1) / 2 < j := by omega
  have hle := ho.lt_le hl
  refine ⟨fun k hk0 hkn hne => ?_, fun k hk0 hkn hpk hp0 => ?_⟩
  · rw [sw_g d l _ _ _ (by omega) (by omega), sw_g d l _ _ _ (by omega) (by omega)]
    by_cases e1 : k = j
    · subst e1
      rw [if_neg (by omega), if_pos rfl, if_pos rfl]
      exact hle
    · rw [if_neg e1, if_neg hne]
      by_cases e2 : (k - 1) / 2 = j
      · rw [if_pos e2]
        exact h.b k hk0 hkn e2 h0
      · rw [if_neg e2]
        by_cases e3 : (k - 1) / 2 = (j - 1) / 2
        · rw [if_pos e3]
          have := h.a k hk0 hkn e1
          rw [e3] at this
          exact ho.trans _ _ _ hle this
        · rw [if_neg e3]
          exact h.a k hk0 hkn e1
  · rw [sw_g d l _ _ _ (by omega) (by omega), sw_g d l _ _ _ (by omega) (by omega)]
    rw [if_neg (by omega), if_neg (by omega)]
    have hpp := h.a ((j - 1) / 2) hp0 (by omega) (by omega)
    by_cases e1 : k = j
    · rw [if_pos e1]
      exact hpp
    · rw [if_neg e1, if_neg (by omega)]
      have := h.a k hk0 hkn e1
      rw [hpk] at this
      exact ho.trans _ _ _ hpp this
theorem Dn.done {l : List β} {n i : Nat} (h : Dn d L l n i) (hi : ∀ k, 0 < k → k < n → (k - 1) / 2 = i → le L (g d l i) (g d l k)) : Heap d L l n := by
  intro k h0 hn
  by_cases e : (k - 1) / 2 = i
  · rw [e]
    exact hi k h0 hn e
  · exact h.a k h0 hn e
/-- One step down: to the lesser kid. -/
theorem Dn.step (ho : Ord L) {l : List β} {n i j : Nat} (h : Dn d L l n i) (hn : n ≤ l.length) (hi : i < n) (h0 : 0 < j) (hj : j < n) (hji : (j - 1) / 2 = i) (hl : L (g d l j) (g d l i) = true)
    (hmin : ∀ k, 0 < k → k < n → (k - 1) / 2 = i → le L (g d l j) (g d l k)) : Dn d L (sw d l i j) n j := by
  have hle := ho.lt_le hl
  refine ⟨fun k hk0 hkn hne => ?_, fun k hk0 hkn hpk _ => ?_⟩
  · rw [sw_g d l _ _ _ (by omega) (by omega), sw_g d l _ _ _ (by omega) (by omega)]
    rw [if_neg hne]
    by_cases e1 : (k - 1) / 2 = i
    · rw [if_pos e1]
      by_cases e2 : k = j
      · rw [if_pos e2]
        exact hle
      · rw [if_neg e2, if_neg (by omega)]
        exact hmin k hk0 hkn e1
    · rw [if_neg e1, if_neg (by intro e; subst e; exact e1 hji)]
      by_cases e2 : k = i
      · rw [if_pos e2]
        subst e2
        exact h.b j h0 hj hji hk0
      · rw [if_neg e2]
        exact h.a k hk0 hkn e1
  · rw [sw_g d l _ _ _ (by omega) (by omega), sw_g d l _ _ _ (by omega) (by omega)]
    rw [hji, if_neg (by omega), if_pos rfl, if_neg (by omega), if_neg (by omega)]
    have := h.a k hk0 hkn (by omega)
    rw [hpk] at this
    exact this
theorem Up.push {l : List β} {x : β} (h : Heap d L l l.length) : Up d L (l ++ [x]) (l.length + 1) l.length := by
  have hg : ∀ k, k < l.length → g d (l ++ [x]) k = g d l k := by
    intro k hk
    rw [g_of d _ k (by simp; omega), g_of d l k hk, List.getElem_append_left hk]
  refine ⟨fun k h0 hn hne => ?_, fun k h0 hn hp hl => by omega⟩
  rw [hg k (by omega), hg _ (by omega)]
  exact h k h0 (by omega)
theorem Dn.root {l : List β} {n : Nat} {y : β} (hn : n ≤ l.length) (h : Heap d L l n) (h0 : 0 < n) : Dn d L (l.set 0 y) n 0 := by
  refine ⟨fun k hk0 hkn hne => ?_, fun k _ _ _ hl => absurd hl (Nat.lt_irrefl 0)⟩
  rw [g_set d l 0 _ _ (by omega), g_set d l 0 _ _ (by omega), if_neg hne, if_neg (by omega)]
  exact h k hk0 hkn
theorem Dn.last {l : List β} {n : Nat} (hn : n + 1 = l.length) (h : Heap d L l (n + 1)) : Dn d L (sw d l 0 n) n 0 := by
  refine ⟨fun k hk0 hkn hne => ?_, fun k _ _ _ hl => absurd hl (Nat.lt_irrefl 0)⟩
  rw [sw_g d l _ _ _ (by omega) (by omega), sw_g d l _ _ _ (by omega) (by omega), if_neg (by omega), if_neg hne, if_neg (by omega), if_neg (by omega)]
  exact h k hk0 (by omega)
end
end Go.Proofs.Ytkkdpkfachpjeaa.Heap
