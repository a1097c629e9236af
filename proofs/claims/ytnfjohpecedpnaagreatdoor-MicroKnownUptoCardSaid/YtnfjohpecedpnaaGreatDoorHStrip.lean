/- query.Strip at any text of bounded size, and strings.Join at a row that is owned. -/
import Derived.Test.YtnfjohpecedpnaaGreatDoorHTok
import Derived.Lib.Join
set_option linter.unusedVariables false
namespace Go.Proofs.YtnfjohpecedpnaaGreatDoor.PM
open Go.RowKit Go.Lib Go.Proofs.YtnfjohpecedpnaaGreatDoor.Glob Go.Proofs.YtnfjohpecedpnaaGreatDoorW.PrintWords Go.Proofs.YtnfjohpecedpnaaGreatDoorW.PrintLast Go.Proofs.YtnfjohpecedpnaaGreatDoorW.PrintMore

def joinS (xs : List ByteArray) : ByteArray := ⟨(Lib.join (xs.map (·.data.toList)) [32]).toArray⟩
theorem words_size (s : ByteArray) : ∀ x ∈ wordsOf s, x.size ≤ s.size := by
  intro x hx
  obtain ⟨p, _, rfl⟩ := List.mem_map.1 hx
  rw [ByteArray.size_extract]
  omega
theorem tokD_mem : ∀ (l out : List ByteArray), ∀ x ∈ tokD l out, x ∈ l ∨ x ∈ out
  | [], out, x, h => .inr h
  | y :: r, out, x, h => by
    rw [tokD] at h
    rcases tokD_mem r _ x h with h1 | h1
    · exact .inl (List.mem_cons_of_mem _ h1)
    · split at h1
      · exact .inr h1
      · rcases List.mem_append.1 h1 with h2 | h2
        · exact .inr h2
        · rw [List.mem_singleton] at h2; subst h2; exact .inl (List.mem_cons_self ..)
theorem tokD_len : ∀ (l out : List ByteArray), (tokD l out).length ≤ l.length + out.length
  | [], out => by simp [tokD]
  | y :: r, out => by
    rw [tokD]
    have := tokD_len r (if Lib.containsS out y = true then out else out ++ [y])
    split at this <;> (rename_i h; first | rw [if_pos h] | rw [if_neg h]) <;> simp only [List.length_cons, List.length_append, List.length_nil] at * <;> omega
theorem tokens_size (s : ByteArray) : ∀ x ∈ tokens s, x.size ≤ s.size := fun x hx => by
  rcases tokD_mem _ _ x hx with h | h
  · exact words_size s x h
  · cases h
theorem tokens_len (s : ByteArray) : (tokens s).length ≤ s.size + 1 := by
  have := tokD_len (wordsOf s) []
  have := words_len s
  simp only [List.length_nil, Nat.add_zero] at *
  unfold tokens
  omega
theorem join_len (sep : List UInt8) : ∀ (xs : List (List UInt8)) (m : Nat), (∀ x ∈ xs, x.length ≤ m) → (Lib.join xs sep).length ≤ xs.length * (m + sep.length)
  | [], m, _ => by simp [Lib.join]
  | [x], m, h => by have := h x (by simp); simp [Lib.join_one]; omega
  | x :: y :: r, m, h => by
    have h1 := h x (by simp)
    have h2 := join_len sep (y :: r) m (fun z hz => h z (List.mem_cons_of_mem _ hz))
    have e : Lib.join (x :: y :: r) sep = x ++ sep ++ Lib.join (y :: r) sep := by simp [Lib.join, List.intercalate]
    rw [e, List.length_append, List.length_append, List.length_cons, Nat.add_mul]
    omega
theorem join_ok (xs : List ByteArray) (m : Nat) (h1 : ∀ x ∈ xs, x.size ≤ m) (h2 : xs.length ≤ m + 1) (hm : m ≤ 1048576) : (Lib.join (xs.map (·.data.toList)) [32]).length ≤ 140737488355328 := by
  have := join_len [32] (xs.map (·.data.toList)) m (fun z hz => by
    obtain ⟨x, hx, rfl⟩ := List.mem_map.1 hz
    have e : x.data.toList.length = x.size := by rw [Array.length_toList]; rfl
    rw [e]
    exact h1 x hx)
  rw [List.length_map] at this
  have h3 : xs.length * (m + 1) ≤ 1048577 * 1048577 := Nat.mul_le_mul (by omega) (by omega)
  simp only [List.length_cons, List.length_nil, Nat.zero_add] at this
  omega
theorem join_own {wx : World} {B : Nat} {ob : Option Addr} {cap : Nat} {xs : List ByteArray} (h : wx.ownsRow B 9 1 (.slice ob xs.length cap) xs.length (xs.map Value.string)) (hx : xs ≠ []) (hl : (Lib.join (xs.map (·.data.toList)) [32]).length ≤ 140737488355328) (hN : xs.length ≤ 140737488355328) :
    ∀ W, Below wx.heap.size wx W → Calls Tryz.prog 23 #[.slice ob xs.length cap, .string ⟨#[32]⟩] W fun e w' => e = .returned (.string (joinS xs)) ∧ Below W.heap.size W w' := by
  intro W hW
  rcases h.2 with ⟨h0, h1⟩ | ⟨g, c, cur, h0, hb, hg, hc, hm, hz, ht⟩
  · exact absurd (List.eq_nil_of_length_eq_zero h1) hx
  · injection h0 with e1 e2 e3
    subst e1 e3
    have hgl : g < wx.heap.size := by
      rcases Nat.lt_or_ge g wx.heap.size with h | h
      · exact h
      · rw [Array.getElem?_eq_none h] at hg; cases hg
    have hcell : ∀ (j : Nat) x, xs[j]? = some x → W.cell? ⟨g, 0 + j, none⟩ = some (.string x) := fun j x hj => by
      have hjl := (List.getElem?_eq_some_iff.1 hj).1
      have h2 := h.cellAt j (by omega)
      rw [List.getElem?_map, hj] at h2
      rw [Nat.zero_add]
      exact (hW.cell (World.block_lt_of_cell? wx _ h2)).trans h2
    exact Tryz.strings_Join g 0 cap xs ⟨#[32]⟩ W hcell (Nat.lt_of_lt_of_le hgl hW.size) hN hc hl
set_option maxRecDepth 100000 in
set_option maxHeartbeats 4000000 in
theorem strip_walk (s : ByteArray) (w : World) (hs : s.size ≤ 1048576) : Calls Tryz.prog 24 #[.string s] w fun e w' => e = .returned (.string (joinS (wordsOf s))) ∧ Below w.heap.size w w' := by
  have hF := fields_calls s w (by omega)
  have hl := join_ok (wordsOf s) s.size (words_size s) (words_len s) hs
  have hlen := words_len s
  obtain ⟨F, hFe⟩ : ∃ F, wordsOf s = F := ⟨_, rfl⟩
  rw [hFe] at hF hl hlen ⊢
  clear hFe
  have hN : F.length ≤ 140737488355328 := by omega
  by_cases h0 : F = []
  · subst h0
    have hJ : ∀ A W, Calls Tryz.prog 23 #[.slice (some ⟨A, 0, none⟩) 0 0, .string ⟨#[32]⟩] W fun e w' => e = .returned (.string (joinS [])) ∧ w' = W := fun A W => Tryz.strings_Join_none (some ⟨A, 0, none⟩) 0 ⟨#[32]⟩ W
    clear hlen hN hl hs
    go_enter Tryz.func24, Tryz.ntmps24
    go_wp2_with (first | (go_at_call 44; refine hF.mono ?_; rintro e w1 ⟨A, rfl, hA, hO, hB⟩; have B1 := Aside0.mk hB; clear hO hB hA) | (go_at_call 23; refine (hJ _ _).mono ?_; rintro e w2 ⟨rfl, rfl⟩))
    go_ret
    exact ⟨rfl, B1.out⟩
  · have H0 := Aside0.mk h0
    have HL := Aside0.mk hl
    have HN := Aside0.mk hN
    clear hlen hN hl hs h0
    go_enter Tryz.func24, Tryz.ntmps24
    go_wp2_with (first | (go_at_call 44; refine hF.mono ?_; rintro e w1 ⟨A, rfl, hA, hO, hB⟩; have O1 := Aside0.mk hO; have B1 := Aside0.mk hB; clear hO hB hA) | (go_at_call 23; refine (join_own O1.out H0.out HL.out HN.out _ (Below.refl _ _)).mono ?_; rintro e w2 ⟨rfl, hb⟩; have B2 := Aside0.mk hb; clear hb))
    go_ret
    exact ⟨rfl, B1.out.trans (B2.out.mono B1.out.size)⟩
end Go.Proofs.YtnfjohpecedpnaaGreatDoor.PM
