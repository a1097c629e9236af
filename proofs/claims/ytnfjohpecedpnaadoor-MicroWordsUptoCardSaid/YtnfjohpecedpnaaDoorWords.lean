/- The words of a text, as strings.FieldsFunc cuts it at query.blank, are what a pass over its bytes finds; plain laws of them. -/
import Derived.Test.YtnfjohpecedpnaaDoorHStrip
import Derived.Laws.Runes
import Derived.Laws.RangeAny
set_option linter.unusedVariables false
namespace Go.Proofs.YtnfjohpecedpnaaDoor.Words
open Go Go.RowKit Go.Proofs.YtnfjohpecedpnaaDoor.PM

theorem decode_run (s : ByteArray) (pos : Nat) (h : pos < s.size) (ha : 128 ≤ (s[pos]'h).toNat) : ∀ j, pos ≤ j → j < pos + (Utf8.decode s pos).2 → ∃ hj : j < s.size, 128 ≤ (s[j]'hj).toNat := by
  have hn : ¬ (s[pos]'h).toNat < 128 := by omega
  have g : ∀ k, (hk : pos + k < s.size) → s.get! (pos + k) = s[pos + k]'hk := fun k hk => by
    simp [ByteArray.get!, getElem!_pos, hk]
    rfl
  have c : ∀ k, (decide (pos + k < s.size) && (s.get! (pos + k)).toNat / 64 == 2) = true → ∃ hj : pos + k < s.size, 128 ≤ (s[pos + k]'hj).toNat := fun k hk => by
    rw [Bool.and_eq_true] at hk
    have h1 := of_decide_eq_true hk.1
    have h2 := beq_iff_eq.1 hk.2
    refine ⟨h1, ?_⟩
    rw [g k h1] at h2
    omega
  intro j hj1 hj2
  obtain ⟨k, rfl⟩ : ∃ k, j = pos + k := ⟨j - pos, by omega⟩
  have hk : k < (Utf8.decode s pos).2 := by omega
  cases k with
  | zero => exact ⟨h, ha⟩
  | succ k =>
    simp only [Utf8.decode, get_at s pos h, hn, if_false] at hk
    split at hk
    · rename_i hc
      simp only [Bool.and_eq_true] at hc
      split at hk
      · have : k = 0 := by simp at hk; omega
        subst this
        exact c 1 (by simpa using hc.2)
      · simp at hk
    · split at hk
      · rename_i hc
        simp only [Bool.and_eq_true] at hc
        split at hk
        · have : k = 0 ∨ k = 1 := by simp at hk; omega
          rcases this with rfl | rfl
          · exact c 1 (by simpa using hc.1.2)
          · exact c 2 (by simpa using hc.2)
        · simp at hk
      · split at hk
        · rename_i hc
          simp only [Bool.and_eq_true] at hc
          split at hk
          · have : k = 0 ∨ k = 1 ∨ k = 2 := by simp at hk; omega
            rcases this with rfl | rfl | rfl
            · exact c 1 (by simpa using hc.1.1.2)
            · exact c 2 (by simpa using hc.1.2)
            · exact c 3 (by simpa using hc.2)
          · simp at hk
        · simp at hk

def isB (c : UInt8) : Bool := blankP c.toNat
theorem blank_high {n : Nat} (h : 128 ≤ n) : blankP n = false := by
  unfold blankP
  simp
  omega
def fldL : List UInt8 → List UInt8 → List (List UInt8)
  | [], cur => if cur = [] then [] else [cur]
  | c :: r, cur => if isB c = true then (if cur = [] then fldL r [] else cur :: fldL r []) else fldL r (cur ++ [c])
theorem fldL_run : ∀ (xs r cur : List UInt8), (∀ c ∈ xs, isB c = false) → fldL (xs ++ r) cur = fldL r (cur ++ xs)
  | [], r, cur, _ => by simp
  | x :: xs, r, cur, h => by
    rw [List.cons_append, fldL, if_neg (by rw [h x (List.mem_cons_self ..)]; decide), fldL_run xs r _ (fun c hc => h c (List.mem_cons_of_mem _ hc)), List.append_assoc]
    rfl
def piece (s : ByteArray) (x : Nat × Nat) : List UInt8 := (s.data.toList.drop x.1).take (x.2 - x.1)
def curOf (s : ByteArray) (pos : Nat) : Option Nat → List UInt8
  | some a => piece s (a, pos)
  | none => []
theorem piece_more (s : ByteArray) (a pos k : Nat) (h : a ≤ pos) : piece s (a, pos + k) = piece s (a, pos) ++ (s.data.toList.drop pos).take k := by
  unfold piece
  simp only
  rw [show pos + k - a = (pos - a) + k by omega, List.take_add, List.drop_drop, show a + (pos - a) = pos by omega]
theorem piece_ne (s : ByteArray) (a pos : Nat) (h : a < pos) (h2 : pos ≤ s.size) : piece s (a, pos) ≠ [] := by
  intro e
  have := congrArg List.length e
  have e2 : s.data.toList.length = s.size := by rw [Array.length_toList]; rfl
  simp only [piece, List.length_take, List.length_drop, List.length_nil, e2] at this
  omega
theorem spans_at (s : ByteArray) (f pos : Nat) (st : Option Nat) (acc : List (Nat × Nat)) (h : pos < s.size) : Lib.spansFromP blankP s (f + 1) pos st acc =
    if blankP (Utf8.decode s pos).1 = true then (match st with | some a => Lib.spansFromP blankP s f (pos + (Utf8.decode s pos).2) none (acc ++ [(a, pos)]) | none => Lib.spansFromP blankP s f (pos + (Utf8.decode s pos).2) none acc) else Lib.spansFromP blankP s f (pos + (Utf8.decode s pos).2) (some (st.getD pos)) acc := by
  conv => lhs; unfold Lib.spansFromP
  rw [if_pos h]
  cases st <;> rfl
theorem spans_fld (s : ByteArray) : ∀ (f pos : Nat) (st : Option Nat) (acc : List (Nat × Nat)), s.size ≤ pos + f → pos ≤ s.size → (∀ a, st = some a → a < pos) →
    (Lib.closeSpans s (Lib.spansFromP blankP s f pos st acc)).map (piece s) = acc.map (piece s) ++ fldL (s.data.toList.drop pos) (curOf s pos st) := by
  have e2 : s.data.toList.length = s.size := by rw [Array.length_toList]; rfl
  have hend : ∀ (pos : Nat) (st : Option Nat) (acc : List (Nat × Nat)), ¬ pos < s.size → pos ≤ s.size → (∀ a, st = some a → a < pos) → (Lib.closeSpans s (acc, st)).map (piece s) = acc.map (piece s) ++ fldL (s.data.toList.drop pos) (curOf s pos st) := by
    intro pos st acc h1 h2 h3
    obtain rfl : pos = s.size := by omega
    rw [List.drop_of_length_le (by omega), fldL]
    cases st with
    | none => simp [Lib.closeSpans, curOf]
    | some a =>
      rw [show curOf s s.size (some a) = piece s (a, s.size) from rfl, if_neg (piece_ne s a s.size (h3 a rfl) (Nat.le_refl _))]
      simp [Lib.closeSpans]
  intro f
  induction f with
  | zero =>
    intro pos st acc h1 h2 h3
    exact hend pos st acc (by omega) h2 h3
  | succ f ih =>
    intro pos st acc h1 h2 h3
    by_cases hlt : pos < s.size
    · rw [spans_at s f pos st acc hlt]
      have hdr : s.data.toList.drop pos = s[pos]'hlt :: s.data.toList.drop (pos + 1) := by
        rw [List.drop_eq_getElem_cons (by omega)]
        rfl
      by_cases ha : (s[pos]'hlt).toNat < 128
      · have hd := decode_ascii s pos hlt ha
        rw [hd]
        simp only
        rw [hdr, fldL]
        cases hb : isB (s[pos]'hlt) with
        | true =>
          have hb2 : blankP (s[pos]'hlt).toNat = true := hb
          rw [if_pos hb2, if_pos rfl]
          cases st with
          | none =>
            simp only
            rw [ih (pos + 1) none acc (by omega) (by omega) (fun a h => by cases h), if_pos (show curOf s pos none = [] from rfl)]
            rfl
          | some a =>
            simp only
            rw [ih (pos + 1) none _ (by omega) (by omega) (fun a h => by cases h), if_neg (show curOf s pos (some a) ≠ [] from piece_ne s a pos (h3 a rfl) h2)]
            simp [curOf]
        | false =>
          have hb2 : blankP (s[pos]'hlt).toNat = false := hb
          rw [hb2, if_neg (by decide), if_neg (by decide)]
          have hk : (s.data.toList.drop pos).take 1 = [s[pos]'hlt] := by rw [hdr]; rfl
          cases st with
          | none =>
            rw [show (none : Option Nat).getD pos = pos from rfl, ih (pos + 1) (some pos) acc (by omega) (by omega) (fun a h => by cases h; omega)]
            congr 2
            show piece s (pos, pos + 1) = [] ++ [s[pos]'hlt]
            rw [piece_more s pos pos 1 (Nat.le_refl _), hk]
            simp [piece]
          | some a =>
            rw [show (some a).getD pos = a from rfl, ih (pos + 1) (some a) acc (by omega) (by omega) (fun b h => by cases h; have := h3 a rfl; omega)]
            congr 2
            show piece s (a, pos + 1) = piece s (a, pos) ++ [s[pos]'hlt]
            rw [piece_more s a pos 1 (by have := h3 a rfl; omega), hk]
      · have hrun := decode_run s pos hlt (by omega)
        have hhi := decode_high s pos hlt (by omega)
        have hle := decode_le s pos
        have hwd := Lib.width_pos s pos
        obtain ⟨⟨r, d⟩, hrd⟩ : ∃ p, p = Utf8.decode s pos := ⟨_, rfl⟩
        rw [← hrd] at hrun hhi hle hwd ⊢
        simp only at hrun hhi hle hwd ⊢
        have hb2 : blankP r = false := blank_high hhi.1
        have hd0 : pos + d ≤ s.size := by
          obtain ⟨hj, _⟩ := hrun (pos + d - 1) (by omega) (by omega)
          omega
        have hk : ∀ c ∈ (s.data.toList.drop pos).take d, isB c = false := by
          intro c hc
          obtain ⟨i, hi, rfl⟩ := List.mem_iff_getElem.1 hc
          rw [List.length_take, List.length_drop] at hi
          obtain ⟨hj, h128⟩ := hrun (pos + i) (by omega) (by omega)
          refine blank_high ?_
          rw [List.getElem_take, List.getElem_drop]
          exact h128
        have hsp : s.data.toList.drop pos = (s.data.toList.drop pos).take d ++ s.data.toList.drop (pos + d) := by
          rw [← List.drop_drop, List.take_append_drop]
        rw [hb2, if_neg (by decide)]
        rw [ih (pos + d) (some (st.getD pos)) acc (by omega) hd0 (fun b h => by cases h; cases st with | none => simp; omega | some a => have := h3 a rfl; simp; omega)]
        congr 1
        conv => rhs; rw [hsp]
        rw [fldL_run _ _ _ hk]
        congr 1
        cases st with
        | none =>
          show piece s (pos, pos + d) = [] ++ _
          rw [piece_more s pos pos d (Nat.le_refl _)]
          simp [piece]
        | some a =>
          show piece s (a, pos + d) = piece s (a, pos) ++ _
          rw [piece_more s a pos d (by have := h3 a rfl; omega)]
    · rw [Lib.spansFromP_end _ _ _ _ _ _ hlt]
      exact hend pos st acc hlt h2 h3
theorem words_list (s : ByteArray) : (wordsOf s).map (fun x => x.data.toList) = fldL s.data.toList [] := by
  have := spans_fld s s.size 0 none [] (by omega) (by omega) (fun a h => by cases h)
  rw [List.map_nil, List.nil_append, List.drop_zero] at this
  rw [← show curOf s 0 none = [] from rfl, ← this]
  unfold wordsOf Lib.goFieldsP Lib.spansOfP
  rw [List.map_map]
  refine List.map_congr_left fun x _ => ?_
  exact Lib.extract_data s x.1 x.2
theorem fldL_good : ∀ (l cur : List UInt8), (∀ c ∈ cur, isB c = false) → ∀ x ∈ fldL l cur, x ≠ [] ∧ ∀ c ∈ x, isB c = false
  | [], cur, h, x, hx => by
    rw [fldL] at hx
    split at hx
    · cases hx
    · rename_i hne
      rw [List.mem_singleton] at hx
      subst hx
      exact ⟨hne, h⟩
  | c :: r, cur, h, x, hx => by
    rw [fldL] at hx
    split at hx
    · split at hx
      · exact fldL_good r [] (fun _ h => by cases h) x hx
      · rename_i hne
        rcases List.mem_cons.1 hx with rfl | hx
        · exact ⟨hne, h⟩
        · exact fldL_good r [] (fun _ h => by cases h) x hx
    · rename_i hb
      exact fldL_good r (cur ++ [c]) (fun d hd => by
        rcases List.mem_append.1 hd with hd | hd
        · exact h d hd
        · rw [List.mem_singleton] at hd; subst hd; simpa using hb) x hx
theorem fldL_one (w : List UInt8) (h : ∀ c ∈ w, isB c = false) (hne : w ≠ []) : fldL w [] = [w] := by
  have := fldL_run w [] [] h
  rw [List.append_nil, List.nil_append] at this
  rw [this, fldL, if_neg hne]
theorem data_inj {a b : ByteArray} (h : a.data.toList = b.data.toList) : a = b := ByteArray.ext (Array.toList_inj.1 h)
theorem map_data_inj : ∀ {xs ys : List ByteArray}, xs.map (fun x => x.data.toList) = ys.map (fun x => x.data.toList) → xs = ys
  | [], [], _ => rfl
  | [], y :: ys, h => by simp at h
  | x :: xs, [], h => by simp at h
  | x :: xs, y :: ys, h => by
    rw [List.map_cons, List.map_cons] at h
    injection h with h1 h2
    rw [data_inj h1, map_data_inj h2]
theorem words_good (s : ByteArray) : ∀ x ∈ wordsOf s, x.data.toList ≠ [] ∧ ∀ c ∈ x.data.toList, isB c = false := fun x hx => by
  have : x.data.toList ∈ fldL s.data.toList [] := by rw [← words_list]; exact List.mem_map.2 ⟨x, hx, rfl⟩
  exact fldL_good _ [] (fun _ h => by cases h) _ this
/-- A text that is its only token is its only word. -/
theorem id_words {s : ByteArray} (h : tokens s = [s]) : wordsOf s = [s] := by
  have hm : s ∈ wordsOf s := by
    rcases tokD_mem (wordsOf s) [] s (by rw [show tokD (wordsOf s) [] = [s] from h]; exact List.mem_cons_self ..) with h1 | h1
    · exact h1
    · cases h1
  obtain ⟨h1, h2⟩ := words_good s s hm
  apply map_data_inj
  rw [words_list, fldL_one _ h2 h1]
  rfl
/-! Tokens and words: they are as many just where none comes twice. -/
def nodup : List ByteArray → List ByteArray → Bool
  | [], _ => true
  | x :: r, out => !Lib.containsS out x && nodup r (out ++ [x])
theorem tokD_app : ∀ (l out : List ByteArray), nodup l out = true → tokD l out = out ++ l
  | [], out, _ => by simp [tokD]
  | x :: r, out, h => by
    rw [nodup, Bool.and_eq_true] at h
    have h1 : Lib.containsS out x = false := by simpa using h.1
    rw [tokD, h1, if_neg (by decide), tokD_app r _ h.2, List.append_assoc]
    rfl
def bulk (l : List ByteArray) : Nat := (l.map fun x => x.data.toList.length + 1).sum
theorem bulk_app (a b : List ByteArray) : bulk (a ++ b) = bulk a + bulk b := by simp [bulk]
theorem tokD_bulk : ∀ (l out : List ByteArray), (tokD l out).length ≤ out.length + l.length ∧ bulk (tokD l out) ≤ bulk out + bulk l
  | [], out => by simp [tokD, bulk]
  | x :: r, out => by
    rw [tokD]
    have h1 := tokD_bulk r out
    have h2 := tokD_bulk r (out ++ [x])
    have e : bulk (x :: r) = bulk [x] + bulk r := bulk_app [x] r
    rw [bulk_app, List.length_append] at h2
    split <;> simp only [List.length_cons, List.length_nil] at * <;> omega
theorem bulk_pos (x : ByteArray) (l : List ByteArray) : bulk (x :: l) ≥ bulk l + 1 := by simp [bulk]; omega
theorem tokD_dup : ∀ (l out : List ByteArray), nodup l out = false → (tokD l out).length < out.length + l.length ∧ bulk (tokD l out) < bulk out + bulk l
  | [], out, h => by cases h
  | x :: r, out, h => by
    rw [nodup] at h
    rw [tokD]
    have e : bulk (x :: r) = bulk [x] + bulk r := bulk_app [x] r
    have e1 := bulk_pos x []
    cases hc : Lib.containsS out x with
    | true =>
      rw [if_pos rfl]
      have h1 := tokD_bulk r out
      have : bulk ([] : List ByteArray) = 0 := rfl
      simp only [List.length_cons]
      omega
    | false =>
      rw [hc] at h
      rw [if_neg (by decide)]
      have h2 := tokD_dup r (out ++ [x]) (by simpa using h)
      rw [bulk_app, List.length_append] at h2
      simp only [List.length_cons, List.length_nil] at *
      omega
theorem join_bulk : ∀ (l : List ByteArray), l ≠ [] → (Lib.join (l.map fun x => x.data.toList) [32]).length + 1 = bulk l
  | [x], _ => by simp [Lib.join_one, bulk]
  | x :: y :: r, _ => by
    have ih := join_bulk (y :: r) (by simp)
    have e : Lib.join ((x :: y :: r).map fun x => x.data.toList) [32] = x.data.toList ++ [32] ++ Lib.join ((y :: r).map fun x => x.data.toList) [32] := by simp [Lib.join, List.intercalate]
    rw [e, show bulk (x :: y :: r) = bulk [x] + bulk (y :: r) from bulk_app [x] (y :: r), ← ih]
    simp [bulk]
    omega
theorem joinS_data (l : List ByteArray) : (joinS l).data.toList = Lib.join (l.map fun x => x.data.toList) [32] := by simp [joinS]
/-- What micro.Valid asks of tokens. -/
theorem tokens_ok (s : ByteArray) : (decide ((tokens s).length > 0) && (joinS (tokens s)).toList == (joinS (wordsOf s)).toList) = (decide ((wordsOf s).length > 0) && nodup (wordsOf s) []) := by
  rw [ByteArray.toList_eq, ByteArray.toList_eq, joinS_data, joinS_data]
  unfold tokens
  cases hn : nodup (wordsOf s) [] with
  | true =>
    rw [tokD_app _ _ hn, List.nil_append]
    simp
  | false =>
    have h1 := tokD_dup _ _ hn
    rw [Bool.and_false]
    by_cases h0 : tokD (wordsOf s) [] = []
    · rw [h0]; rfl
    · have hw : wordsOf s ≠ [] := fun e => h0 (by rw [e]; rfl)
      have e1 := join_bulk _ h0
      have e2 := join_bulk _ hw
      have : bulk ([] : List ByteArray) = 0 := rfl
      rw [Bool.and_eq_false_iff]
      right
      rw [beq_eq_false_iff_ne]
      intro e
      have := congrArg List.length e
      omega
theorem tokens_le (s : ByteArray) : (tokens s).length ≤ (wordsOf s).length := by
  have := tokD_len (wordsOf s) []
  unfold tokens
  simpa using this
theorem tokD_out : ∀ (l out : List ByteArray), out.length ≤ (tokD l out).length
  | [], out => Nat.le_refl _
  | x :: r, out => by
    rw [tokD]
    have := tokD_out r (if Lib.containsS out x = true then out else out ++ [x])
    split at this <;> rename_i h
    · rw [if_pos h]; exact this
    · rw [if_neg h]; rw [List.length_append] at this; omega
theorem tokens_pos (s : ByteArray) (h : 0 < (wordsOf s).length) : 0 < (tokens s).length := by
  unfold tokens
  cases hw : wordsOf s with
  | nil => rw [hw] at h; cases h
  | cons x r =>
    rw [tokD, if_neg (by rw [show Lib.containsS [] x = false from rfl]; decide)]
    exact Nat.lt_of_lt_of_le (by simp) (tokD_out r ([] ++ [x]))
end Go.Proofs.YtnfjohpecedpnaaDoor.Words
