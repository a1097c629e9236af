/- PlacePaths, the plain law: the text of any steps is the document's, and it tells the steps again. -/
import Derived.Test.YtkkkgmaljenblaaDoorAskPlacePaths
import Derived.Test.YtkkkgmaljenblaaDoorHPath
import Derived.Test.YtkkkgmaljenblaaDoorRefSteps
namespace Go.Proofs.YtkkkgmaljenblaaDoor.Pure
open Go.RowKit Go.Proofs.YtkkkgmaljenblaaDoor.PS Go.Proofs.YtkkkgmaljenblaaDoorW.PrintWords Go.Proofs.YtkkkgmaljenblaaDoorW.PrintLast Go.Proofs.YtkkkgmaljenblaaDoor.Dec

theorem bytes_ext {a b : ByteArray} (h : a.data.toList = b.data.toList) : a = b := by
  cases a; cases b
  simp only [ByteArray.mk.injEq]
  exact Array.toList_inj.1 h
theorem data_append (a b : ByteArray) : (a ++ b).data.toList = a.data.toList ++ b.data.toList := by simp
theorem size_len (a : ByteArray) : a.size = a.data.toList.length := by simp
/-! ### the document's Digits -/
def pre (n : Nat) : List UInt8 := if n < 10 then [] else Lib.decDigits (n / 10)
theorem pre_dec (n : Nat) : Lib.decDigits n = pre n ++ [UInt8.ofNat (48 + n % 10)] := by
  unfold pre
  by_cases h : n < 10
  · rw [if_pos h, Lib.decDigits_one h, Nat.mod_eq_of_lt h]; rfl
  · rw [if_neg h, Lib.decDigits, dif_neg h]
theorem digit_b (n : Nat) : (strOfNums ([(wrap64 (48 + (Int.tmod (n : Int) 10))) % 256] : List Int)).data.toList = [UInt8.ofNat (48 + n % 10)] := by
  have e : Int.tmod (n : Int) 10 = ((n % 10 : Nat) : Int) := rfl
  rw [strOfNums_data, e, w64 (by omega) (by omega), List.map_cons, List.map_nil]
  congr 2
  omega
theorem digits_ev (m : Nat) : ∀ (n : Nat) (s : ByteArray), n < 10 ^ m → n < 9223372036854775808 → s.size + m ≤ 1000 → Ev (fun k => beadleref03_Digits.l0 k (n : Int) s) ⟨(pre n ++ s.data.toList).toArray⟩ := by
  induction m with
  | zero =>
    intro n s h _ _
    obtain rfl : n = 0 := by simpa using h
    refine Ev.step (fun k => ?_) (Ev.now _)
    rw [beadleref03_Digits.l0, if_neg (by decide)]
    rfl
  | succ m ih =>
    intro n s h h63 hs
    by_cases h9 : n < 10
    · refine Ev.step (fun k => ?_) (Ev.now _)
      rw [beadleref03_Digits.l0, if_neg (by omega)]
      unfold pre
      rw [if_pos h9]
      rfl
    · have e10 : wrap64 (Int.tdiv (n : Int) 10) = ((n / 10 : Nat) : Int) := by
        have e : Int.tdiv (n : Int) 10 = ((n / 10 : Nat) : Int) := rfl
        rw [e, w64 (by omega) (by omega)]
      have hd := digit_b (n / 10)
      rw [Nat.pow_succ] at h
      have hsz : (strOfNums ([(wrap64 (48 + (Int.tmod ((n / 10 : Nat) : Int) 10))) % 256] : List Int)).size = 1 := by rw [strOfNums_size]; rfl
      have hgo := ih (n / 10) (strOfNums ([(wrap64 (48 + (Int.tmod ((n / 10 : Nat) : Int) 10))) % 256] : List Int) ++ s) (by omega) (by omega) (by rw [ByteArray.size_append, hsz]; omega)
      have e : pre (n / 10) ++ (strOfNums ([(wrap64 (48 + (Int.tmod ((n / 10 : Nat) : Int) 10))) % 256] : List Int) ++ s).data.toList = pre n ++ s.data.toList := by
        rw [data_append, hd, ← List.append_assoc, ← pre_dec]
        conv => rhs; rw [pre, if_neg h9]
      rw [e] at hgo
      refine Ev.step (fun k => ?_) hgo
      rw [beadleref03_Digits.l0, if_pos (by omega), e10, Option.bind_some, if_pos (by rw [hsz]; omega)]
theorem digits_f (n : Nat) (h : n < 9223372036854775808) : Ev (fun k => beadleref03_Digits.f k (n : Int)) ⟨(Lib.itoa n).toArray⟩ := by
  have hd := digit_b n
  have hgo := digits_ev 20 n (strOfNums ([(wrap64 (48 + (Int.tmod (n : Int) 10))) % 256] : List Int)) (by omega) h (by rw [strOfNums_size]; show 1 + 20 ≤ 1000; omega)
  rw [hd, ← pre_dec, ← Lib.itoa_nonneg] at hgo
  exact hgo
/-! ### the document's Path -/
def pathRes (l : List Int) : ByteArray := if l = [] then ⟨#[47]⟩ else if l.all (fun n => decide (0 ≤ n)) = true then ⟨(pathText l).toArray⟩ else ⟨#[]⟩
theorem pathText_append (xs ys : List Int) : pathText (xs ++ ys) = pathText xs ++ pathText ys := by simp [pathText]
theorem path_ev (l : List Int) (hf : l.all fits = true) (hl : l.length ≤ 1048576) (d : Nat) : ∀ i, i + d = l.length → (l.take i).all (fun n => decide (0 ≤ n)) = true →
    Ev (fun k => beadleref03_Path.l0 k l ⟨(pathText (l.take i)).toArray⟩ (i : Int)) (pathRes l) := by
  induction d with
  | zero =>
    intro i hi hp
    obtain rfl : i = l.length := by omega
    rw [List.take_length] at hp ⊢
    refine Ev.step (fun k => ?_) (Ev.now _)
    rw [beadleref03_Path.l0, if_neg (by omega), ByteArray.toList_eq]
    show (if pathText l = [] then _ else _) = _
    unfold pathRes
    by_cases h : l = []
    · subst h
      rfl
    · rw [if_neg h, if_pos hp, if_neg]
      cases l with
      | nil => exact absurd rfl h
      | cons x xs => simp [pathText, stepText]
  | succ d ih =>
    intro i hi hp
    have hlt : i < l.length := by omega
    have hx : rd l (i : Int) = l[i] := by
      unfold rd
      rw [Int.toNat_natCast, List.getD_eq_getElem?_getD, List.getElem?_eq_getElem hlt]
      rfl
    have hmem : l[i] ∈ l := List.getElem_mem _
    have hfx : fits l[i] = true := List.all_eq_true.1 hf _ hmem
    have htk : l.take (i + 1) = l.take i ++ [l[i]] := List.take_succ_eq_append_getElem hlt
    generalize hx0 : l[i] = x at *
    have hfx2 := of_decide_eq_true hfx
    by_cases hneg : x < 0
    · have e : pathRes l = ⟨#[]⟩ := by
        unfold pathRes
        rw [if_neg (by rintro rfl; cases hlt), if_neg]
        intro h
        have := of_decide_eq_true (List.all_eq_true.1 h x hmem)
        omega
      rw [e]
      refine Ev.step (fun k => ?_) (Ev.now _)
      rw [beadleref03_Path.l0, if_pos (by omega), if_pos (by omega), hx, if_pos hneg]
    · obtain ⟨n, rfl⟩ : ∃ n : Nat, x = n := ⟨x.toNat, by omega⟩
      have hp2 : (l.take (i + 1)).all (fun n => decide (0 ≤ n)) = true := by
        rw [htk, List.all_append, hp]
        simp
      have hgo := ih (i + 1) (by omega) hp2
      have hdig := digits_f n (by omega)
      have hlen := Lib.itoa_length_le (n : Int) (by omega) (by omega)
      have hpl := pathText_len (l.take i) (List.all_eq_true.2 fun y hy => List.all_eq_true.1 hf y (List.mem_of_mem_take hy))
      rw [List.length_take] at hpl
      refine Ev.step (f := fun k => (beadleref03_Digits.f k (n : Int)).bind fun t147 => (if 1 + t147.size ≤ 9223372036854775807 then (if (⟨(pathText (l.take i)).toArray⟩ : ByteArray).size + ((⟨#[47]⟩ : ByteArray) ++ t147).size ≤ 9223372036854775807 then (beadleref03_Path.l0 k l ((⟨(pathText (l.take i)).toArray⟩ : ByteArray) ++ ((⟨#[47]⟩ : ByteArray) ++ t147)) (wrap64 ((i : Int) + 1))) else (none)) else (none))) (fun k => ?_) (Ev.bind hdig ?_)
      · rw [beadleref03_Path.l0, if_pos (by omega), if_pos (by omega), hx, if_neg hneg]
      · refine Ev.congr (fun k => ?_) hgo
        have e1 : (⟨(Lib.itoa (n : Int)).toArray⟩ : ByteArray).size = (Lib.itoa (n : Int)).length := by rw [size_len]
        have e2 : (⟨(pathText (l.take i)).toArray⟩ : ByteArray).size = (pathText (l.take i)).length := by rw [size_len]
        have e3 : (⟨#[47]⟩ : ByteArray).size = 1 := rfl
        have e4 : (⟨(pathText (l.take i)).toArray⟩ : ByteArray) ++ ((⟨#[47]⟩ : ByteArray) ++ ⟨(Lib.itoa (n : Int)).toArray⟩) = ⟨(pathText (l.take (i + 1))).toArray⟩ := by
          apply bytes_ext
          rw [data_append, data_append, htk, pathText_append]
          show pathText (l.take i) ++ ([47] ++ Lib.itoa (n : Int)) = pathText (l.take i) ++ pathText [(n : Int)]
          simp [pathText, stepText]
        rw [if_pos (by rw [e1]; omega), if_pos (by rw [ByteArray.size_append, e1, e2, e3]; omega), w64 (by omega) (by omega), e4]
        rfl
/-! ### the way back -/
theorem dec47 (u : Nat) : ∀ c ∈ Lib.decDigits u, c ≠ 47 := fun c hc => digit47 ((dec_out u).2.1 c hc)
theorem back (l : List Int) : ∀ n : Nat, n < 1000000000000000000 → (∀ x ∈ l, 0 ≤ x ∧ x < 1000000000000000000) → stepsL (sp (Lib.decDigits n ++ pathText l)) = some ((n : Int) :: l) := by
  induction l with
  | nil =>
    intro n hn _
    have e := sp_run (Lib.decDigits n) [] (dec47 n) (g := []) (t := []) rfl
    show stepsL (sp (Lib.decDigits n ++ [])) = _
    rw [e, List.append_nil, stepsL, stepL_dec hn]
    rfl
  | cons x xs ih =>
    intro n hn h
    obtain ⟨h0, h1⟩ := h x (List.mem_cons_self ..)
    obtain ⟨m, rfl⟩ : ∃ m : Nat, x = m := ⟨x.toNat, by omega⟩
    have hgo := ih m (by omega) (fun y hy => h y (List.mem_cons_of_mem _ hy))
    have e0 : pathText ((m : Int) :: xs) = 47 :: (Lib.decDigits m ++ pathText xs) := by
      rw [pathText, List.flatMap_cons, stepText, Lib.itoa_nonneg]
      rfl
    have e := sp_run (Lib.decDigits n) (47 :: (Lib.decDigits m ++ pathText xs)) (dec47 n) (g := []) (t := sp (Lib.decDigits m ++ pathText xs)) (by rw [sp, if_pos rfl])
    rw [e0, e, List.append_nil, stepsL, stepL_dec hn, hgo]
    rfl
theorem tells (l : List Int) (h : ∀ x ∈ l, 0 ≤ x ∧ x < 1000000000000000000) : stepsRes (pathRes l) = (l, true) := by
  cases l with
  | nil =>
    rw [stepsRes_eq]
    rfl
  | cons x xs =>
    obtain ⟨h0, h1⟩ := h x (List.mem_cons_self ..)
    obtain ⟨m, rfl⟩ : ∃ m : Nat, x = m := ⟨x.toNat, by omega⟩
    have e0 : pathText ((m : Int) :: xs) = 47 :: (Lib.decDigits m ++ pathText xs) := by
      rw [pathText, List.flatMap_cons, stepText, Lib.itoa_nonneg]
      rfl
    have hgo := back xs m (by omega) (fun y hy => h y (List.mem_cons_of_mem _ hy))
    obtain ⟨_, _, c, r, hc, _⟩ := dec_out m
    have hpr : (pathRes ((m : Int) :: xs)).data.toList = 47 :: (Lib.decDigits m ++ pathText xs) := by
      unfold pathRes
      rw [if_neg (List.cons_ne_nil _ _), if_pos (List.all_eq_true.2 fun y hy => decide_eq_true (h y hy).1)]
      exact e0
    rw [stepsRes_eq, hpr, if_neg (by rw [hc]; simp), if_neg (List.cons_ne_nil _ _), resL, if_pos rfl, hgo]
    rfl
theorem same_ev2 (xs : List Int) (hl : xs.length ≤ 4294967296) (d : Nat) : ∀ i : Nat, i + d = xs.length → Ev (fun k => beadlelaw03_PlacePaths.l1 k xs xs i) true := by
  induction d with
  | zero =>
    intro i hi
    refine Ev.step (fun k => ?_) (Ev.now _)
    rw [beadlelaw03_PlacePaths.l1, if_neg (by omega)]
  | succ d ih =>
    intro i hi
    refine Ev.step (fun k => ?_) (ih (i + 1) (by omega))
    rw [beadlelaw03_PlacePaths.l1, if_pos (by omega), if_pos (by omega), if_pos (by omega), if_pos rfl, w64 (by omega) (by omega)]
    rfl
theorem law_ev (l : List Int) (hf : l.all fits = true) (hl : l.length ≤ 1048576) (d : Nat) : ∀ i : Nat, i + d = l.length → (∀ x ∈ l.take i, 0 ≤ x ∧ x < 1000000000000000000) → Ev (fun k => beadlelaw03_PlacePaths.l0 k l (pathRes l) i) true := by
  induction d with
  | zero =>
    intro i hi hp
    obtain rfl : i = l.length := by omega
    rw [List.take_length] at hp
    have hsz : (pathRes l).size ≤ 4000000000 := by
      unfold pathRes
      split
      · decide
      · split
        · rw [size_len]
          have := pathText_len l hf
          show (pathText l).length ≤ _
          omega
        · decide
    have hw : place_Steps.f (pathRes l) = some (l, true) := by unfold place_Steps.f; rw [if_pos hsz, tells l hp]
    refine Ev.step (f := fun k => beadlelaw03_PlacePaths.j1 k l l false) (fun k => ?_) ?_
    · rw [beadlelaw03_PlacePaths.l0, if_neg (by omega), hw, Option.bind_some, if_pos rfl]
      simp
    · refine Ev.step (f := fun k => beadlelaw03_PlacePaths.l1 k l l 0) (fun k => ?_) (same_ev2 l (by omega) l.length 0 (by omega))
      rw [beadlelaw03_PlacePaths.j1]
      rfl
  | succ d ih =>
    intro i hi hp
    have hlt : i < l.length := by omega
    have hx : rd l (i : Int) = l[i] := by
      unfold rd
      rw [Int.toNat_natCast, List.getD_eq_getElem?_getD, List.getElem?_eq_getElem hlt]
      rfl
    have htk : l.take (i + 1) = l.take i ++ [l[i]] := List.take_succ_eq_append_getElem hlt
    by_cases h1 : l[i] < 0
    · refine Ev.step (fun k => ?_) (Ev.now _)
      rw [beadlelaw03_PlacePaths.l0, if_pos (by omega), if_pos (by omega), hx, if_pos h1]
    · by_cases h2 : l[i] ≥ 1000000000000000000
      · refine Ev.step (fun k => ?_) (Ev.now _)
        rw [beadlelaw03_PlacePaths.l0, if_pos (by omega), if_pos (by omega), hx, if_neg h1, if_pos h2]
      · have hgo := ih (i + 1) (by omega) (fun x hx => by
          rw [htk] at hx
          rcases List.mem_append.1 hx with h | h
          · exact hp x h
          · rw [List.mem_singleton] at h
            omega)
        refine Ev.step (fun k => ?_) hgo
        rw [beadlelaw03_PlacePaths.l0, if_pos (by omega), if_pos (by omega), hx, if_neg h1, if_neg h2, w64 (by omega) (by omega)]
        rfl
theorem sum_one (l : List Int) : Opens.sumB (fun _ => 1) l = l.length := by
  induction l with
  | nil => rfl
  | cons x xs ih =>
    show 1 + Opens.sumB (fun _ => 1) xs = _
    rw [ih]
    simp
    omega
theorem PlacePaths : beadlelaw03_PlacePaths.Ask := by
  intro l hw hb
  rw [sum_one] at hb
  have hf : l.all fits = true := by
    refine List.all_eq_true.2 fun x hx => ?_
    have h1 := hw.2 x hx
    have h2 : (decide (IntKind.i64.min ≤ x) && decide (x ≤ IntKind.i64.max)) = true := h1
    rw [Bool.and_eq_true] at h2
    refine decide_eq_true ⟨?_, ?_⟩
    · exact of_decide_eq_true h2.1
    · exact of_decide_eq_true h2.2
  have hP : place_Path.f l = some (pathRes l) := by
    unfold place_Path.f
    rw [if_pos ⟨by omega, hf⟩]
    rfl
  have h12 : place_Path.f ([0, 12] : List Int) = some ⟨#[47, 48, 47, 49, 50]⟩ := by
    unfold place_Path.f
    have e1 : Lib.itoa 0 = [48] := by rw [show (0 : Int) = ((0 : Nat) : Int) from rfl, Lib.itoa_nonneg, Lib.decDigits_one (by decide)]; rfl
    have e2 : Lib.itoa 12 = [49, 50] := by rw [show (12 : Int) = ((12 : Nat) : Int) from rfl, Lib.itoa_nonneg, Lib.decDigits_two (by decide) (by decide)]; rfl
    rw [if_pos ⟨by decide, by decide⟩, if_neg (by decide), if_pos (by decide)]
    have e3 : pathText [0, 12] = [47, 48, 47, 49, 50] := by
      simp only [pathText, List.flatMap_cons, stepText, e1, e2]
      rfl
    rw [e3]
  have hb12 : (⟨#[47, 48, 47, 49, 50]⟩ : ByteArray).toList = ([47, 48, 47, 49, 50] : List UInt8) := by rw [ByteArray.toList_eq]
  have hr : Ev (fun k => beadleref03_Path.f k l) (pathRes l) := path_ev l hf (by omega) l.length 0 (by omega) rfl
  refine Ev.rounds (g := fun k => beadlelaw03_PlacePaths.f k l) ?_
  refine Ev.congr (f := fun k => (beadleref03_Path.f k l).bind fun t159 => (if (pathRes l).toList = t159.toList then (beadlelaw03_PlacePaths.l0 k l (pathRes l) 0) else (some false))) (fun k => ?_) (Ev.bind hr ?_)
  · rw [beadlelaw03_PlacePaths.f, h12, Option.bind_some, if_pos hb12, Option.bind_some, if_pos (by simp; omega), List.nil_append, hP]
    rfl
  · simp only [if_true]
    exact law_ev l hf (by omega) l.length 0 (by omega) (by simp)
end Go.Proofs.YtkkkgmaljenblaaDoor.Pure
