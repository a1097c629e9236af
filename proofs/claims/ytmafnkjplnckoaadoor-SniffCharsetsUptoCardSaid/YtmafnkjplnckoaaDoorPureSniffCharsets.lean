/- SniffCharsets, the plain law: the walked function and the document's answer agree at any text. -/
import Derived.Test.YtmafnkjplnckoaaDoorAskSniffCharsets
import Derived.Test.YtmafnkjplnckoaaDoorRef
import Derived.Test.YtmafnkjplnckoaaDoorHStr2
import Derived.Lib.IndexMore
import Derived.Lib.IndexLaws
import Derived.Lib.IndexBytes
namespace Go.Proofs.YtmafnkjplnckoaaDoor.Pure
open Go.RowKit Go.Proofs.YtmafnkjplnckoaaDoor.PL Go.Proofs.YtmafnkjplnckoaaDoorW.PrintWords Go.Proofs.YtmafnkjplnckoaaDoorW.PrintLast

def dropB (a : ByteArray) (p : Nat) : ByteArray := ⟨(a.data.toList.drop p).toArray⟩
theorem dropB_list (a : ByteArray) (p : Nat) : (dropB a p).data.toList = a.data.toList.drop p := rfl
theorem dropB_size (a : ByteArray) (p : Nat) : (dropB a p).size = a.size - p := by rw [← size_len, dropB_list, List.length_drop, size_len]
theorem dropB_zero (a : ByteArray) : dropB a 0 = a := bytes_ext (by rw [dropB_list, List.drop_zero])
theorem dropB_add (a : ByteArray) (p q : Nat) : dropB (dropB a p) q = dropB a (p + q) := bytes_ext (by rw [dropB_list, dropB_list, dropB_list, List.drop_drop])
theorem extract_end (a : ByteArray) (p : Nat) : a.extract p a.size = dropB a p := bytes_ext (by rw [extract_list, dropB_list, List.take_of_length_le (by rw [size_len]; exact Nat.le_refl _)])
/-- The run of blanks ahead. -/
theorem skip_ex (l : List UInt8) : ∃ m, m ≤ l.length ∧ (∀ (j : Nat) b, j < m → l[j]? = some b → bl.contains b = true) ∧ (∀ b, l[m]? = some b → bl.contains b = false) ∧ Lib.trimLeftS l bl = l.drop m := by
  have key : ∃ m, m ≤ l.length ∧ (∀ (j : Nat) b, j < m → l[j]? = some b → bl.contains b = true) ∧ (∀ b, l[m]? = some b → bl.contains b = false) := by
    induction l with
    | nil => exact ⟨0, Nat.le_refl _, fun j b hj => absurd hj (Nat.not_lt_zero _), fun b hb => by simp at hb⟩
    | cons c r ih =>
      cases hc : bl.contains c with
      | false => exact ⟨0, Nat.zero_le _, fun j b hj => absurd hj (Nat.not_lt_zero _), fun b hb => by simp at hb; subst hb; exact hc⟩
      | true =>
        obtain ⟨m, h1, h2, h3⟩ := ih
        refine ⟨m + 1, by simp; exact h1, fun j b hj hb => ?_, fun b hb => ?_⟩
        · cases j with
          | zero => simp at hb; subst hb; exact hc
          | succ j => exact h2 j b (by omega) (by simpa using hb)
        · exact h3 b (by simpa using hb)
  obtain ⟨m, h1, h2, h3⟩ := key
  exact ⟨m, h1, h2, h3, Lib.trimLeftS_drop l bl m h1 h2 h3⟩
theorem skip_at (a : ByteArray) (p : Nat) (hp : p ≤ a.size) : ∃ p', p ≤ p' ∧ p' ≤ a.size ∧ (∀ (j : Nat) b, p ≤ j → j < p' → a.data.toList[j]? = some b → bl.contains b = true) ∧ (∀ b, a.data.toList[p']? = some b → bl.contains b = false) ∧ strings_TrimLeft.f (dropB a p) ⟨#[9, 10, 12, 13, 32]⟩ = some (dropB a p') := by
  obtain ⟨m, h1, h2, h3, h4⟩ := skip_ex (a.data.toList.drop p)
  rw [List.length_drop, size_len] at h1
  refine ⟨p + m, by omega, by omega, fun j b hj1 hj2 hb => ?_, fun b hb => ?_, ?_⟩
  · exact h2 (j - p) b (by omega) (by rw [List.getElem?_drop, show p + (j - p) = j from by omega]; exact hb)
  · exact h3 b (by rw [List.getElem?_drop]; exact hb)
  · unfold strings_TrimLeft.f
    rw [if_pos ⟨by decide, by decide⟩]
    congr 1
    apply bytes_ext
    show Lib.trimLeftS (a.data.toList.drop p) bl = a.data.toList.drop (p + m)
    rw [h4, List.drop_drop]
abbrev eL : List UInt8 := [9, 10, 12, 13, 32, 59]
theorem eL_of (c : UInt8) : eL.contains c = (bl.contains c || c == 59) := by
  simp only [List.contains_eq_any_beq, List.any_cons, List.any_nil, Bool.or_false, Bool.or_assoc]
abbrev csL : List UInt8 := [99, 104, 97, 114, 115, 101, 116]
section
variable (a : ByteArray) (hs : a.size ≤ 4000000000)
include hs
/-! ### the document's loops -/
theorem l2_ev (v : ByteArray × Bool) (p' : Nat) (hp' : p' ≤ a.size) (h2 : ∀ b, a.data.toList[p']? = some b → bl.contains b = false) (hv : if a.data.toList[p']? = some 61 then Ev (fun k => beadleref01_Charset.l3 k a ((p' + 1 : Nat) : Int)) v else Ev (fun k => beadleref01_Charset.l0 k a (p' : Int)) v) (d : Nat) :
    ∀ p, p + d = p' → (∀ (j : Nat) b, p ≤ j → j < p' → a.data.toList[j]? = some b → bl.contains b = true) → Ev (fun k => beadleref01_Charset.l2 k a (p : Int)) v := by
  have hl := size_len a
  induction d with
  | zero =>
    intro p hp h1
    obtain rfl : p = p' := by omega
    by_cases hlt : p < a.data.toList.length
    · have hb := bt_get hlt
      rw [List.getElem?_eq_getElem hlt] at hv h2
      have hf := h2 _ rfl
      by_cases h61 : a.data.toList[p] = 61
      · rw [if_pos (by rw [h61])] at hv
        refine Ev.step (fun k => ?_) hv
        rw [beadleref01_Charset.l2, if_pos (by omega), if_pos (by omega), hb, blank_f, hf, Option.bind_some, if_neg (by decide), if_pos (by rw [h61]; rfl), w64 (by omega) (by omega)]
        rfl
      · rw [if_neg (by rw [Option.some.injEq]; exact h61)] at hv
        refine Ev.step (fun k => ?_) hv
        rw [beadleref01_Charset.l2, if_pos (by omega), if_pos (by omega), hb, blank_f, hf, Option.bind_some, if_neg (by decide), if_neg]
        intro e
        apply h61
        apply UInt8.toNat_inj.1
        show (a.data.toList[p]).toNat = 61
        omega
    · rw [List.getElem?_eq_none (by omega), if_neg (by simp)] at hv
      refine Ev.step (fun k => ?_) hv
      rw [beadleref01_Charset.l2, if_neg (by omega)]
  | succ d ih =>
    intro p hp h1
    have hlt : p < a.data.toList.length := by omega
    have hb := bt_get hlt
    have hf := h1 p _ (Nat.le_refl _) (by omega) (List.getElem?_eq_getElem hlt)
    refine Ev.step (fun k => ?_) (ih (p + 1) (by omega) (fun j b hj1 hj2 => h1 j b (by omega) hj2))
    rw [beadleref01_Charset.l2, if_pos (by omega), if_pos (by omega), hb, blank_f, hf, Option.bind_some, if_pos rfl, w64 (by omega) (by omega)]
    rfl
theorem l3_ev (v : ByteArray × Bool) (p' : Nat) (hp' : p' ≤ a.size) (h2 : ∀ b, a.data.toList[p']? = some b → bl.contains b = false) (hv : Ev (fun k => beadleref01_Charset.j5 k a (p' : Int)) v) (d : Nat) :
    ∀ p, p + d = p' → (∀ (j : Nat) b, p ≤ j → j < p' → a.data.toList[j]? = some b → bl.contains b = true) → Ev (fun k => beadleref01_Charset.l3 k a (p : Int)) v := by
  have hl := size_len a
  induction d with
  | zero =>
    intro p hp h1
    obtain rfl : p = p' := by omega
    refine Ev.step (fun k => ?_) hv
    by_cases hlt : p < a.data.toList.length
    · have hb := bt_get hlt
      have hf := h2 _ (List.getElem?_eq_getElem hlt)
      rw [beadleref01_Charset.l3, if_pos (by omega), if_pos (by omega), hb, blank_f, hf, Option.bind_some, if_neg (by decide)]
    · rw [beadleref01_Charset.l3, if_neg (by omega)]
  | succ d ih =>
    intro p hp h1
    have hlt : p < a.data.toList.length := by omega
    have hb := bt_get hlt
    have hf := h1 p _ (Nat.le_refl _) (by omega) (List.getElem?_eq_getElem hlt)
    refine Ev.step (fun k => ?_) (ih (p + 1) (by omega) (fun j b hj1 hj2 => h1 j b (by omega) hj2))
    rw [beadleref01_Charset.l3, if_pos (by omega), if_pos (by omega), hb, blank_f, hf, Option.bind_some, if_pos rfl, w64 (by omega) (by omega)]
    rfl
theorem stands_ev (q : Nat) (hq : q ≤ a.size) : Ev (fun k => beadleref01_stands.f k a (q : Int) ⟨#[99, 104, 97, 114, 115, 101, 116]⟩) (Lib.occAt (a.data.toList.map low) csL q) := by
  have hl := size_len a
  have h7 : (⟨#[99, 104, 97, 114, 115, 101, 116]⟩ : ByteArray).size = 7 := rfl
  by_cases h : q + 7 ≤ a.size
  · have hx : (a.extract q (q + 7)).size ≤ 4000000000 := by rw [ByteArray.size_extract]; omega
    refine Ev.congr (f := fun k => (beadleref01_Small.f k (a.extract q (q + 7))).bind fun t145 => some (t145.toList == (⟨#[99, 104, 97, 114, 115, 101, 116]⟩ : ByteArray).toList)) (fun k => ?_) (Ev.bind (small_ev _ hx) ?_)
    · rw [beadleref01_stands.f, h7, w64 (by omega) (by omega), if_pos (by omega), if_pos (by omega), if_pos (by omega)]
      rfl
    · have e : ((lowB (a.extract q (q + 7))).toList == (⟨#[99, 104, 97, 114, 115, 101, 116]⟩ : ByteArray).toList) = Lib.occAt (a.data.toList.map low) csL q := by
        rw [ByteArray.toList_eq, ByteArray.toList_eq]
        show ((a.extract q (q + 7)).data.toList.map low == csL) = _
        rw [extract_list, List.drop_take, show q + 7 - q = 7 from by omega, Lib.occAt, ← List.map_drop, List.map_take]
        generalize hL : (a.data.toList.drop q).map low = L
        have hLl : 7 ≤ L.length := by rw [← hL, List.length_map, List.length_drop]; omega
        rw [Bool.eq_iff_iff, beq_iff_eq, List.isPrefixOf_iff_prefix, List.prefix_iff_eq_take]
        exact ⟨fun h => h.symm, fun h => h.symm⟩
      rw [e]
      exact Ev.now _
  · have e : Lib.occAt (a.data.toList.map low) csL q = false := by
      rw [Lib.occAt, ← Bool.not_eq_true, List.isPrefixOf_iff_prefix]
      intro hp
      have := hp.length_le
      rw [List.length_drop, List.length_map] at this
      have h7' : csL.length = 7 := rfl
      omega
    rw [e]
    refine Ev.congr (fun k => ?_) (Ev.now _)
    rw [beadleref01_stands.f, h7, w64 (by omega) (by omega), if_neg (by omega)]
theorem l1_ev (v : ByteArray × Bool) (p' : Nat) (hp' : p' ≤ a.size) (h2 : p' = a.size ∨ Lib.occAt (a.data.toList.map low) csL p' = true) (hv : Ev (fun k => beadleref01_Charset.j2 k a (p' : Int)) v) (d : Nat) :
    ∀ p, p + d = p' → (∀ j, p ≤ j → j < p' → Lib.occAt (a.data.toList.map low) csL j = false) → Ev (fun k => beadleref01_Charset.l1 k a (p : Int)) v := by
  induction d with
  | zero =>
    intro p hp h1
    obtain rfl : p = p' := by omega
    by_cases hlt : p < a.size
    · have ho : Lib.occAt (a.data.toList.map low) csL p = true := by
        rcases h2 with h | h
        · omega
        · exact h
      have hst := stands_ev a hs p hp'
      rw [ho] at hst
      refine Ev.step (f := fun k => (beadleref01_stands.f k a (p : Int) ⟨#[99, 104, 97, 114, 115, 101, 116]⟩).bind fun t146 => (if t146 = true then (beadleref01_Charset.j2 k a (p : Int)) else (beadleref01_Charset.l1 k a (wrap64 ((p : Int) + 1))))) (fun k => ?_) (Ev.bind hst ?_)
      · rw [beadleref01_Charset.l1, if_pos (by omega)]
      · simp only [if_true]
        exact hv
    · refine Ev.step (fun k => ?_) hv
      rw [beadleref01_Charset.l1, if_neg (by omega)]
  | succ d ih =>
    intro p hp h1
    have ho := h1 p (Nat.le_refl _) (by omega)
    have hst := stands_ev a hs p (by omega)
    rw [ho] at hst
    refine Ev.step (f := fun k => (beadleref01_stands.f k a (p : Int) ⟨#[99, 104, 97, 114, 115, 101, 116]⟩).bind fun t146 => (if t146 = true then (beadleref01_Charset.j2 k a (p : Int)) else (beadleref01_Charset.l1 k a (wrap64 ((p : Int) + 1))))) (fun k => ?_) (Ev.bind hst ?_)
    · rw [beadleref01_Charset.l1, if_pos (by omega)]
    · simp only [Bool.false_eq_true, if_false]
      rw [w64 (by omega) (by omega)]
      exact ih (p + 1) (by omega) (fun j hj1 hj2 => h1 j (by omega) hj2)
/-! ### the end: in quotes, or up to a blank or a semicolon -/
theorem l4_ev (p : Nat) (hp : p < a.data.toList.length) (v : ByteArray × Bool) (q' : Nat) (hq' : q' ≤ a.size) (hpq : p + 1 ≤ q')
    (h2 : q' = a.size ∧ v = (⟨#[]⟩, false) ∨ a.data.toList[q']? = some a.data.toList[p] ∧ v = (a.extract (p + 1) q', true)) (d : Nat) :
    ∀ q, q + d = q' → p + 1 ≤ q → (∀ (j : Nat), p + 1 ≤ j → j < q' → a.data.toList[j]? ≠ some a.data.toList[p]) → Ev (fun k => beadleref01_Charset.l4 k a (p : Int) (q : Int)) v := by
  have hl := size_len a
  have hbp := bt_get hp
  induction d with
  | zero =>
    intro q hq hpq1 h1
    obtain rfl : q = q' := by omega
    refine Ev.step (fun k => ?_) (Ev.now _)
    rcases h2 with ⟨h2, rfl⟩ | ⟨h2, rfl⟩
    · rw [beadleref01_Charset.l4, if_neg (by omega)]
    · have hlt : q < a.data.toList.length := by
        apply Decidable.byContradiction
        intro hn
        rw [List.getElem?_eq_none (by omega)] at h2
        cases h2
      have hb := bt_get hlt
      rw [List.getElem?_eq_getElem hlt] at h2
      injection h2 with h2
      rw [beadleref01_Charset.l4, if_pos (by omega), if_pos (by omega), if_pos (by omega), if_pos (by omega), hb, hbp, h2, if_pos rfl, w64 (by omega) (by omega), if_pos (by omega), if_pos (by omega), if_pos (by omega)]
      rfl
  | succ d ih =>
    intro q hq hpq1 h1
    have hlt : q < a.data.toList.length := by omega
    have hb := bt_get hlt
    have hne := h1 q hpq1 (by omega)
    rw [List.getElem?_eq_getElem hlt] at hne
    refine Ev.step (fun k => ?_) (ih (q + 1) (by omega) (by omega) h1)
    rw [beadleref01_Charset.l4, if_pos (by omega), if_pos (by omega), if_pos (by omega), if_pos (by omega), hb, hbp, if_neg, w64 (by omega) (by omega)]
    · rfl
    · intro e
      apply hne
      rw [Option.some.injEq]
      apply UInt8.toNat_inj.1
      omega
theorem l5_ev (p q' : Nat) (hq' : q' ≤ a.size) (h2 : q' = a.size ∨ ∃ c, a.data.toList[q']? = some c ∧ eL.contains c = true) (d : Nat) :
    ∀ q, q + d = q' → p ≤ q → (∀ (j : Nat) c, q ≤ j → j < q' → a.data.toList[j]? = some c → eL.contains c = false) → Ev (fun k => beadleref01_Charset.l5 k a (q : Int) (p : Int)) (a.extract p q', true) := by
  have hl := size_len a
  induction d with
  | zero =>
    intro q hq hpq h1
    obtain rfl : q = q' := by omega
    refine Ev.step (fun k => ?_) (Ev.now _)
    by_cases hlt : q < a.data.toList.length
    · have hb := bt_get hlt
      obtain ⟨c, hc, hce⟩ : ∃ c, a.data.toList[q]? = some c ∧ eL.contains c = true := by
        rcases h2 with h | h
        · omega
        · exact h
      rw [List.getElem?_eq_getElem hlt] at hc
      injection hc with hc
      rw [hc] at hb
      rw [eL_of] at hce
      cases hbl : bl.contains c with
      | true => rw [beadleref01_Charset.l5, if_pos (by omega), if_pos (by omega), hb, blank_f, hbl, Option.bind_some, if_pos rfl, if_pos (by omega), if_pos (by omega), if_pos (by omega)]; rfl
      | false =>
        rw [hbl, Bool.false_or, beq_iff_eq] at hce
        subst hce
        rw [beadleref01_Charset.l5, if_pos (by omega), if_pos (by omega), hb, blank_f, hbl, Option.bind_some, if_neg (by decide), if_pos (by rfl), if_pos (by omega), if_pos (by omega), if_pos (by omega)]; rfl
    · rw [beadleref01_Charset.l5, if_neg (by omega), if_pos (by omega), if_pos (by omega), if_pos (by omega)]
      rfl
  | succ d ih =>
    intro q hq hpq h1
    have hlt : q < a.data.toList.length := by omega
    have hb := bt_get hlt
    have hce := h1 q _ (Nat.le_refl _) (by omega) (List.getElem?_eq_getElem hlt)
    rw [eL_of, Bool.or_eq_false_iff] at hce
    have h59 : a.data.toList[q] ≠ 59 := by simpa using hce.2
    refine Ev.step (fun k => ?_) (ih (q + 1) (by omega) (by omega) (fun j c hj1 hj2 => h1 j c (by omega) hj2))
    rw [beadleref01_Charset.l5, if_pos (by omega), if_pos (by omega), hb, blank_f, hce.1, Option.bind_some, if_neg (by decide), if_neg, w64 (by omega) (by omega)]
    · rfl
    · intro e
      apply h59
      apply UInt8.toNat_inj.1
      show (a.data.toList[q]).toNat = 59
      omega
end
def fin (k : Nat) (t : ByteArray) : Option (ByteArray × Bool) := (if t.toList = ([] : List UInt8) then (some ((⟨#[]⟩ : ByteArray), false)) else (if 0 < (t.size : Int) then (if (bt t 0) = 34 then (sniff_Charset.j1 k t (bt t 0) true) else (sniff_Charset.j1 k t (bt t 0) ((bt t 0) == 39))) else (none)))
theorem bt_drop {a : ByteArray} {p : Nat} (h : p < a.data.toList.length) : bt (dropB a p) 0 = ((a.data.toList[p]).toNat : Int) := by
  have h0 : 0 < (dropB a p).data.toList.length := by rw [dropB_list, List.length_drop]; omega
  have := bt_get h0
  rw [show ((0 : Nat) : Int) = 0 from rfl] at this
  rw [this]
  congr 2
  have e : (dropB a p).data.toList[0]? = a.data.toList[p]? := by rw [dropB_list, List.getElem?_drop, Nat.add_zero]
  rw [List.getElem?_eq_getElem h0, List.getElem?_eq_getElem h] at e
  injection e
theorem quote_ev (a : ByteArray) (hs : a.size ≤ 4000000000) (p : Nat) (hp : p < a.data.toList.length) : ∃ v, Ev (fun k => sniff_Charset.j1 k (dropB a p) (bt (dropB a p) 0) true) v ∧ Ev (fun k => beadleref01_Charset.l4 k a (p : Int) ((p + 1 : Nat) : Int)) v := by
  have hl := size_len a
  have hb := bt_drop hp
  have hx : (dropB a p).extract 1 (dropB a p).size = dropB a (p + 1) := by rw [extract_end, dropB_add]
  have hq : (strOfNums [((a.data.toList[p]).toNat : Int)]).data.toList = [a.data.toList[p]] := by
    rw [strOfNums_data]
    simp
  have hstep : ∀ k, sniff_Charset.j1 (k + 1) (dropB a p) (bt (dropB a p) 0) true = (if (Lib.cut (a.data.toList.drop (p + 1)) [a.data.toList[p]]).2.2 = true then some (⟨(Lib.cut (a.data.toList.drop (p + 1)) [a.data.toList[p]]).1.toArray⟩, true) else some (⟨#[]⟩, false)) := fun k => by
    rw [sniff_Charset.j1, if_pos rfl, if_pos (by rw [dropB_size]; omega), hx, hb]
    have hc : strings_Cut.f (dropB a (p + 1)) (strOfNums [((a.data.toList[p]).toNat : Int)]) = some (⟨(Lib.cut (a.data.toList.drop (p + 1)) [a.data.toList[p]]).1.toArray⟩, ⟨(Lib.cut (a.data.toList.drop (p + 1)) [a.data.toList[p]]).2.1.toArray⟩, (Lib.cut (a.data.toList.drop (p + 1)) [a.data.toList[p]]).2.2) := by
      unfold strings_Cut.f
      rw [if_pos (by rw [dropB_size]; omega), hq, dropB_list]
    rw [hc]
    rfl
  have hix := Lib.index_one (a.data.toList.drop (p + 1)) a.data.toList[p]
  have hge := Lib.indexByte_ge (a.data.toList.drop (p + 1)) a.data.toList[p]
  by_cases hm : Lib.indexByte (a.data.toList.drop (p + 1)) a.data.toList[p] = -1
  · have hn := Lib.indexByte_none hm
    have hcut : (Lib.cut (a.data.toList.drop (p + 1)) [a.data.toList[p]]).2.2 = false := by
      unfold Lib.cut
      rw [if_neg (by omega)]
    refine ⟨(⟨#[]⟩, false), Ev.step (fun k => by rw [hstep, hcut, if_neg (by decide)]) (Ev.now _), ?_⟩
    refine l4_ev a hs p hp _ a.size (Nat.le_refl _) (by omega) (.inl ⟨rfl, rfl⟩) (a.size - (p + 1)) (p + 1) (by omega) (Nat.le_refl _) (fun j hj1 hj2 e => ?_)
    apply hn (j - (p + 1))
    rw [List.getElem?_drop, show p + 1 + (j - (p + 1)) = j from by omega]
    exact e
  · obtain ⟨o, ho⟩ : ∃ o : Nat, Lib.indexByte (a.data.toList.drop (p + 1)) a.data.toList[p] = o := ⟨(Lib.indexByte (a.data.toList.drop (p + 1)) a.data.toList[p]).toNat, by omega⟩
    obtain ⟨h1, h2⟩ := Lib.indexByte_some ho
    rw [List.getElem?_drop] at h1
    have hlt : p + 1 + o < a.data.toList.length := by
      apply Decidable.byContradiction
      intro hn
      rw [List.getElem?_eq_none (by omega)] at h1
      cases h1
    have hcut : Lib.cut (a.data.toList.drop (p + 1)) [a.data.toList[p]] = ((a.data.toList.drop (p + 1)).take o, (a.data.toList.drop (p + 1)).drop (o + 1), true) := by
      unfold Lib.cut
      rw [hix, ho, if_pos (by omega), Int.toNat_natCast]
      rfl
    have hex : a.extract (p + 1) (p + 1 + o) = ⟨((a.data.toList.drop (p + 1)).take o).toArray⟩ := by
      apply bytes_ext
      rw [extract_list, List.drop_take, show p + 1 + o - (p + 1) = o from by omega]
    refine ⟨(a.extract (p + 1) (p + 1 + o), true), Ev.step (fun k => by rw [hstep, hcut, if_pos rfl, hex]) (Ev.now _), ?_⟩
    refine l4_ev a hs p hp _ (p + 1 + o) (by omega) (by omega) (.inr ⟨h1, rfl⟩) o (p + 1) rfl (Nat.le_refl _) (fun j hj1 hj2 e => ?_)
    apply h2 (j - (p + 1)) (by omega)
    rw [List.getElem?_drop, show p + 1 + (j - (p + 1)) = j from by omega]
    exact e
theorem word_ev (a : ByteArray) (hs : a.size ≤ 4000000000) (p : Nat) (hp : p < a.data.toList.length) : ∃ v, Ev (fun k => sniff_Charset.j1 k (dropB a p) (bt (dropB a p) 0) false) v ∧ Ev (fun k => beadleref01_Charset.l5 k a (p : Int) (p : Int)) v := by
  have hl := size_len a
  have hstep : ∀ k, sniff_Charset.j1 (k + 1) (dropB a p) (bt (dropB a p) 0) false = (strings_IndexAny.f (dropB a p) (⟨#[9, 10, 12, 13, 32, 59]⟩ : ByteArray)).bind fun t144 => (if t144 ≥ 0 then (if 0 ≤ t144 then (if t144 ≤ ((dropB a p).size : Int) then (some ((dropB a p).extract 0 (t144 : Int).toNat, true)) else (none)) else (none)) else (some ((dropB a p), true))) := fun k => by
    rw [sniff_Charset.j1, if_neg (by decide)]
  have hia : strings_IndexAny.f (dropB a p) (⟨#[9, 10, 12, 13, 32, 59]⟩ : ByteArray) = some (Lib.indexAny (a.data.toList.drop p) eL) := by
    unfold strings_IndexAny.f
    rw [if_pos ⟨rfl, by rw [dropB_size]; omega⟩]
    rfl
  have hspec : (Lib.indexAny (a.data.toList.drop p) eL = -1 ∧ ∀ (j : Nat) c, (a.data.toList.drop p)[j]? = some c → eL.contains c = false) ∨ (∃ (i : Nat) (c : UInt8), Lib.indexAny (a.data.toList.drop p) eL = i ∧ (a.data.toList.drop p)[i]? = some c ∧ eL.contains c = true ∧ ∀ (j : Nat) b, j < i → (a.data.toList.drop p)[j]? = some b → eL.contains b = false) := by
    generalize a.data.toList.drop p = l
    by_cases h : ∃ i, i < l.length ∧ eL.contains (l.getD i 0) = true
    · obtain ⟨i, hi, hm⟩ : ∃ i, (i < l.length ∧ eL.contains (l.getD i 0) = true) ∧ ∀ j, j < i → ¬ (j < l.length ∧ eL.contains (l.getD j 0) = true) := by
        obtain ⟨i0, h0⟩ := h
        induction i0 using Nat.strongRecOn with
        | _ i0 ih =>
          by_cases hj : ∃ j, j < i0 ∧ (j < l.length ∧ eL.contains (l.getD j 0) = true)
          · obtain ⟨j, hj1, hj2⟩ := hj
            exact ih j hj1 hj2
          · exact ⟨i0, h0, fun j hj1 hj2 => hj ⟨j, hj1, hj2⟩⟩
      have hno : Lib.NoAny l eL i := fun j b hj hb => by
        cases e : eL.contains b with
        | false => rfl
        | true =>
          refine absurd ⟨?_, ?_⟩ (hm j hj)
          · omega
          · rw [List.getD_eq_getElem?_getD, hb]
            exact e
      have hg : l[i]? = some (l.getD i 0) := by rw [List.getD_eq_getElem?_getD, List.getElem?_eq_getElem hi.1]; rfl
      exact .inr ⟨i, _, Lib.indexAny_hit hno hg hi.2, hg, hi.2, hno⟩
    · have hno : ∀ (j : Nat) c, l[j]? = some c → eL.contains c = false := fun j c hc => by
        cases e : eL.contains c with
        | false => rfl
        | true =>
          refine absurd ⟨j, ?_, ?_⟩ h
          · apply Decidable.byContradiction
            intro hn
            rw [List.getElem?_eq_none (by omega)] at hc
            cases hc
          · rw [List.getD_eq_getElem?_getD, hc]
            exact e
      exact .inl ⟨Lib.indexAny_none (fun j b _ hb => hno j b hb), hno⟩
  rcases hspec with ⟨h1, h2⟩ | ⟨i, c, h1, h2, h3, h4⟩
  · refine ⟨(a.extract p a.size, true), Ev.step (fun k => by rw [hstep, hia, h1, Option.bind_some, if_neg (by omega), extract_end]) (Ev.now _), ?_⟩
    refine l5_ev a hs p a.size (Nat.le_refl _) (.inl rfl) (a.size - p) p (by omega) (Nat.le_refl _) (fun j b hj1 hj2 hb => ?_)
    exact h2 (j - p) b (by rw [List.getElem?_drop, show p + (j - p) = j from by omega]; exact hb)
  · rw [List.getElem?_drop] at h2
    have hlt : p + i < a.data.toList.length := by
      apply Decidable.byContradiction
      intro hn
      rw [List.getElem?_eq_none (by omega)] at h2
      cases h2
    have hex : (dropB a p).extract 0 i = a.extract p (p + i) := by
      apply bytes_ext
      rw [extract_list, extract_list, dropB_list, List.drop_zero, List.drop_take, show p + i - p = i from by omega]
    refine ⟨(a.extract p (p + i), true), Ev.step (fun k => by rw [hstep, hia, h1, Option.bind_some, if_pos (by omega), if_pos (by omega), if_pos (by rw [dropB_size]; omega), Int.toNat_natCast, hex]) (Ev.now _), ?_⟩
    refine l5_ev a hs p (p + i) (by omega) (.inr ⟨c, h2, h3⟩) i p rfl (Nat.le_refl _) (fun j b hj1 hj2 hb => ?_)
    exact h4 (j - p) b (by omega) (by rw [List.getElem?_drop, show p + (j - p) = j from by omega]; exact hb)
theorem fin_ev (a : ByteArray) (hs : a.size ≤ 4000000000) (p : Nat) (hp : p ≤ a.size) : ∃ v, Ev (fun k => fin k (dropB a p)) v ∧ Ev (fun k => beadleref01_Charset.j5 k a (p : Int)) v := by
  have hl := size_len a
  by_cases hlt : p < a.data.toList.length
  · have hb := bt_get hlt
    have hbd := bt_drop hlt
    have hne : ¬ (dropB a p).toList = [] := by
      rw [ByteArray.toList_eq, dropB_list, List.drop_eq_getElem_cons hlt]
      simp
    have hf : ∀ k, fin k (dropB a p) = (if ((a.data.toList[p]).toNat : Int) = 34 then sniff_Charset.j1 k (dropB a p) (bt (dropB a p) 0) true else sniff_Charset.j1 k (dropB a p) (bt (dropB a p) 0) (((a.data.toList[p]).toNat : Int) == 39)) := fun k => by
      rw [fin, if_neg hne, if_pos (by rw [dropB_size]; omega), hbd]
    have hj : ∀ k, beadleref01_Charset.j5 (k + 1) a (p : Int) = (if ((a.data.toList[p]).toNat : Int) = 34 then beadleref01_Charset.j6 k a (p : Int) (p : Int) true else beadleref01_Charset.j6 k a (p : Int) (p : Int) (((a.data.toList[p]).toNat : Int) == 39)) := fun k => by
      rw [beadleref01_Charset.j5, if_neg (by omega), if_pos (by omega), if_pos (by omega), hb]
    have hq : ((a.data.toList[p]).toNat : Int) = 34 ∨ ((a.data.toList[p]).toNat : Int) = 39 → ∃ v, Ev (fun k => fin k (dropB a p)) v ∧ Ev (fun k => beadleref01_Charset.j5 k a (p : Int)) v := fun h => by
      obtain ⟨v, h1, h2⟩ := quote_ev a hs p hlt
      have h6 : Ev (fun k => beadleref01_Charset.j6 k a (p : Int) (p : Int) true) v := Ev.step (fun k => by
        rw [beadleref01_Charset.j6, if_pos rfl, w64 (by omega) (by omega)]
        rfl) h2
      refine ⟨v, Ev.congr (fun k => ?_) h1, Ev.step (fun k => ?_) h6⟩
      · rw [hf]
        rcases h with h | h
        · rw [if_pos h]
        · rw [if_neg (by omega), h]
          rfl
      · rw [hj]
        rcases h with h | h
        · rw [if_pos h]
        · rw [if_neg (by omega), h]
          rfl
    by_cases h34 : ((a.data.toList[p]).toNat : Int) = 34
    · exact hq (.inl h34)
    · by_cases h39 : ((a.data.toList[p]).toNat : Int) = 39
      · exact hq (.inr h39)
      · have hbe : (((a.data.toList[p]).toNat : Int) == 39) = false := beq_eq_false_iff_ne.2 h39
        obtain ⟨v, h1, h2⟩ := word_ev a hs p hlt
        have h6 : Ev (fun k => beadleref01_Charset.j6 k a (p : Int) (p : Int) false) v := Ev.step (fun k => by
          rw [beadleref01_Charset.j6, if_neg (by decide)]) h2
        exact ⟨v, Ev.congr (fun k => by rw [hf, if_neg h34, hbe]) h1, Ev.step (fun k => by rw [hj, if_neg h34, hbe]) h6⟩
  · refine ⟨(⟨#[]⟩, false), Ev.congr (fun k => ?_) (Ev.now _), Ev.step (fun k => ?_) (Ev.now _)⟩
    · rw [fin, if_pos]
      rw [ByteArray.toList_eq, dropB_list, List.drop_eq_nil_of_le (by omega)]
    · rw [beadleref01_Charset.j5, if_pos (by omega)]
theorem cutp (t : ByteArray) : strings_CutPrefix.f t ⟨#[61]⟩ = some (if t.data.toList[0]? = some 61 then (dropB t 1, true) else (t, false)) := by
  have hl := size_len t
  have h1 : (⟨#[61]⟩ : ByteArray).size = 1 := rfl
  have hh : stringslite_HasPrefix.f t ⟨#[61]⟩ = some (decide (t.data.toList[0]? = some 61)) := by
    unfold stringslite_HasPrefix.f
    by_cases h : 1 ≤ t.size
    · rw [h1, if_pos (by omega), if_pos (by omega), if_pos (by omega)]
      congr 1
      rw [ByteArray.toList_eq, ByteArray.toList_eq, extract_list, List.drop_zero]
      show ((t.data.toList.take 1) == [61]) = _
      cases e : t.data.toList with
      | nil => rw [e] at hl; simp at hl; omega
      | cons c r =>
        by_cases h61 : c = 61
        · subst h61; rfl
        · have hd : decide ((c :: r)[0]? = some 61) = false := decide_eq_false (by simpa using h61)
          rw [hd]
          simpa using h61
    · have e : t.data.toList = [] := List.length_eq_zero_iff.1 (by omega)
      rw [h1, if_neg (by omega), e]
      rfl
  unfold strings_CutPrefix.f stringslite_CutPrefix.f
  rw [hh, Option.bind_some]
  by_cases h : t.data.toList[0]? = some 61
  · have hsz : 1 ≤ t.size := by
      rw [← hl]
      cases e : t.data.toList with
      | nil => rw [e] at h; cases h
      | cons _ _ => simp
    rw [decide_eq_true h, if_pos rfl, h1, if_pos (by omega), if_pos (by omega), if_pos h, Option.bind_some]
    rw [show ((1 : Nat) : Int).toNat = 1 from rfl, extract_end]
  · rw [decide_eq_false h, if_neg (by decide), if_neg h, Option.bind_some]
theorem main_ev (a : ByteArray) (hs : a.size ≤ 4000000000) (n : Nat) : ∀ p, p ≤ a.size → a.size ≤ p + n → ∃ v, Ev (fun k => sniff_Charset.l0 k (dropB a p)) v ∧ Ev (fun k => beadleref01_Charset.l0 k a (p : Int)) v := by
  have hl := size_len a
  induction n using Nat.strongRecOn with
  | _ n ih =>
    intro p hp hn
    have hsm : sniff_small.f (dropB a p) = some (lowB (dropB a p)) := by
      unfold sniff_small.f
      rw [if_pos (by rw [dropB_size]; omega)]
    have hlow : (lowB (dropB a p)).data.toList = (a.data.toList.map low).drop p := by
      show ((a.data.toList.drop p).map low) = _
      rw [List.map_drop]
    have hix : strings_Index.f (lowB (dropB a p)) ⟨#[99, 104, 97, 114, 115, 101, 116]⟩ = some (Lib.index ((a.data.toList.map low).drop p) csL) := by
      unfold strings_Index.f
      rw [if_pos (by rw [lowB_size, dropB_size]; omega), hlow]
    have hocc : ∀ j, Lib.occAt ((a.data.toList.map low).drop p) csL j = Lib.occAt (a.data.toList.map low) csL (p + j) := fun j => by
      unfold Lib.occAt
      rw [List.drop_drop]
    have hll : ((a.data.toList.map low).drop p).length = a.size - p := by rw [List.length_drop, List.length_map, hl]
    rcases Lib.index_spec ((a.data.toList.map low).drop p) csL with ⟨h1, h2⟩ | ⟨i, h1, h2, h3, h4⟩
    · refine ⟨(⟨#[]⟩, false), Ev.step (fun k => ?_) (Ev.now _), ?_⟩
      · rw [sniff_Charset.l0, hsm, Option.bind_some, hix, h1, Option.bind_some, if_pos (by decide)]
      · refine Ev.step (fun k => by rw [beadleref01_Charset.l0]) ?_
        refine l1_ev a hs _ a.size (Nat.le_refl _) (.inl rfl) ?_ (a.size - p) p (by omega) (fun j hj1 hj2 => ?_)
        · refine Ev.step (fun k => ?_) (Ev.now _)
          rw [beadleref01_Charset.j2, if_pos (by omega)]
        · have := h2 (j - p) (by omega)
          rw [hocc, show p + (j - p) = j from by omega] at this
          exact this
    · have hroom := Lib.index_room ((a.data.toList.map low).drop p) csL (by omega)
      rw [h1, hll, show csL.length = 7 from rfl] at hroom
      have hq0 : p + i + 7 ≤ a.size := by omega
      obtain ⟨p2, hp2a, hp2b, hp2c, hp2d, hp2e⟩ := skip_at a (p + i + 7) hq0
      have hx : (dropB a p).extract (i + 7) (dropB a p).size = dropB a (p + i + 7) := by rw [extract_end, dropB_add, Nat.add_assoc]
      have hcp := cutp (dropB a p2)
      have h0 : (dropB a p2).data.toList[0]? = a.data.toList[p2]? := by rw [dropB_list, List.getElem?_drop, Nat.add_zero]
      rw [h0, dropB_add] at hcp
      have hstep : ∀ k, sniff_Charset.l0 (k + 1) (dropB a p) = (strings_CutPrefix.f (dropB a p2) (⟨#[61]⟩ : ByteArray)).bind fun bt135 => (if bt135.2 = true then ((strings_TrimLeft.f bt135.1 (⟨#[9, 10, 12, 13, 32]⟩ : ByteArray)).bind fun t137 => fin k t137) else (sniff_Charset.l0 k (dropB a p2))) := fun k => by
        rw [sniff_Charset.l0, hsm, Option.bind_some, hix, h1, Option.bind_some, if_neg (by omega), w64 (by omega) (by omega), if_pos (by omega), if_pos (by rw [dropB_size]; omega), show ((i : Int) + 7).toNat = i + 7 from by omega, hx, hp2e, Option.bind_some, hcp]
        by_cases h61 : a.data.toList[p2]? = some 61
        · rw [if_pos h61]
          rfl
        · rw [if_neg h61]
          rfl
      have hscan : ∀ v, Ev (fun k => beadleref01_Charset.l2 k a ((p + i + 7 : Nat) : Int)) v → Ev (fun k => beadleref01_Charset.l0 k a (p : Int)) v := fun v hv => by
        refine Ev.step (fun k => by rw [beadleref01_Charset.l0]) ?_
        refine l1_ev a hs _ (p + i) (by omega) (.inr (by rw [← hocc]; exact h3)) ?_ i p rfl (fun j hj1 hj2 => ?_)
        · refine Ev.step (fun k => ?_) hv
          rw [beadleref01_Charset.j2, if_neg (by omega), w64 (by omega) (by omega)]
          rfl
        · have := h4 (j - p) (by omega)
          rw [hocc, show p + (j - p) = j from by omega] at this
          exact this
      by_cases h61 : a.data.toList[p2]? = some 61
      · have hlt : p2 < a.size := by
          apply Decidable.byContradiction
          intro hnn
          rw [List.getElem?_eq_none (by omega)] at h61
          cases h61
        obtain ⟨p3, hp3a, hp3b, hp3c, hp3d, hp3e⟩ := skip_at a (p2 + 1) (by omega)
        obtain ⟨v, hv1, hv2⟩ := fin_ev a hs p3 hp3b
        refine ⟨v, Ev.step (fun k => ?_) hv1, hscan v ?_⟩
        · rw [hstep, hcp, if_pos h61, Option.bind_some, if_pos rfl, hp3e, Option.bind_some]
        · refine l2_ev a hs v p2 hp2b hp2d ?_ (p2 - (p + i + 7)) (p + i + 7) (by omega) hp2c
          rw [if_pos h61]
          exact l3_ev a hs v p3 hp3b hp3d hv2 (p3 - (p2 + 1)) (p2 + 1) (by omega) hp3c
      · obtain ⟨v, hv1, hv2⟩ := ih (a.size - p2) (by omega) p2 hp2b (by omega)
        refine ⟨v, Ev.step (fun k => ?_) hv1, hscan v ?_⟩
        · rw [hstep, hcp, if_neg h61, Option.bind_some, if_neg Bool.false_ne_true]
        · refine l2_ev a hs v p2 hp2b hp2d ?_ (p2 - (p + i + 7)) (p + i + 7) (by omega) hp2c
          rw [if_neg h61]
          exact hv2
theorem SniffCharsets : beadlelaw01_SniffCharsets.Ask := by
  intro a _ hb
  refine Ev.rounds (g := fun k => beadlelaw01_SniffCharsets.f k a) ?_
  have h0 : Ev (fun k => sniff_Charset.f k (⟨#[99, 104, 97, 114, 115, 101, 116, 61, 97]⟩ : ByteArray)) (⟨#[97]⟩, true) := by
    refine Ev.of (fun k => sniff_Charset.mono _ k) (k := 2) ?_
    decide +kernel
  refine Ev.bind h0 ?_
  have e97 : ((⟨#[97]⟩ : ByteArray), true).1.toList = ([97] : List UInt8) := by rw [ByteArray.toList_eq]
  simp only [e97, if_true]
  obtain ⟨v, h1, h2⟩ := main_ev a (by omega) a.size 0 (Nat.zero_le _) (by omega)
  rw [dropB_zero] at h1
  refine Ev.step (f := fun k => (sniff_Charset.f k a).bind fun bt152 => ((beadleref01_Charset.f k a).bind fun bt154 => (if bt152.1.toList = bt154.1.toList then (some (bt152.2 == bt154.2)) else (some false)))) (fun k => ?_) ?_
  · rw [beadlelaw01_SniffCharsets.j0]
    rfl
  refine Ev.bind h1 ?_
  refine Ev.bind h2 ?_
  simp only [if_true, beq_self_eq_true]
  exact Ev.now _
end Go.Proofs.YtmafnkjplnckoaaDoor.Pure
