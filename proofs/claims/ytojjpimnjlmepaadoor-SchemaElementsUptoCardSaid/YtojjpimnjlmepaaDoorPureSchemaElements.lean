/- SchemaElements in plain words: the row of any name; whether it is an old one. -/
import Derived.Test.YtojjpimnjlmepaaDoorPMx6
import Derived.Test.YtojjpimnjlmepaaDoorTab
import Derived.Test.YtojjpimnjlmepaaDoorAskSchemaElements
set_option linter.unusedVariables false
namespace Go.Proofs.YtojjpimnjlmepaaDoor.Pure
open Go Go.RowKit Go.Proofs.YtojjpimnjlmepaaDoor.PM Go.Proofs.YtojjpimnjlmepaaDoor.Tab Go.Proofs.YtojjpimnjlmepaaDoorW.PrintWords Go.Proofs.YtojjpimnjlmepaaDoorW.PrintLast
theorem speaks_yes : beadlelaw16_speaks.f 60 = some true := by decide +kernel
theorem idx_ev (L : List ByteArray) (s : ByteArray) (hl : L.length ≤ 1000) : ∀ (d i : Nat), i + d = L.length → ∃ r : Int, Ev (fun k => slices_Index_string_string.l0 k L s (L.length : Int) (i : Int)) r ∧ decide (r ≥ 0) = (L.drop i).any fun z => decide (z = s) := by
  intro d
  induction d with
  | zero =>
    intro i hi
    refine ⟨-1, Ev.step (f := fun _ => some (-1)) (fun k => ?_) (Ev.now _), ?_⟩
    · rw [slices_Index_string_string.l0, if_neg (by omega)]
    · rw [List.drop_of_length_le (by omega)]
      rfl
  | succ d ih =>
    intro i hi
    obtain ⟨z, hz⟩ : ∃ z, L[i]? = some z := ⟨_, List.getElem?_eq_getElem (by omega)⟩
    rw [drop_at hz, List.any_cons]
    by_cases h : z = s
    · refine ⟨i, Ev.step (f := fun _ => some (i : Int)) (fun k => ?_) (Ev.now _), ?_⟩
      · rw [slices_Index_string_string.l0, if_pos (by omega), if_pos (by omega), if_pos (by omega), rd_B hz, if_pos ((blist_eq _ _).1 h.symm)]
      · rw [decide_eq_true h, Bool.true_or, decide_eq_true (by omega)]
    · obtain ⟨r, h1, h2⟩ := ih (i + 1) (by omega)
      refine ⟨r, Ev.step (fun k => ?_) h1, ?_⟩
      · rw [slices_Index_string_string.l0, if_pos (by omega), if_pos (by omega), if_pos (by omega), rd_B hz, if_neg (fun e => h ((blist_eq _ _).2 e.symm)), w64 (by omega) (by omega)]
        rfl
      · rw [h2, decide_eq_false h, Bool.false_or]
theorem contains_ev (L : List ByteArray) (s : ByteArray) (hl : L.length ≤ 1000) : Ev (fun k => slices_Contains_string_string.f k L s) (L.any fun z => decide (z = s)) := by
  obtain ⟨r, h1, h2⟩ := idx_ev L s hl L.length 0 (by omega)
  rw [List.drop_zero] at h2
  refine Ev.congr (f := fun k => (slices_Index_string_string.l0 k L s (L.length : Int) ((0 : Nat) : Int)).bind fun t184 => (some (decide (t184 ≥ 0)))) (fun k => rfl) ?_
  refine Ev.bind h1 ?_
  rw [← h2]
  exact Ev.now _
def oldN : List ByteArray := (beadleref16_Old.f).getD []
theorem old_f : beadleref16_Old.f = some oldN := by kernel_rfl
theorem old_len : oldN.length ≤ 50 := by decide +kernel
def oldText : ByteArray := ⟨#[97, 112, 112, 108, 101, 116, 32, 98, 97, 115, 101, 102, 111, 110, 116, 32, 98, 103, 115, 111, 117, 110, 100, 32, 98, 105, 103, 32, 99, 101, 110, 116, 101, 114, 32, 100, 105, 114, 32, 102, 111, 110, 116, 32, 102, 114, 97, 109, 101, 32, 102, 114, 97, 109, 101, 115, 101, 116, 32, 107, 101, 121, 103, 101, 110, 32, 108, 105, 115, 116, 105, 110, 103, 32, 109, 97, 114, 113, 117, 101, 101, 32, 110, 111, 98, 114, 32, 110, 111, 102, 114, 97, 109, 101, 115, 32, 112, 108, 97, 105, 110, 116, 101, 120, 116, 32, 115, 116, 114, 105, 107, 101, 32, 116, 116, 32, 120, 109, 112]⟩
set_option maxRecDepth 1000000 in
theorem old_fields : strings_Fields.f oldText = some oldN := by decide +kernel
def oldV (name : ByteArray) : Bool := oldN.any fun z => decide (z = name)
theorem old_ev (name : ByteArray) : Ev (fun k => schema_Old.f k name) (oldV name) := by
  refine Ev.congr (fun k => ?_) (contains_ev oldN name (by have := old_len; omega))
  unfold schema_Old.f
  show ((strings_Fields.f oldText).bind _) = _
  rw [old_fields, Option.bind_some]
  simp only [Option.bind_fun_some]
theorem words_l0 (L : List ByteArray) (hl : L.length ≤ 100) : ∀ (d i : Nat), i + d = L.length → Ev (fun k => beadlelaw16_words.l0 k L L (i : Int)) true := by
  intro d
  induction d with
  | zero =>
    intro i hi
    refine Ev.step (f := fun _ => some true) (fun k => ?_) (Ev.now _)
    rw [beadlelaw16_words.l0, if_neg (by omega)]
  | succ d ih =>
    intro i hi
    refine Ev.step (fun k => ?_) (ih (i + 1) (by omega))
    rw [beadlelaw16_words.l0, if_pos (by omega), if_pos (by omega), if_pos (by omega), if_pos rfl, w64 (by omega) (by omega)]
    rfl
theorem words_ev (L : List ByteArray) (hl : L.length ≤ 100) : Ev (fun k => beadlelaw16_words.f k L L) true := by
  refine Ev.congr (fun k => ?_) (words_l0 L hl L.length 0 (by omega))
  rw [beadlelaw16_words.f, if_pos rfl]
  rfl
theorem attrs_l1 (a b : ByteArray) (c : List ByteArray) (A : List S40) (hl : A.length ≤ 50) : ∀ (d i : Nat), i + d = A.length → Ev (fun k => beadlelaw16_SchemaElements.l1 k (i : Int) a b c (A.map to39) a b c A) true := by
  intro d
  induction d with
  | zero =>
    intro i hi
    refine Ev.step (f := fun _ => some true) (fun k => ?_) (Ev.now _)
    rw [beadlelaw16_SchemaElements.l1, if_neg (by omega)]
  | succ d ih =>
    intro i hi
    obtain ⟨x, hx⟩ : ∃ x, A[i]? = some x := ⟨_, List.getElem?_eq_getElem (by omega)⟩
    have hx2 : (A.map to39)[i]? = some (to39 x) := by rw [List.getElem?_map, hx]; rfl
    have hlen : (A.map to39).length = A.length := List.length_map _
    refine Ev.step (fun k => ?_) (ih (i + 1) (by omega))
    rw [beadlelaw16_SchemaElements.l1, if_pos (by omega), if_pos (by omega), if_pos (by omega), rd_S39 hx2, rd_S40 hx, if_pos (show (to39 x).f0.toList = x.f0.toList from rfl), if_pos (show (to39 x).f1.toList = x.f1.toList from rfl), if_neg (show ¬ ((to39 x).f2 != x.f2) = true by simp [to39]), w64 (by omega) (by omega)]
    rfl
theorem law_l0 (name : ByteArray) (ok : Bool) (i5 : Int) (a b : ByteArray) (c : List ByteArray) (A : List S39) (hok : ok = decide (i5 ≥ 0)) (hj : Ev (fun k => beadlelaw16_SchemaElements.j1 k ok i5 false a b c A) true) : ∀ (d i : Nat) (o : Bool), i + d = oldN.length → oldV name = (o || (oldN.drop i).any fun z => decide (z = name)) → Ev (fun k => beadlelaw16_SchemaElements.l0 k name ok i5 oldN o (i : Int) a b c A) true := by
  have hlen := old_len
  intro d
  induction d with
  | zero =>
    intro i o hi h
    rw [List.drop_of_length_le (by omega), List.any_nil, Bool.or_false] at h
    subst h
    refine Ev.step (f := fun k => (schema_Old.f k name).bind fun t185 => (beadlelaw16_SchemaElements.j1 k ok i5 (t185 != oldV name) a b c A)) (fun k => ?_) (Ev.bind (old_ev name) ?_)
    · rw [beadlelaw16_SchemaElements.l0, if_neg (by omega), if_neg (by simp [hok])]
    · rw [bne_self_eq_false]
      exact hj
  | succ d ih =>
    intro i o hi h
    obtain ⟨p, hp⟩ : ∃ p, oldN[i]? = some p := ⟨_, List.getElem?_eq_getElem (by omega)⟩
    rw [drop_at hp, List.any_cons] at h
    cases o with
    | true =>
      refine Ev.step (fun k => ?_) (ih (i + 1) true (by omega) (by simpa using h))
      rw [beadlelaw16_SchemaElements.l0, if_pos (by omega), if_pos rfl, w64 (by omega) (by omega)]
      rfl
    | false =>
      refine Ev.step (fun k => ?_) (ih (i + 1) (decide (p = name)) (by omega) (by simpa using h))
      rw [beadlelaw16_SchemaElements.l0, if_pos (by omega), if_neg (by decide), if_pos (by omega), rd_B hp, w64 (by omega) (by omega)]
      rw [show (p.toList == name.toList) = decide (p = name) by rw [Bool.eq_iff_iff, beq_iff_eq, decide_eq_true_eq, blist_eq]]
      rfl
theorem SchemaElements : beadlelaw16_SchemaElements.Ask := by
  intro name _ hs
  have hS : Ev (fun k => beadlelaw16_speaks.f k) true := Ev.of beadlelaw16_speaks.mono speaks_yes
  refine Ev.rounds ?_
  refine Ev.congr (f := fun k => (beadlelaw16_speaks.f k).bind fun t169 => (if t169 = true then ((schema_Of.f k name).bind fun bt170 => ((beadleref16_Of.f k name).bind fun t180 => ((beadleref16_Old.f).bind fun t181 => (beadlelaw16_SchemaElements.l0 k name bt170.2.2.2.2 t180 t181 false 0 bt170.1 bt170.2.1 bt170.2.2.1 bt170.2.2.2.1)))) else (some false))) (fun k => rfl) ?_
  refine Ev.bind hS ?_
  simp only [if_true]
  rcases of_both name with ⟨j, y, h1, h2, h3, h4, h5, h6⟩ | ⟨h5, h6⟩
  · have hO : Ev (fun k => schema_Of.f k name) (ofV y) := Ev.of (schema_Of.mono name) h5
    refine Ev.bind hO ?_
    refine Ev.bind h6 ?_
    rw [old_f]
    have hlt : j < rowsL.length := (List.getElem?_eq_some_iff.1 h1).1
    have hj : Ev (fun k => beadlelaw16_SchemaElements.j1 k true (j : Int) false y.f0 y.f1 y.f2 (y.f3.map to39)) true := by
      refine Ev.step (f := fun k => (beadlelaw16_words.f k y.f2 y.f2).bind fun t191 => (if t191 = true then (beadlelaw16_SchemaElements.l1 k 0 y.f0 y.f1 y.f2 (y.f3.map to39) y.f0 y.f1 y.f2 y.f3) else (some false))) (fun k => ?_) (Ev.bind (words_ev y.f2 h3) ?_)
      · rw [beadlelaw16_SchemaElements.j1, if_neg (by decide), if_pos rfl, rows_f, Option.bind_some, if_pos (by omega), if_pos (by omega), rd_S34 h1, if_pos rfl, if_pos rfl]
        simp only [List.length_map, if_true]
      · simp only [if_true]
        exact attrs_l1 _ _ _ y.f3 h4 y.f3.length 0 (by omega)
    exact law_l0 name true (j : Int) y.f0 y.f1 y.f2 (y.f3.map to39) (by simp) hj oldN.length 0 false (by omega) (by rw [List.drop_zero, Bool.false_or]; rfl)
  · have hO : Ev (fun k => schema_Of.f k name) noneV := Ev.of (schema_Of.mono name) h5
    refine Ev.bind hO ?_
    refine Ev.bind h6 ?_
    rw [old_f]
    have hj : Ev (fun k => beadlelaw16_SchemaElements.j1 k false (-1) false ⟨#[]⟩ ⟨#[]⟩ [] []) true := by
      refine Ev.step (f := fun _ => some true) (fun k => ?_) (Ev.now _)
      rw [beadlelaw16_SchemaElements.j1, if_neg (by decide), if_neg (by decide), if_pos (by decide +kernel), if_pos (by decide +kernel), if_pos (by rfl)]
      rfl
    exact law_l0 name false (-1) ⟨#[]⟩ ⟨#[]⟩ [] [] (by decide) hj oldN.length 0 false (by omega) (by rw [List.drop_zero, Bool.false_or]; rfl)
end Go.Proofs.YtojjpimnjlmepaaDoor.Pure
