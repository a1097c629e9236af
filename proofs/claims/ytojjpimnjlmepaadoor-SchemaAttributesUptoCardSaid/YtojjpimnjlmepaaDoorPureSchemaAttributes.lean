/- SchemaAttributes in plain words: the attribute of any element and any name; whether it is an old one. -/
import Derived.Test.YtojjpimnjlmepaaDoorPMx6
import Derived.Test.YtojjpimnjlmepaaDoorTab
import Derived.Test.YtojjpimnjlmepaaDoorAskSchemaAttributes
set_option linter.unusedVariables false
namespace Go.Proofs.YtojjpimnjlmepaaDoor.Pure
open Go Go.RowKit Go.Proofs.YtojjpimnjlmepaaDoor.PM Go.Proofs.YtojjpimnjlmepaaDoor.Tab Go.Proofs.YtojjpimnjlmepaaDoorW.PrintWords Go.Proofs.YtojjpimnjlmepaaDoorW.PrintLast

abbrev Ans := ByteArray × ByteArray × Bool × Bool
def orV (o : Option S39) (r : Ans) : Ans := match o with
  | some a => (a.f0, a.f1, a.f2, true)
  | none => r
def noV : Ans := (⟨#[]⟩, ⟨#[]⟩, false, false)
def hit (name : ByteArray) (al : List S39) : Option S39 := al.find? fun a => decide (a.f0 = name)
theorem hit_yes {name : ByteArray} {a : S39} {al : List S39} (h : a.f0 = name) : hit name (a :: al) = some a := by
  unfold hit
  rw [List.find?_cons_of_pos (by simpa using h)]
theorem hit_no {name : ByteArray} {a : S39} {al : List S39} (h : ¬ a.f0 = name) : hit name (a :: al) = hit name al := by
  unfold hit
  rw [List.find?_cons_of_neg (by simpa using h)]
theorem find_l0 (al : List S39) (name : ByteArray) (hl : al.length ≤ 50) : ∀ (d i k : Nat), i + d = al.length → d < k → schema_find.l0 k name al (al.length : Int) (i : Int) = some (orV (hit name (al.drop i)) noV) := by
  intro d
  induction d with
  | zero =>
    intro i k hi hk
    obtain ⟨k, rfl⟩ : ∃ k', k = k' + 1 := ⟨k - 1, by omega⟩
    rw [schema_find.l0, if_neg (by omega), List.drop_of_length_le (by omega)]
    rfl
  | succ d ih =>
    intro i k hi hk
    obtain ⟨k, rfl⟩ : ∃ k', k = k' + 1 := ⟨k - 1, by omega⟩
    obtain ⟨a, ha⟩ : ∃ a, al[i]? = some a := ⟨_, List.getElem?_eq_getElem (by omega)⟩
    rw [schema_find.l0, if_pos (by omega), if_pos (by omega), if_pos (by omega), rd_S39 ha, w64 (by omega) (by omega), drop_at ha]
    by_cases h : a.f0 = name
    · rw [if_pos ((blist_eq _ _).1 h), hit_yes h]
      rfl
    · rw [if_neg (fun e => h ((blist_eq _ _).2 e)), hit_no h]
      exact ih (i + 1) k (by omega) (by omega)
theorem find_f (al : List S39) (name : ByteArray) (hl : al.length ≤ 50) : schema_find.f 60 al name = some (orV (hit name al) noV) := by
  unfold schema_find.f
  have := find_l0 al name hl al.length 0 60 (by omega) (by omega)
  rw [List.drop_zero] at this
  exact this
theorem ref_l1 (L : List S40) (name : ByteArray) (hl : L.length ≤ 50) : ∀ (d i : Nat), i + d = L.length → Ev (fun k => beadleref16_Attribute.l1 k name L (i : Int)) (orV (hit name ((L.drop i).map to39)) noV) := by
  intro d
  induction d with
  | zero =>
    intro i hi
    refine Ev.step (f := fun _ => some noV) (fun k => ?_) ?_
    · rw [beadleref16_Attribute.l1, if_neg (by omega)]
      rfl
    · rw [List.drop_of_length_le (by omega)]
      exact Ev.now _
  | succ d ih =>
    intro i hi
    obtain ⟨a, ha⟩ : ∃ a, L[i]? = some a := ⟨_, List.getElem?_eq_getElem (by omega)⟩
    rw [drop_at ha, List.map_cons]
    by_cases h : a.f0 = name
    · rw [hit_yes (a := to39 a) h]
      refine Ev.step (f := fun _ => some (a.f0, a.f1, a.f2, true)) (fun k => ?_) (Ev.now _)
      rw [beadleref16_Attribute.l1, if_pos (by omega), if_pos (by omega), rd_S40 ha, if_pos ((blist_eq _ _).1 h)]
    · rw [hit_no (a := to39 a) h]
      refine Ev.step (fun k => ?_) (ih (i + 1) (by omega))
      rw [beadleref16_Attribute.l1, if_pos (by omega), if_pos (by omega), rd_S40 ha, if_neg (fun e => h ((blist_eq _ _).2 e)), w64 (by omega) (by omega)]
      rfl
theorem ref_l0 (L : List S40) (name : ByteArray) (hl : L.length ≤ 50) (R : Ans) (hj : Ev (fun k => beadleref16_Attribute.j1 k name) R) : ∀ (d i : Nat), i + d = L.length → Ev (fun k => beadleref16_Attribute.l0 k name L (i : Int)) (orV (hit name ((L.drop i).map to39)) R) := by
  intro d
  induction d with
  | zero =>
    intro i hi
    refine Ev.step (fun k => ?_) (by rw [List.drop_of_length_le (by omega)]; exact hj)
    rw [beadleref16_Attribute.l0, if_neg (by omega)]
  | succ d ih =>
    intro i hi
    obtain ⟨a, ha⟩ : ∃ a, L[i]? = some a := ⟨_, List.getElem?_eq_getElem (by omega)⟩
    rw [drop_at ha, List.map_cons]
    by_cases h : a.f0 = name
    · rw [hit_yes (a := to39 a) h]
      refine Ev.step (f := fun _ => some (a.f0, a.f1, a.f2, true)) (fun k => ?_) (Ev.now _)
      rw [beadleref16_Attribute.l0, if_pos (by omega), if_pos (by omega), rd_S40 ha, if_pos ((blist_eq _ _).1 h)]
    · rw [hit_no (a := to39 a) h]
      refine Ev.step (fun k => ?_) (ih (i + 1) (by omega))
      rw [beadleref16_Attribute.l0, if_pos (by omega), if_pos (by omega), rd_S40 ha, if_neg (fun e => h ((blist_eq _ _).2 e)), w64 (by omega) (by omega)]
      rfl
/-! The attributes of all, and the names with "data-" ahead. -/
def dataP : ByteArray := ⟨#[100, 97, 116, 97, 45]⟩
def textW : ByteArray := ⟨#[116, 101, 120, 116]⟩
def allL : List S40 := (beadleref16_All.f).getD []
theorem all_f : beadleref16_All.f = some allL := by kernel_rfl
theorem all_len : allL.length ≤ 50 := by decide +kernel
set_option maxRecDepth 1000000 in
theorem all_attrs : schema_attrs.f 60 allText = some (allL.map to39) := by decide +kernel
def dataB (name : ByteArray) : Bool := decide (5 < name.size) && ((name.extract 0 5).toList == [100, 97, 116, 97, 45])
def tailV (name : ByteArray) : Ans := if dataB name = true then (name, textW, false, true) else orV (hit name (allL.map to39)) noV
theorem j2_ev (name : ByteArray) : Ev (fun k => beadleref16_Attribute.j2 k name (dataB name)) (tailV name) := by
  unfold tailV
  by_cases h : dataB name = true
  · rw [if_pos h]
    refine Ev.step (f := fun _ => some (name, textW, false, true)) (fun k => ?_) (Ev.now _)
    rw [beadleref16_Attribute.j2, if_pos h]
    rfl
  · rw [if_neg h]
    have := ref_l1 allL name all_len allL.length 0 (by omega)
    rw [List.drop_zero] at this
    refine Ev.step (fun k => ?_) this
    rw [beadleref16_Attribute.j2, if_neg h, all_f, Option.bind_some]
    rfl
theorem j1_ev (name : ByteArray) : Ev (fun k => beadleref16_Attribute.j1 k name) (tailV name) := by
  refine Ev.step (fun k => ?_) (j2_ev name)
  rw [beadleref16_Attribute.j1]
  unfold dataB
  by_cases h : 5 < name.size
  · rw [if_pos (by omega), if_pos (by omega), if_pos (by omega), decide_eq_true h, Bool.true_and]
  · rw [if_neg (by omega), decide_eq_false h, Bool.false_and]
theorem list_nil {b : ByteArray} : b.toList = [] ↔ b.size = 0 := by
  rw [ByteArray.toList_eq]
  constructor
  · intro h
    show b.data.size = 0
    rw [← Array.length_toList, h]
    rfl
  · intro h
    apply List.eq_nil_of_length_eq_zero
    rw [Array.length_toList]
    exact h
theorem tail_f (name : ByteArray) : ((strings_CutPrefix.f name ⟨#[100, 97, 116, 97, 45]⟩).bind fun c => if c.2 = true then (if c.1.toList = [] then (schema_attrs.f 60 allText).bind fun al => schema_find.f 60 al name else some (name, ⟨#[116, 101, 120, 116]⟩, false, true)) else (schema_attrs.f 60 allText).bind fun al => schema_find.f 60 al name) = some (tailV name) := by
  have hall : ((schema_attrs.f 60 allText).bind fun al => schema_find.f 60 al name) = some (orV (hit name (allL.map to39)) noV) := by
    rw [all_attrs, Option.bind_some, find_f _ _ (by rw [List.length_map]; exact all_len)]
  rw [hall]
  have hps : (dataP.size : Int) = 5 := by decide
  have hpl : dataP.toList = [100, 97, 116, 97, 45] := by decide +kernel
  show (strings_CutPrefix.f name dataP).bind _ = _
  unfold strings_CutPrefix.f stringslite_CutPrefix.f stringslite_HasPrefix.f tailV dataB
  rw [hps, hpl]
  by_cases h : (name.size : Int) ≥ 5
  · rw [if_pos h, if_pos (by decide), if_pos (by omega), Option.bind_some]
    by_cases hp : ((name.extract 0 5).toList == [100, 97, 116, 97, 45]) = true
    · have hp' : ((name.extract 0 (5 : Int).toNat).toList == [100, 97, 116, 97, 45]) = true := hp
      rw [hp', hp, if_pos rfl, if_pos (by decide), if_pos (by omega), Option.bind_some, Option.bind_some]
      simp only [if_true, Bool.and_true]
      have hsz : (name.extract (5 : Int).toNat name.size).size = name.size - 5 := by
        rw [ByteArray.size_extract]
        show min _ _ - 5 = _
        omega
      by_cases hn : 5 < name.size
      · rw [if_neg (by rw [list_nil, hsz]; omega), if_pos (by simpa using hn)]
        rfl
      · rw [if_pos (by rw [list_nil, hsz]; omega), if_neg (by simpa using hn)]
    · rw [Bool.not_eq_true] at hp
      have hp' : ((name.extract 0 (5 : Int).toNat).toList == [100, 97, 116, 97, 45]) = false := hp
      rw [hp', hp, if_neg (by decide), Option.bind_some, Option.bind_some, Bool.and_false]
      simp only [Bool.false_eq_true, if_false]
  · rw [if_neg h, Option.bind_some, if_neg (by decide), Option.bind_some, Option.bind_some, decide_eq_false (show ¬ 5 < name.size by omega), Bool.false_and]
    simp only [Bool.false_eq_true, if_false]
/-! The attribute: here and in the document. -/
theorem orV_ok (o : Option S39) (r : Ans) : (if (orV o noV).2.2.2 = true then some (orV o noV) else some r) = some (orV o r) := by
  cases o <;> rfl
theorem attribute_both (el name : ByteArray) : ∃ R : Ans, schema_Attribute.f 60 el name = some R ∧ Ev (fun k => beadleref16_Attribute.f k el name) R := by
  rcases of_both el with ⟨j, y, h1, h2, h3, h4, h5, h6⟩ | ⟨h5, h6⟩
  · refine ⟨orV (hit name (y.f3.map to39)) (tailV name), ?_, ?_⟩
    · unfold schema_Attribute.f ofA
      rw [h5, Option.map_some, Option.bind_some]
      show ((schema_find.f 60 (y.f3.map to39) name).bind _) = _
      rw [find_f _ _ (by rw [List.length_map]; exact h4), Option.bind_some, tail_f, orV_ok]
    · have hlt : j < rowsL.length := (List.getElem?_eq_some_iff.1 h1).1
      refine Ev.congr (f := fun k => (beadleref16_Of.f k el).bind fun t168 => (if t168 ≥ 0 then ((beadleref16_Rows.f).bind fun t169 => (if 0 ≤ t168 then (if t168 < (t169.length : Int) then (beadleref16_Attribute.l0 k name ((rd_T34 t169 t168).f3) 0) else (none)) else (none))) else (beadleref16_Attribute.j1 k name))) (fun k => rfl) ?_
      refine Ev.bind h6 ?_
      have := ref_l0 y.f3 name h4 (tailV name) (j1_ev name) y.f3.length 0 (by omega)
      rw [List.drop_zero] at this
      refine Ev.congr (fun k => ?_) this
      rw [if_pos (by omega), rows_f, Option.bind_some, if_pos (by omega), if_pos (by omega), rd_S34 h1]
      rfl
  · refine ⟨tailV name, ?_, ?_⟩
    · unfold schema_Attribute.f ofA
      rw [h5, Option.map_some, Option.bind_some]
      show ((schema_find.f 60 [] name).bind _) = _
      rw [find_f _ _ (by simp), Option.bind_some, tail_f]
      rfl
    · refine Ev.congr (f := fun k => (beadleref16_Of.f k el).bind fun t168 => (if t168 ≥ 0 then ((beadleref16_Rows.f).bind fun t169 => (if 0 ≤ t168 then (if t168 < (t169.length : Int) then (beadleref16_Attribute.l0 k name ((rd_T34 t169 t168).f3) 0) else (none)) else (none))) else (beadleref16_Attribute.j1 k name))) (fun k => rfl) ?_
      refine Ev.bind h6 ?_
      refine Ev.congr (fun k => ?_) (j1_ev name)
      rw [if_neg (by decide)]
/-! The old ones. -/
theorem idx_ev (L : List ByteArray) (s : ByteArray) (hl : L.length ≤ 1000) : ∀ (d i : Nat), i + d = L.length → ∃ r : Int, Ev (fun k => slices_Index_string_string.l0 k L s (L.length : Int) (i : Int)) r ∧ decide (r ≥ 0) = (L.drop i).any fun z => decide (z = s) := by
  intro d
  induction d with
  | zero =>
    intro i hi
    refine ⟨-1, Ev.step (f := fun _ => some (-1)) (fun k => ?_) (Ev.now _), ?_⟩
    · rw [slices_Index_string_string.l0, if_neg (by omega)]
    · rw [List.drop_of_length_le (by omega)]
      rfl
  | succ d ih =>
    intro i hi
    obtain ⟨z, hz⟩ : ∃ z, L[i]? = some z := ⟨_, List.getElem?_eq_getElem (by omega)⟩
    rw [drop_at hz, List.any_cons]
    by_cases h : z = s
    · refine ⟨i, Ev.step (f := fun _ => some (i : Int)) (fun k => ?_) (Ev.now _), ?_⟩
      · rw [slices_Index_string_string.l0, if_pos (by omega), if_pos (by omega), if_pos (by omega), rd_B hz, if_pos ((blist_eq _ _).1 h.symm)]
      · rw [decide_eq_true h, Bool.true_or, decide_eq_true (by omega)]
    · obtain ⟨r, h1, h2⟩ := ih (i + 1) (by omega)
      refine ⟨r, Ev.step (fun k => ?_) h1, ?_⟩
      · rw [slices_Index_string_string.l0, if_pos (by omega), if_pos (by omega), if_pos (by omega), rd_B hz, if_neg (fun e => h ((blist_eq _ _).2 e.symm)), w64 (by omega) (by omega)]
        rfl
      · rw [h2, decide_eq_false h, Bool.false_or]
theorem contains_ev (L : List ByteArray) (s : ByteArray) (hl : L.length ≤ 1000) : Ev (fun k => slices_Contains_string_string.f k L s) (L.any fun z => decide (z = s)) := by
  obtain ⟨r, h1, h2⟩ := idx_ev L s hl L.length 0 (by omega)
  rw [List.drop_zero] at h2
  refine Ev.congr (f := fun k => (slices_Index_string_string.l0 k L s (L.length : Int) ((0 : Nat) : Int)).bind fun t184 => (some (decide (t184 ≥ 0)))) (fun k => rfl) ?_
  refine Ev.bind h1 ?_
  rw [← h2]
  exact Ev.now _
def oldL : List S47 := (beadleref16_OldAttrs.f).getD []
theorem old_f : beadleref16_OldAttrs.f = some oldL := by kernel_rfl
theorem old_len : oldL.length ≤ 50 := by decide +kernel
def dotted (e n : List UInt8) : List UInt8 := e ++ 46 :: n
def oldText : ByteArray := ⟨#[97, 46, 99, 104, 97, 114, 115, 101, 116, 32, 97, 46, 110, 97, 109, 101, 32, 98, 111, 100, 121, 46, 98, 103, 99, 111, 108, 111, 114, 32, 98, 111, 100, 121, 46, 116, 101, 120, 116, 32, 98, 114, 46, 99, 108, 101, 97, 114, 32, 104, 114, 46, 110, 111, 115, 104, 97, 100, 101, 32, 104, 114, 46, 115, 105, 122, 101, 32, 105, 109, 103, 46, 97, 108, 105, 103, 110, 32, 105, 109, 103, 46, 98, 111, 114, 100, 101, 114, 32, 116, 97, 98, 108, 101, 46, 98, 103, 99, 111, 108, 111, 114, 32, 116, 97, 98, 108, 101, 46, 99, 101, 108, 108, 112, 97, 100, 100, 105, 110, 103, 32, 116, 97, 98, 108, 101, 46, 99, 101, 108, 108, 115, 112, 97, 99, 105, 110, 103, 32, 116, 100, 46, 110, 111, 119, 114, 97, 112, 32, 116, 100, 46, 118, 97, 108, 105, 103, 110, 32, 116, 104, 46, 110, 111, 119, 114, 97, 112, 32, 116, 104, 46, 118, 97, 108, 105, 103, 110]⟩
def ofL (l : List UInt8) : ByteArray := ⟨l.toArray⟩
set_option maxRecDepth 1000000 in
theorem old_fields : strings_Fields.f oldText = some (oldL.map fun p => ofL (dotted p.f0.data.toList p.f1.data.toList)) := by decide +kernel
def plainB (p : S47) : Bool := !(p.f0.data.toList.contains 46) && !(p.f1.data.toList.contains 46) && !p.f0.data.toList.isEmpty
theorem old_plain : oldL.all plainB = true := by decide +kernel
theorem dotted_eq : ∀ (a b c d : List UInt8), ¬ 46 ∈ a → ¬ 46 ∈ b → (dotted a b = dotted c d ↔ a = c ∧ b = d)
  | a, b, c, d, ha, hb => by
    constructor
    · intro h
      have hc : ¬ 46 ∈ c := by
        intro hc
        have := congrArg (List.count 46) h
        unfold dotted at this
        rw [List.count_append, List.count_append, List.count_cons_self, List.count_cons_self, List.count_eq_zero_of_not_mem ha, List.count_eq_zero_of_not_mem hb] at this
        have := List.count_pos_iff.2 hc
        omega
      unfold dotted at h
      clear hb
      induction a generalizing c with
      | nil =>
        cases c with
        | nil => exact ⟨rfl, by simpa using h⟩
        | cons x c =>
          rw [List.nil_append, List.cons_append, List.cons.injEq] at h
          exact absurd (List.mem_cons.2 (.inl h.1)) hc
      | cons y a ih =>
        cases c with
        | nil =>
          rw [List.nil_append, List.cons_append, List.cons.injEq] at h
          exact absurd (List.mem_cons.2 (.inl h.1.symm)) ha
        | cons x c =>
          rw [List.cons_append, List.cons_append, List.cons.injEq] at h
          obtain ⟨e1, e2⟩ := ih c (fun hm => ha (List.mem_cons_of_mem _ hm)) h.2 (fun hm => hc (List.mem_cons_of_mem _ hm))
          exact ⟨by rw [h.1, e1], e2⟩
    · rintro ⟨rfl, rfl⟩
      rfl
theorem data_eq {a b : ByteArray} : a = b ↔ a.data.toList = b.data.toList := ⟨fun h => h ▸ rfl, fun h => ByteArray.ext (Array.toList_inj.1 h)⟩
def oldV (el name : ByteArray) : Bool := oldL.any fun p => decide (p.f0 = el) && decide (p.f1 = name)
theorem join_data (a b c : ByteArray) : ((a ++ b) ++ c).data.toList = a.data.toList ++ b.data.toList ++ c.data.toList := by
  rw [ByteArray.data_append, Array.toList_append, ByteArray.data_append, Array.toList_append]
theorem old_ev (el name : ByteArray) (h0 : el.size ≤ 1048576) (h1 : name.size ≤ 1048576) : Ev (fun k => schema_OldAttribute.f k el name) (oldV el name) := by
  by_cases he : el.toList = []
  · refine Ev.congr (f := fun _ => some (oldV el name)) (fun k => ?_) (Ev.now _)
    rw [schema_OldAttribute.f, if_pos he]
    congr 1
    symm
    unfold oldV
    rw [List.any_eq_false]
    intro p hp hc
    have := List.all_eq_true.1 old_plain p hp
    simp only [Bool.and_eq_true, decide_eq_true_eq] at hc
    unfold plainB at this
    rw [hc.1, ← ByteArray.toList_eq, he] at this
    simp at this
  · have hc := contains_ev (oldL.map fun p => ofL (dotted p.f0.data.toList p.f1.data.toList)) ((el ++ (⟨#[46]⟩ : ByteArray)) ++ name) (by rw [List.length_map]; have := old_len; omega)
    have hv : ((oldL.map fun p => ofL (dotted p.f0.data.toList p.f1.data.toList)).any fun z => decide (z = (el ++ (⟨#[46]⟩ : ByteArray)) ++ name)) = oldV el name := by
      unfold oldV
      rw [List.any_map, Bool.eq_iff_iff, List.any_eq_true, List.any_eq_true]
      refine exists_congr fun p => and_congr_right fun hp => ?_
      have hpl := List.all_eq_true.1 old_plain p hp
      unfold plainB at hpl
      simp only [Bool.and_eq_true, Bool.not_eq_true', List.contains_eq_mem, decide_eq_false_iff_not] at hpl
      simp only [Function.comp, decide_eq_true_eq, Bool.and_eq_true]
      rw [data_eq, join_data, data_eq (a := p.f0), data_eq (a := p.f1), ← dotted_eq _ _ _ _ hpl.1.1 hpl.1.2]
      simp [ofL, dotted]
    rw [hv] at hc
    refine Ev.congr (fun k => ?_) hc
    rw [schema_OldAttribute.f, if_neg he]
    show ((strings_Fields.f oldText).bind _) = _
    rw [old_fields, Option.bind_some]
    have hs : (el ++ (⟨#[46]⟩ : ByteArray)).size = el.size + 1 := by rw [ByteArray.size_append]; rfl
    rw [if_pos (by omega), if_pos (by omega)]
    simp only [Option.bind_fun_some]
/-! The law. -/
theorem law_l0 (el name : ByteArray) (h0 : el.size ≤ 1048576) (h1 : name.size ≤ 1048576) (b : Bool) (a1 a2 : ByteArray) (a3 : Bool) : ∀ (d i : Nat) (o : Bool), i + d = oldL.length → oldV el name = (o || (oldL.drop i).any fun p => decide (p.f0 = el) && decide (p.f1 = name)) → Ev (fun k => beadlelaw16_SchemaAttributes.l0 k el name b b oldL o (i : Int) a1 a2 a3 a1 a2 a3) true := by
  have hlen := old_len
  intro d
  induction d with
  | zero =>
    intro i o hi h
    rw [List.drop_of_length_le (by omega), List.any_nil, Bool.or_false] at h
    subst h
    refine Ev.step (f := fun k => (schema_OldAttribute.f k el name).bind fun t205 => (some (t205 == oldV el name))) (fun k => ?_) (Ev.bind (old_ev el name h0 h1) ?_)
    · rw [beadlelaw16_SchemaAttributes.l0, if_neg (by omega), if_pos (by simp), if_pos rfl, if_pos rfl, if_pos (by simp)]
    · rw [beq_self_eq_true]
      exact Ev.now _
  | succ d ih =>
    intro i o hi h
    obtain ⟨p, hp⟩ : ∃ p, oldL[i]? = some p := ⟨_, List.getElem?_eq_getElem (by omega)⟩
    rw [drop_at hp, List.any_cons] at h
    cases o with
    | true =>
      refine Ev.step (fun k => ?_) (ih (i + 1) true (by omega) (by simpa using h))
      rw [beadlelaw16_SchemaAttributes.l0, if_pos (by omega), if_pos rfl, w64 (by omega) (by omega)]
      rfl
    | false =>
      by_cases he : p.f0 = el
      · refine Ev.step (fun k => ?_) (ih (i + 1) (decide (p.f1 = name)) (by omega) (by simpa [he] using h))
        rw [beadlelaw16_SchemaAttributes.l0, if_pos (by omega), if_neg (by decide), if_pos (by omega), rd_S47 hp, if_pos ((blist_eq _ _).1 he), w64 (by omega) (by omega)]
        rw [show ((p.f1).toList == name.toList) = decide (p.f1 = name) by rw [Bool.eq_iff_iff, beq_iff_eq, decide_eq_true_eq, blist_eq]]
        rfl
      · refine Ev.step (fun k => ?_) (ih (i + 1) false (by omega) (by simpa [he] using h))
        rw [beadlelaw16_SchemaAttributes.l0, if_pos (by omega), if_neg (by decide), if_pos (by omega), rd_S47 hp, if_neg (fun e => he ((blist_eq _ _).2 e)), w64 (by omega) (by omega)]
        rfl
theorem SchemaAttributes : beadlelaw16_SchemaAttributes.Ask := by
  intro el name _ _ hs
  obtain ⟨⟨r1, r2, r3, r4⟩, hA, hB⟩ := attribute_both el name
  have hS : Ev (fun k => beadlelaw16_speaks.f k) true := Ev.of beadlelaw16_speaks.mono speaks_yes
  have hAE : Ev (fun k => schema_Attribute.f k el name) (r1, r2, r3, r4) := Ev.of (schema_Attribute.mono el name) hA
  have hl := law_l0 el name (by omega) (by omega) r4 r1 r2 r3 oldL.length 0 false (by omega) (by rw [List.drop_zero, Bool.false_or]; rfl)
  refine Ev.rounds ?_
  refine Ev.congr (f := fun k => (beadlelaw16_speaks.f k).bind fun t189 => (if t189 = true then ((schema_Attribute.f k el name).bind fun bt190 => ((beadleref16_Attribute.f k el name).bind fun bt195 => ((beadleref16_OldAttrs.f).bind fun t200 => (beadlelaw16_SchemaAttributes.l0 k el name bt190.2.2.2 bt195.2.2.2 t200 false 0 bt190.1 bt190.2.1 bt190.2.2.1 bt195.1 bt195.2.1 bt195.2.2.1)))) else (some false))) (fun k => rfl) ?_
  refine Ev.bind hS ?_
  simp only [if_true]
  refine Ev.bind hAE ?_
  refine Ev.bind hB ?_
  rw [old_f]
  exact hl
end Go.Proofs.YtojjpimnjlmepaaDoor.Pure
