/- MicroKnown in plain words: every kind that an attribute of any element has is known, and no other word. -/
import Derived.Test.YtnfjohpecedpnaaGreatDoorPMx8
import Derived.Test.YtnfjohpecedpnaaGreatDoorScan
import Derived.Test.YtnfjohpecedpnaaGreatDoorAskMicroKnown
set_option linter.unusedVariables false
namespace Go.Proofs.YtnfjohpecedpnaaGreatDoor.Pure
open Go Go.RowKit Go.Proofs.YtnfjohpecedpnaaGreatDoor.PM Go.Proofs.YtnfjohpecedpnaaGreatDoor.Scan Go.Proofs.YtnfjohpecedpnaaGreatDoorW.PrintWords Go.Proofs.YtnfjohpecedpnaaGreatDoorW.PrintLast
theorem speaks_known : beadlelaw18_speaks.f = some true := by decide +kernel
/-! The table. -/
def attrsOkB (s : ByteArray) : Bool := match schema_attrs.f 60 s with
  | some al => decide (al.length ≤ 50) && al.all fun a => micro_Known.f a.f1 == some true
  | none => false
def rowOkB (x : S88) : Bool := (strings_Fields.f x.f2).isSome && attrsOkB x.f3
def tableB : Bool := match schema_table.f with
  | some T => !T.isEmpty && decide (T.length ≤ 1000) && T.all rowOkB
  | none => false
set_option maxRecDepth 1000000 in
theorem table_ok : tableB = true := by decide +kernel
set_option maxRecDepth 1000000 in
theorem all_ok : attrsOkB allText = true := by decide +kernel
theorem attrs_out {s : ByteArray} (h : attrsOkB s = true) : ∃ al, schema_attrs.f 60 s = some al ∧ al.length ≤ 50 ∧ ∀ a ∈ al, micro_Known.f a.f1 = some true := by
  unfold attrsOkB at h
  cases e : schema_attrs.f 60 s with
  | none => rw [e] at h; cases h
  | some al =>
    rw [e] at h
    simp only [Bool.and_eq_true, decide_eq_true_eq, List.all_eq_true] at h
    exact ⟨al, rfl, h.1, fun a ha => by simpa using h.2 a ha⟩
theorem of_ok (name : ByteArray) : ∃ ok al, ofA 60 name = some (ok, al) ∧ al.length ≤ 50 ∧ ∀ a ∈ al, micro_Known.f a.f1 = some true := by
  have hT := table_ok
  unfold tableB at hT
  cases e : schema_table.f with
  | none => rw [e] at hT; cases hT
  | some T =>
    rw [e] at hT
    simp only [Bool.and_eq_true, decide_eq_true_eq, List.all_eq_true] at hT
    obtain ⟨⟨h1, h2⟩, h3⟩ := hT
    have hne : T ≠ [] := by rintro rfl; cases h1
    unfold ofA rowOf
    rw [e, Option.bind_some, if_pos ⟨hne, h2⟩, Option.bind_some]
    cases hb : bsOk T name with
    | false => exact ⟨false, [], rfl, by simp, fun a ha => by cases ha⟩
    | true =>
      rw [if_pos rfl]
      cases hx : T[bsAt T name]? with
      | none => exact ⟨false, [], rfl, by simp, fun a ha => by cases ha⟩
      | some x =>
        have hr := h3 x (List.mem_of_getElem? hx)
        unfold rowOkB at hr
        rw [Bool.and_eq_true] at hr
        obtain ⟨cl, hcl⟩ := Option.isSome_iff_exists.1 hr.1
        obtain ⟨al, g1, g2, g3⟩ := attrs_out hr.2
        exact ⟨true, al, by simp only [hcl, g1, Option.bind_some], g2, g3⟩
theorem rd_S30 {xs : List S30} {i : Nat} {a : S30} (h : xs[i]? = some a) : rd_T30 xs (i : Int) = a := by simp [rd_T30, List.getD_eq_getElem?_getD, h]
theorem find_l0 (al : List S30) (name : ByteArray) (hl : al.length ≤ 50) : ∀ (d i k : Nat), i + d = al.length → d < k → ∃ r1 r2 r3 r4, schema_find.l0 k name al (al.length : Int) (i : Int) = some (r1, r2, r3, r4) ∧ (r4 = true → ∃ a ∈ al, r2 = a.f1) := by
  intro d
  induction d with
  | zero =>
    intro i k hi hk
    obtain ⟨k, rfl⟩ : ∃ k', k = k' + 1 := ⟨k - 1, by omega⟩
    exact ⟨_, _, _, _, by rw [schema_find.l0, if_neg (by omega)], fun h => by cases h⟩
  | succ d ih =>
    intro i k hi hk
    obtain ⟨k, rfl⟩ : ∃ k', k = k' + 1 := ⟨k - 1, by omega⟩
    obtain ⟨a, ha⟩ : ∃ a, al[i]? = some a := ⟨_, List.getElem?_eq_getElem (by omega)⟩
    rw [schema_find.l0, if_pos (by omega), if_pos (by omega), if_pos (by omega), rd_S30 ha, w64 (by omega) (by omega)]
    by_cases h : (a.f0).toList = name.toList
    · rw [if_pos h]
      exact ⟨_, _, _, _, rfl, fun _ => ⟨a, List.mem_of_getElem? ha, rfl⟩⟩
    · rw [if_neg h]
      exact ih (i + 1) k (by omega) (by omega)
theorem find_ok (al : List S30) (name : ByteArray) (hl : al.length ≤ 50) : ∃ r1 r2 r3 r4, schema_find.f 60 al name = some (r1, r2, r3, r4) ∧ (r4 = true → ∃ a ∈ al, r2 = a.f1) := by
  unfold schema_find.f
  exact find_l0 al name hl al.length 0 60 (by omega) (by omega)
theorem prefix_ok (s p : ByteArray) : ∃ c1 c2, strings_CutPrefix.f s p = some (c1, c2) := by
  unfold strings_CutPrefix.f stringslite_CutPrefix.f stringslite_HasPrefix.f
  by_cases h : (s.size : Int) ≥ (p.size : Int)
  · rw [if_pos h, if_pos (by omega), if_pos (by omega), Option.bind_some]
    split
    · exact ⟨_, _, rfl⟩
    · exact ⟨_, _, rfl⟩
  · rw [if_neg h, Option.bind_some, if_neg (by decide)]
    exact ⟨_, _, rfl⟩
theorem attribute_ok (el name : ByteArray) : ∃ r1 r2 r3 r4, schema_Attribute.f 60 el name = some (r1, r2, r3, r4) ∧ (r4 = true → micro_Known.f r2 = some true) := by
  obtain ⟨ok, al, h1, h2, h3⟩ := of_ok el
  obtain ⟨f1, f2, f3, f4, hf, hfk⟩ := find_ok al name h2
  obtain ⟨al2, g1, g2, g3⟩ := attrs_out all_ok
  obtain ⟨e1, e2, e3, e4, he, hek⟩ := find_ok al2 name g2
  obtain ⟨c1, c2, hc⟩ := prefix_ok name ⟨#[100, 97, 116, 97, 45]⟩
  have hall : ((schema_attrs.f 60 allText).bind fun al => schema_find.f 60 al name) = some (e1, e2, e3, e4) := by rw [g1, Option.bind_some, he]
  have hek2 : e4 = true → micro_Known.f e2 = some true := fun h => by obtain ⟨a, ha, rfl⟩ := hek h; exact g3 a ha
  unfold schema_Attribute.f
  rw [h1, Option.bind_some]
  simp only
  rw [hf, Option.bind_some]
  cases f4 with
  | true =>
    rw [if_pos rfl]
    exact ⟨_, _, _, _, rfl, fun h => by obtain ⟨a, ha, rfl⟩ := hfk h; exact h3 a ha⟩
  | false =>
    rw [if_neg (by simp), hc, Option.bind_some]
    simp only
    rw [hall]
    cases c2 with
    | false => exact ⟨_, _, _, _, if_neg (by decide), hek2⟩
    | true =>
      rw [if_pos rfl]
      by_cases hn : c1.toList = []
      · exact ⟨_, _, _, _, if_pos hn, hek2⟩
      · exact ⟨_, _, _, _, if_neg hn, fun _ => by decide +kernel⟩
/-! The word of a kind. -/
def pos : List UInt8 → Nat
  | [] => 0
  | b :: l => if b = 61 then 0 else pos l + 1
theorem pos_le : ∀ l, pos l ≤ l.length
  | [] => Nat.le_refl _
  | b :: l => by unfold pos; have := pos_le l; split <;> simp <;> omega
theorem index_pos : ∀ l : List UInt8, Lib.index l [61] = if pos l < l.length then (pos l : Int) else -1
  | [] => rfl
  | b :: l => by
    have ih := index_pos l
    rw [Lib.index]
    unfold pos
    by_cases h : b = 61
    · subst h
      rw [if_pos (by rfl), if_pos rfl, if_pos (by simp)]
      rfl
    · have h2 : ([61] : List UInt8).isPrefixOf (b :: l) = false := by
        simp [List.isPrefixOf]
        exact fun e => h e.symm
      rw [h2, if_neg (by decide), if_neg h, ih]
      by_cases hp : pos l < l.length
      · have e1 : ((pos l : Int) == -1) = false := by rw [beq_eq_false_iff_ne]; omega
        have e2 : pos l + 1 < (b :: l).length := by rw [List.length_cons]; omega
        rw [if_pos hp, e1, if_neg (by decide), if_pos e2]
        rfl
      · have e2 : ¬ pos l + 1 < (b :: l).length := by rw [List.length_cons]; omega
        rw [if_neg hp, if_pos (by rfl), if_neg e2]
theorem cut_pos (l : List UInt8) : Lib.cut l [61] = if pos l < l.length then (l.take (pos l), l.drop (pos l + 1), true) else (l, [], false) := by
  unfold Lib.cut
  rw [index_pos]
  by_cases hp : pos l < l.length
  · simp only [if_pos hp]
    rw [if_pos (by omega)]
    rfl
  · simp only [if_neg hp]
    rw [if_neg (by omega)]
theorem kind_word (l : List UInt8) : kWord (ofL l) = ofL (l.take (pos l)) ∧ (kRest (ofL l)).size ≤ l.length := by
  unfold kWord kRest kOk
  rw [ofL_data, cut_pos]
  have := pos_le l
  by_cases hp : pos l < l.length
  · simp only [if_pos hp]
    refine ⟨if_pos trivial, ?_⟩
    show (ofL _).size ≤ _
    rw [ofL_size, List.length_drop]
    omega
  · simp only [if_neg hp]
    refine ⟨?_, ?_⟩
    · rw [if_neg (by decide), List.take_of_length_le (by omega)]
    · show (ofL []).size ≤ _
      rw [ofL_size]
      exact Nat.zero_le _
/-! The reference's word. -/
theorem ref_split (l : List UInt8) (p : Nat) (hp : p ≤ l.length) (hl : l.length ≤ 1048576) : ∀ (d i f : Nat) (out : List ByteArray), i + d = l.length + 1 → f ≤ i → out.length ≤ i → ∃ out2, Ev (fun k => beadleref16_Kinds.l1 k (ofL l) (p : Int) out (f : Int) (i : Int)) (ofL (l.take p), out2) := by
  intro d
  induction d with
  | zero =>
    intro i f out hi hf ho
    refine ⟨out, Ev.step (f := fun _ => some (ofL (l.take p), out)) (fun k => ?_) (Ev.now _)⟩
    rw [beadleref16_Kinds.l1, if_neg (by rw [ofL_size]; omega), if_pos (by omega), if_pos (by rw [ofL_size]; omega), Int.toNat_natCast, ofL_take]
  | succ d ih =>
    intro i f out hi hf ho
    have hw : wrap64 ((i : Int) + 1) = ((i + 1 : Nat) : Int) := by rw [w64 (by omega) (by omega)]; rfl
    by_cases he : i = l.length
    · obtain ⟨out2, h⟩ := ih (i + 1) (i + 1) (out ++ [(ofL l).extract ((f : Int)).toNat ((i : Int)).toNat]) (by omega) (by omega) (by rw [List.length_append]; simp; omega)
      refine ⟨out2, Ev.step (fun k => ?_) h⟩
      rw [beadleref16_Kinds.l1, if_pos (by rw [ofL_size]; omega), if_pos (by rw [ofL_size]; omega), if_pos (by omega), if_pos (by omega), if_pos (by omega), hw]
    · obtain ⟨c, hc⟩ : ∃ c, l[i]? = some c := ⟨_, List.getElem?_eq_getElem (by omega)⟩
      by_cases h44 : bt (ofL l) (i : Int) = 44
      · obtain ⟨out2, h⟩ := ih (i + 1) (i + 1) (out ++ [(ofL l).extract ((f : Int)).toNat ((i : Int)).toNat]) (by omega) (by omega) (by rw [List.length_append]; simp; omega)
        refine ⟨out2, Ev.step (fun k => ?_) h⟩
        rw [beadleref16_Kinds.l1, if_pos (by rw [ofL_size]; omega), if_neg (by rw [ofL_size]; omega), if_pos (by omega), if_pos (by rw [ofL_size]; omega), if_pos h44, if_pos (by omega), if_pos (by omega), if_pos (by omega), hw]
      · obtain ⟨out2, h⟩ := ih (i + 1) f out (by omega) (by omega) (by omega)
        refine ⟨out2, Ev.step (fun k => ?_) h⟩
        rw [beadleref16_Kinds.l1, if_pos (by rw [ofL_size]; omega), if_neg (by rw [ofL_size]; omega), if_pos (by omega), if_pos (by rw [ofL_size]; omega), if_neg h44, hw]
theorem ref_at (l : List UInt8) (hl : l.length ≤ 1048576) (p : Nat) (hp : p ≤ l.length) : ∃ out2, Ev (fun k => beadleref16_Kinds.j1 k (ofL l) (p : Int)) (ofL (l.take p), out2) := by
  by_cases he : p = l.length
  · refine ⟨[], Ev.step (f := fun _ => some (ofL (l.take p), [])) (fun k => ?_) (Ev.now _)⟩
    rw [beadleref16_Kinds.j1, if_pos (by rw [ofL_size]; omega), List.take_of_length_le (by omega)]
  · obtain ⟨out2, h⟩ := ref_split l p hp hl (l.length - p) (p + 1) (p + 1) [] (by omega) (Nat.le_refl _) (Nat.zero_le _)
    refine ⟨out2, Ev.step (fun k => ?_) h⟩
    rw [beadleref16_Kinds.j1, if_neg (by rw [ofL_size]; omega), w64 (by omega) (by omega)]
    rfl
theorem ref_l0 (l : List UInt8) (hl : l.length ≤ 1048576) : ∀ (d i : Nat), i + d = l.length → ∃ out2, Ev (fun k => beadleref16_Kinds.l0 k (ofL l) (i : Int)) (ofL (l.take (i + pos (l.drop i))), out2) := by
  intro d
  induction d with
  | zero =>
    intro i hi
    obtain ⟨out2, h⟩ := ref_at l hl i (by omega)
    refine ⟨out2, Ev.step (fun k => ?_) (by rw [List.drop_of_length_le (by omega)]; exact h)⟩
    rw [beadleref16_Kinds.l0, if_neg (by rw [ofL_size]; omega)]
  | succ d ih =>
    intro i hi
    obtain ⟨c, hc⟩ : ∃ c, l[i]? = some c := ⟨_, List.getElem?_eq_getElem (by omega)⟩
    have hdr : l.drop i = c :: l.drop (i + 1) := by
      obtain ⟨h, rfl⟩ := List.getElem?_eq_some_iff.1 hc
      exact List.drop_eq_getElem_cons h
    rw [hdr, pos]
    by_cases h : c = 61
    · subst h
      rw [if_pos rfl, Nat.add_zero]
      obtain ⟨out2, h⟩ := ref_at l hl i (by omega)
      refine ⟨out2, Ev.step (fun k => ?_) h⟩
      rw [beadleref16_Kinds.l0, if_pos (by rw [ofL_size]; omega), if_pos (by omega), ofL_bt hc, if_pos (by decide)]
    · have hn : ¬ (c.toNat : Int) = 61 := fun e => h (by apply UInt8.toNat_inj.1; rw [show (61 : UInt8).toNat = 61 from rfl]; omega)
      rw [if_neg h, show i + (pos (l.drop (i + 1)) + 1) = (i + 1) + pos (l.drop (i + 1)) by omega]
      obtain ⟨out2, h⟩ := ih (i + 1) (by omega)
      refine ⟨out2, Ev.step (fun k => ?_) h⟩
      rw [beadleref16_Kinds.l0, if_pos (by rw [ofL_size]; omega), if_pos (by omega), ofL_bt hc, if_neg hn, w64 (by omega) (by omega)]
      rfl
theorem ref_kinds (l : List UInt8) (hl : l.length ≤ 1048576) : ∃ out2, Ev (fun k => beadleref16_Kinds.f k (ofL l)) (ofL (l.take (pos l)), out2) := by
  obtain ⟨out2, h⟩ := ref_l0 l hl l.length 0 (by omega)
  rw [List.drop_zero, Nat.zero_add] at h
  exact ⟨out2, h⟩
/-! The law. -/
theorem valid_unknown (kind : ByteArray) (h1 : kind.size < 4294967281) (h2 : (kRest kind).size < 4294967281) (hn : Lib.containsS knownWords (kWord kind) = false) : micro_Valid.f kind ⟨#[]⟩ = some false := by
  have hp : plainF 100 ⟨#[]⟩ = some (0, false) := by decide +kernel
  have hne : ∀ x ∈ knownWords, ((kWord kind).toList == x.data.toList) = false := fun x hx => by
    rw [beq_eq_false_iff_ne, ← ByteArray.toList_eq]
    intro e
    have hx2 : kWord kind = x := (blist_eq _ _).2 e
    have : Lib.containsS knownWords (kWord kind) = true := (Lib.containsS_iff _ _).2 (hx2 ▸ hx)
    rw [this] at hn
    cases hn
  unfold micro_Valid.f validF
  rw [if_pos ⟨h1, h2, by decide⟩, hp, Option.bind_some]
  unfold validAt
  have g0 : ((kWord kind).toList == [116, 101, 120, 116]) = false := hne ⟨#[116, 101, 120, 116]⟩ ((Lib.containsS_iff _ _).1 (by decide +kernel))
  have g1 : ((kWord kind).toList == [102, 108, 97, 103]) = false := hne ⟨#[102, 108, 97, 103]⟩ ((Lib.containsS_iff _ _).1 (by decide +kernel))
  have g2 : ((kWord kind).toList == [101, 110, 117, 109]) = false := hne ⟨#[101, 110, 117, 109]⟩ ((Lib.containsS_iff _ _).1 (by decide +kernel))
  have g3 : ((kWord kind).toList == [105, 110, 116]) = false := hne ⟨#[105, 110, 116]⟩ ((Lib.containsS_iff _ _).1 (by decide +kernel))
  have g4 : ((kWord kind).toList == [110, 97, 116]) = false := hne ⟨#[110, 97, 116]⟩ ((Lib.containsS_iff _ _).1 (by decide +kernel))
  have g5 : ((kWord kind).toList == [112, 111, 115]) = false := hne ⟨#[112, 111, 115]⟩ ((Lib.containsS_iff _ _).1 (by decide +kernel))
  have g6 : ((kWord kind).toList == [115, 112, 97, 110]) = false := hne ⟨#[115, 112, 97, 110]⟩ ((Lib.containsS_iff _ _).1 (by decide +kernel))
  have g7 : ((kWord kind).toList == [102, 108, 111, 97, 116]) = false := hne ⟨#[102, 108, 111, 97, 116]⟩ ((Lib.containsS_iff _ _).1 (by decide +kernel))
  have g8 : ((kWord kind).toList == [105, 100]) = false := hne ⟨#[105, 100]⟩ ((Lib.containsS_iff _ _).1 (by decide +kernel))
  have g9 : ((kWord kind).toList == [105, 100, 115]) = false := hne ⟨#[105, 100, 115]⟩ ((Lib.containsS_iff _ _).1 (by decide +kernel))
  have g10 : ((kWord kind).toList == [116, 111, 107, 101, 110, 115]) = false := hne ⟨#[116, 111, 107, 101, 110, 115]⟩ ((Lib.containsS_iff _ _).1 (by decide +kernel))
  have g11 : ((kWord kind).toList == [104, 97, 115, 104]) = false := hne ⟨#[104, 97, 115, 104]⟩ ((Lib.containsS_iff _ _).1 (by decide +kernel))
  have g12 : ((kWord kind).toList == [119, 104, 101, 110]) = false := hne ⟨#[119, 104, 101, 110]⟩ ((Lib.containsS_iff _ _).1 (by decide +kernel))
  rw [g0, if_neg (by decide), g1, if_neg (by decide), g2, if_neg (by decide), g3, if_neg (by decide), g4, if_neg (by decide), g5, if_neg (by decide), g6, if_neg (by decide), g7, if_neg (by decide), g8, if_neg (by decide), g9, if_neg (by decide), g10, if_neg (by decide), g11, if_neg (by decide), g12, if_neg (by decide)]
theorem known_loop (a2 W : ByteArray) (K : Bool) (hK : micro_Known.f a2 = some K) (hV : K = false → micro_Valid.f a2 ⟨#[]⟩ = some false) (L : List ByteArray) (hL : L.length ≤ 100) : ∀ (d i : Nat) (b : Bool), i + d = L.length → K = (b || (L.drop i).any fun z => z.toList == W.toList) → Ev (fun k => beadlelaw18_MicroKnown.l0 k a2 W L b (i : Int)) true := by
  intro d
  induction d with
  | zero =>
    intro i b hi h
    rw [List.drop_of_length_le (by omega), List.any_nil, Bool.or_false] at h
    subst h
    refine Ev.step (f := fun _ => some true) (fun k => ?_) (Ev.now _)
    rw [beadlelaw18_MicroKnown.l0, if_neg (by omega), hK, Option.bind_some, if_pos (by simp)]
    cases K with
    | true => rw [if_pos rfl]
    | false => rw [if_neg (by decide), hV rfl]; rfl
  | succ d ih =>
    intro i b hi h
    obtain ⟨z, hz⟩ : ∃ z, L[i]? = some z := ⟨_, List.getElem?_eq_getElem (by omega)⟩
    have hdr : L.drop i = z :: L.drop (i + 1) := by
      obtain ⟨h, rfl⟩ := List.getElem?_eq_some_iff.1 hz
      exact List.drop_eq_getElem_cons h
    have hrd : rdOf ByteArray.empty L (i : Int) = z := by simp [rdOf, List.getD_eq_getElem?_getD, hz]
    rw [hdr, List.any_cons] at h
    cases b with
    | true =>
      refine Ev.step (f := fun k => beadlelaw18_MicroKnown.l0 k a2 W L true ((i + 1 : Nat) : Int)) (fun k => ?_) (ih (i + 1) true (by omega) (by simpa using h))
      rw [beadlelaw18_MicroKnown.l0, if_pos (by omega), if_pos rfl, w64 (by omega) (by omega)]
      rfl
    | false =>
      refine Ev.step (f := fun k => beadlelaw18_MicroKnown.l0 k a2 W L (z.toList == W.toList) ((i + 1 : Nat) : Int)) (fun k => ?_) (ih (i + 1) _ (by omega) (by simpa using h))
      rw [beadlelaw18_MicroKnown.l0, if_pos (by omega), if_neg (by decide), if_pos (by omega), hrd, w64 (by omega) (by omega)]
      rfl
theorem known_j0 (l : List UInt8) (hl : l.length ≤ 1048576) : Ev (fun k => beadlelaw18_MicroKnown.j0 k (ofL l) false) true := by
  obtain ⟨hw, hr⟩ := kind_word l
  have hs : (ofL l).size = l.length := ofL_size l
  have hK : micro_Known.f (ofL l) = some (Lib.containsS knownWords (ofL (l.take (pos l)))) := by
    unfold micro_Known.f
    rw [if_pos ⟨by omega, by omega⟩, hw]
  have hV : Lib.containsS knownWords (ofL (l.take (pos l))) = false → micro_Valid.f (ofL l) ⟨#[]⟩ = some false := fun h => valid_unknown (ofL l) (by omega) (by omega) (by rw [hw]; exact h)
  obtain ⟨out2, hk⟩ := ref_kinds l hl
  refine Ev.step (f := fun k => (beadleref16_Kinds.f k (ofL l)).bind fun bt248 => (beadlelaw18_MicroKnown.l0 k (ofL l) bt248.1 knownWords false 0)) (fun k => by rw [beadlelaw18_MicroKnown.j0, if_neg (by decide)]; rfl) ?_
  refine Ev.bind hk ?_
  refine known_loop (ofL l) (ofL (l.take (pos l))) _ hK hV knownWords (by decide) 18 0 false rfl ?_
  rw [Bool.false_or, List.drop_zero, Bool.eq_iff_iff, Lib.containsS_iff, List.any_eq_true]
  constructor
  · intro h; exact ⟨_, h, beq_self_eq_true _⟩
  · rintro ⟨z, hz, e⟩
    have : z = ofL (l.take (pos l)) := (blist_eq _ _).2 (beq_iff_eq.1 e)
    exact this ▸ hz
theorem MicroKnown : beadlelaw18_MicroKnown.Ask := by
  intro a0 a1 a2 _ _ _ hs
  have hl : a2.data.toList.length ≤ 1048576 := by have : a2.data.toList.length = a2.size := by rw [Array.length_toList]; rfl
                                                  omega
  rw [← ofL_self a2]
  obtain ⟨r1, r2, r3, r4, hA, hk⟩ := attribute_ok a0 a1
  have hAE : Ev (fun k => schema_Attribute.f k a0 a1) (r1, r2, r3, r4) := Ev.of (schema_Attribute.mono a0 a1) hA
  have hj := known_j0 a2.data.toList hl
  refine Ev.rounds ?_
  refine Ev.congr (f := fun k => (schema_Attribute.f k a0 a1).bind fun bt242 => (if bt242.2.2.2 = true then ((micro_Known.f bt242.2.1).bind fun t247 => (beadlelaw18_MicroKnown.j0 k (ofL a2.data.toList) (!t247))) else (beadlelaw18_MicroKnown.j0 k (ofL a2.data.toList) false))) (fun k => by rw [beadlelaw18_MicroKnown.f, speaks_known, Option.bind_some, if_pos rfl]) ?_
  refine Ev.bind hAE ?_
  cases r4 with
  | true =>
    simp only [if_true, hk rfl, Option.bind_some, Bool.not_true]
    exact hj
  | false =>
    simp only [Bool.false_eq_true, if_false]
    exact hj
end Go.Proofs.YtnfjohpecedpnaaGreatDoor.Pure
