/- MergeSorts, the plain law: the sorted list of any Diags is the document's. -/
import Derived.Test.YtkkdpkfachpjeaaAskMergeSorts
import Derived.Test.YtkkdpkfachpjeaaSortLaw
namespace Go.Proofs.Ytkkdpkfachpjeaa.Pure
open Go.Lib Go.RowKit Go.Proofs.Ytkkdpkfachpjeaa.PS Go.Proofs.Ytkkdpkfachpjeaa.OrdS Go.Proofs.YtkkdpkfachpjeaaW.PrintWords Go.Proofs.YtkkdpkfachpjeaaW.PrintLast

theorem w64 {n : Int} (h0 : -9223372036854775808 ≤ n) (h1 : n ≤ 9223372036854775807) : wrap64 n = n := by unfold wrap64; omega
abbrev t27 (x : S23) : S27 := ⟨x.f0, x.f1, x.f2⟩
abbrev t29 (x : S23) : S29 := ⟨x.f0, x.f1, x.f2⟩
abbrev u27 (x : S29) : S27 := ⟨x.f0, x.f1, x.f2⟩
theorem rd23 {l : List S23} {i : Nat} (h : i < l.length) : rd_T23 l (i : Int) = l[i] := by
  unfold rd_T23
  rw [Int.toNat_natCast, List.getD_eq_getElem?_getD, List.getElem?_eq_getElem h]
  rfl
theorem rd27 {l : List S27} {i : Nat} (h : i < l.length) : rd_T27 l (i : Int) = l[i] := by
  unfold rd_T27
  rw [Int.toNat_natCast, List.getD_eq_getElem?_getD, List.getElem?_eq_getElem h]
  rfl
theorem rd29 {l : List S29} {i : Nat} (h : i < l.length) : rd_T29 l (i : Int) = l[i] := by
  unfold rd_T29
  rw [Int.toNat_natCast, List.getD_eq_getElem?_getD, List.getElem?_eq_getElem h]
  rfl
/-! ### made -/
theorem made_ev (l : List S23) (d : Nat) : ∀ i, i + d = min l.length 2000 → Ev (fun k => beadlelaw06_made.l0 k l ((l.take i).map t27) ((l.take i).map t29) (i : Int)) ((l.take 2000).map t27, (l.take 2000).map t29) := by
  induction d with
  | zero =>
    intro i hi
    have e : l.take i = l.take 2000 := by
      by_cases h : l.length ≤ 2000
      · rw [List.take_of_length_le (by omega), List.take_of_length_le h]
      · rw [show i = 2000 from by omega]
    rw [e]
    refine Ev.step (fun k => ?_) (Ev.now _)
    rw [beadlelaw06_made.l0]
    by_cases h : (i : Int) < (l.length : Int)
    · rw [if_pos h, if_neg (by omega)]
    · rw [if_neg h]
  | succ d ih =>
    intro i hi
    have hlt : i < l.length := by omega
    have e27 : (l.take (i + 1)).map t27 = (l.take i).map t27 ++ [t27 l[i]] := by rw [List.take_succ_eq_append_getElem hlt, List.map_append]; rfl
    have e29 : (l.take (i + 1)).map t29 = (l.take i).map t29 ++ [t29 l[i]] := by rw [List.take_succ_eq_append_getElem hlt, List.map_append]; rfl
    have hgo := ih (i + 1) (by omega)
    rw [e27, e29] at hgo
    have h1 : ((l.take i).map t27).length = i := by rw [List.length_map, List.length_take]; omega
    have h2 : ((l.take i).map t29).length = i := by rw [List.length_map, List.length_take]; omega
    refine Ev.step (fun k => ?_) hgo
    rw [beadlelaw06_made.l0, if_pos (by omega), if_pos (by omega), if_pos (by omega), if_pos (by rw [h1]; omega), if_pos (by rw [h2]; omega), rd23 hlt, w64 (by omega) (by omega)]
    rfl
/-! ### the document's Sort -/
def ahead (x y : S29) : Bool := lt27 (u27 x) (u27 y)
theorem ahead_f (x y : S29) : beadleref06_Ahead.f x.f0 x.f1 x.f2 y.f0 y.f1 y.f2 = some (ahead x y) := ref_eq ..
theorem u27_inj {x y : S29} (h : u27 x = u27 y) : x = y := by
  obtain ⟨a, b, c⟩ := x
  obtain ⟨a', b', c'⟩ := y
  simp only [u27, S27.mk.injEq] at h
  obtain ⟨rfl, rfl, rfl⟩ := h
  rfl
def Rise29 (l : List S29) : Prop := Rise (l.map u27)
/-- Where x is laid. -/
theorem place_ev (b out : List S29) (i : Nat) (hi : i < b.length) (hb : b.length ≤ 100000) (ho : out.length ≤ 100000) (hr : Rise29 out) (v : List S29) (d : Nat)
    (hv : ∀ out', Rise29 out' → out'.length ≤ out.length + 1 → (∀ x, x ∈ out' ↔ x ∈ out ∨ x = b[i]) → Ev (fun k => beadleref06_Sort.l0 k b out' ((i + 1 : Nat) : Int)) v) :
    ∀ j, j + d = out.length → (∀ q (h : q < out.length), q < j → ahead out[q] b[i] = true) → Ev (fun k => beadleref06_Sort.l1 k b out (i : Int) (j : Int)) v := by
  have hrp := List.pairwise_map.1 hr
  have hlay : ∀ j, j ≤ out.length → (∀ q (h : q < out.length), q < j → ahead out[q] b[i] = true) → (∀ q (h : q < out.length), j ≤ q → ahead b[i] out[q] = true) → Ev (fun k => beadleref06_Sort.l0 k b ((([] : List S29) ++ out.take j ++ [b[i]]) ++ out.drop j) ((i + 1 : Nat) : Int)) v := by
    intro j hj h1 h2
    refine hv _ ?_ ?_ ?_
    · show Rise (((([] : List S29) ++ out.take j ++ [b[i]]) ++ out.drop j).map u27)
      rw [Rise, List.pairwise_map, List.nil_append, List.append_assoc, List.pairwise_append]
      refine ⟨hrp.sublist (List.take_sublist _ _), ?_, ?_⟩
      · rw [List.singleton_append, List.pairwise_cons]
        refine ⟨fun x hx => ?_, hrp.sublist (List.drop_sublist _ _)⟩
        obtain ⟨q, hq, rfl⟩ := List.getElem_of_mem hx
        rw [List.getElem_drop]
        exact h2 (j + q) (by rw [List.length_drop] at hq; omega) (by omega)
      · intro x hx y hy
        obtain ⟨q, hq, rfl⟩ := List.getElem_of_mem hx
        rw [List.length_take] at hq
        rw [List.getElem_take]
        have hxb := h1 q (by omega) (by omega)
        rw [List.singleton_append] at hy
        rcases List.mem_cons.1 hy with rfl | hy
        · exact hxb
        · obtain ⟨p, hp, rfl⟩ := List.getElem_of_mem hy
          rw [List.getElem_drop]
          exact lt27_trans hxb (h2 (j + p) (by rw [List.length_drop] at hp; omega) (by omega))
    · simp
      omega
    · intro x
      rw [List.nil_append, List.mem_append, List.mem_append, List.mem_singleton]
      constructor
      · rintro ((h | h) | h)
        · exact .inl (List.mem_of_mem_take h)
        · exact .inr h
        · exact .inl (List.mem_of_mem_drop h)
      · rintro (h | h)
        · rw [← List.take_append_drop j out, List.mem_append] at h
          rcases h with h | h
          · exact .inl (.inl h)
          · exact .inr h
        · exact .inl (.inr h)
  induction d with
  | zero =>
    intro j hj h1
    obtain rfl : j = out.length := by omega
    refine Ev.step (fun k => ?_) (hlay out.length (Nat.le_refl _) h1 (fun q h hq => absurd h (by omega)))
    rw [beadleref06_Sort.l1, if_neg (by omega), if_pos (by omega), if_pos (by omega), Option.bind_some, Int.toNat_natCast, if_pos (by simp; omega), Option.bind_some, if_pos (by omega), if_pos (by omega), if_pos (by simp; omega), Option.bind_some, Option.bind_some, if_pos (by simp; omega), w64 (by omega) (by omega), rd29 hi]
    rfl
  | succ d ih =>
    intro j hj h1
    have hlt : j < out.length := by omega
    have heq := eq27 (u27 out[j]) (u27 b[i])
    have hah := ahead_f out[j] b[i]
    cases ha : ahead out[j] b[i] with
    | true =>
      rw [ha] at hah
      refine Ev.step (fun k => ?_) (ih (j + 1) (by omega) (fun q h hq => by
        by_cases e : q = j
        · subst e; exact ha
        · exact h1 q h (by omega)))
      rw [beadleref06_Sort.l1, if_pos (by omega), if_pos (by omega), if_pos (by omega), if_pos (by omega), rd29 hlt, rd29 hi, hah, Option.bind_some, if_pos rfl, w64 (by omega) (by omega)]
      rfl
    | false =>
      rw [ha] at hah
      by_cases e : u27 out[j] = u27 b[i]
      · rw [decide_eq_true e] at heq
        have e2 := u27_inj e
        refine Ev.step (fun k => ?_) (hv out hr (by omega) (fun x => ⟨fun h => .inl h, fun h => by
          rcases h with h | h
          · exact h
          · rw [h, ← e2]; exact List.getElem_mem _⟩))
        rw [beadleref06_Sort.l1, if_pos (by omega), if_pos (by omega), if_pos (by omega), if_pos (by omega), rd29 hlt, rd29 hi, hah, Option.bind_some, if_neg Bool.false_ne_true, if_pos heq, w64 (by omega) (by omega)]
        rfl
      · rw [decide_eq_false e] at heq
        have hb1 : ahead b[i] out[j] = true := by
          rcases lt27_tri (u27 out[j]) (u27 b[i]) with h | h | h
          · rw [show ahead out[j] b[i] = true from h] at ha; cases ha
          · exact absurd h e
          · exact h
        refine Ev.step (fun k => ?_) (hlay j (by omega) h1 (fun q h hq => by
          by_cases e : q = j
          · subst e; exact hb1
          · exact lt27_trans hb1 (List.pairwise_iff_getElem.1 hrp j q hlt h (by omega))))
        rw [beadleref06_Sort.l1, if_pos (by omega), if_pos (by omega), if_pos (by omega), if_pos (by omega), rd29 hlt, rd29 hi, hah, Option.bind_some, if_neg Bool.false_ne_true, if_neg (by rw [heq]; decide), if_pos (by omega), Option.bind_some, Int.toNat_natCast, if_pos (by simp; omega), Option.bind_some, if_pos (by simp; omega), Option.bind_some, Option.bind_some, if_pos (by simp; omega), w64 (by omega) (by omega)]
        rfl
def w29 (x : S27) : S29 := ⟨x.f0, x.f1, x.f2⟩
theorem back29 (l : List S29) : (l.map u27).map w29 = l := by
  rw [List.map_map]
  exact List.map_id l
theorem there27 (l : List S27) : (l.map w29).map u27 = l := by
  rw [List.map_map]
  exact List.map_id l
theorem uniq29 (a b : List S29) (ha : Rise29 a) (hb : Rise29 b) (h : ∀ x, x ∈ a ↔ x ∈ b) : a = b := by
  have e := rise_unique _ _ ha hb (fun y => by
    rw [List.mem_map, List.mem_map]
    exact ⟨fun ⟨x, hx, e⟩ => ⟨x, (h x).1 hx, e⟩, fun ⟨x, hx, e⟩ => ⟨x, (h x).2 hx, e⟩⟩)
  rw [← back29 a, e, back29]
theorem ref_ev (b v : List S29) (hb : b.length ≤ 100000) (hv : Rise29 v) (hvm : ∀ x, x ∈ v ↔ x ∈ b) (d : Nat) : ∀ i (out : List S29), i + d = b.length → Rise29 out → out.length ≤ i → (∀ x, x ∈ out ↔ x ∈ b.take i) → Ev (fun k => beadleref06_Sort.l0 k b out (i : Int)) v := by
  induction d with
  | zero =>
    intro i out hi hr hl hm
    obtain rfl : i = b.length := by omega
    have e : out = v := uniq29 out v hr hv (fun x => by rw [hm x, List.take_length, hvm x])
    subst e
    refine Ev.step (fun k => ?_) (Ev.now _)
    rw [beadleref06_Sort.l0, if_neg (by omega)]
  | succ d ih =>
    intro i out hi hr hl hm
    have hlt : i < b.length := by omega
    have htk : b.take (i + 1) = b.take i ++ [b[i]] := List.take_succ_eq_append_getElem hlt
    have hgo := place_ev b out i hlt hb (by omega) hr v out.length (fun out' h1 h2 h3 => ih (i + 1) out' (by omega) h1 (by omega) (fun x => by
      rw [h3 x, hm x, htk, List.mem_append, List.mem_singleton])) 0 (by omega) (fun q h hq => absurd hq (by omega))
    refine Ev.step (fun k => ?_) hgo
    rw [beadleref06_Sort.l0, if_pos (by omega)]
    rfl
/-! ### the same -/
theorem same_ev (a : List S27) (b : List S29) (h : b.map u27 = a) (hl : a.length ≤ 100000) (d : Nat) : ∀ i, i + d = a.length → Ev (fun k => beadlelaw06_same.l0 k a b (i : Int)) true := by
  have hlen : a.length = b.length := by rw [← h, List.length_map]
  induction d with
  | zero =>
    intro i hi
    refine Ev.step (fun k => ?_) (Ev.now _)
    rw [beadlelaw06_same.l0, if_neg (by omega)]
  | succ d ih =>
    intro i hi
    have hlt : i < a.length := by omega
    have hltb : i < b.length := by omega
    have e : a[i] = u27 b[i] := by
      have e2 : a[i]? = (b.map u27)[i]? := by rw [h]
      rw [List.getElem?_map, List.getElem?_eq_getElem hlt, List.getElem?_eq_getElem hltb] at e2
      exact Option.some.inj e2
    refine Ev.step (fun k => ?_) (ih (i + 1) (by omega))
    rw [beadlelaw06_same.l0, if_pos (by omega), if_pos (by omega), if_pos (by omega), rd27 hlt, rd29 hltb, e, if_pos rfl, if_pos rfl, if_pos rfl, w64 (by omega) (by omega)]
    rfl
theorem same_f (a : List S27) (b : List S29) (h : b.map u27 = a) (hl : a.length ≤ 100000) : Ev (fun k => beadlelaw06_same.f k a b) true := by
  have hlen : a.length = b.length := by rw [← h, List.length_map]
  refine Ev.congr (fun k => ?_) (same_ev a b h hl a.length 0 (by omega))
  rw [beadlelaw06_same.f, if_pos (by omega)]
  rfl
theorem sortD_len (l : List S27) : (sortD l).length ≤ l.length := by
  have h := compact_le (ms l).toArray
  have e : (ms l).toArray.size = (ms l).length := by simp
  rw [e, ms_len] at h
  unfold sortD
  rw [ms_len]
  exact h
theorem MergeSorts : beadlelaw06_MergeSorts.Ask := by
  intro l _ _
  refine Ev.rounds (g := fun k => beadlelaw06_MergeSorts.f k l) ?_
  have h1 : merge_Sort.f ([(⟨0, 1, (⟨#[]⟩ : ByteArray)⟩ : S27), (⟨0, 1, (⟨#[]⟩ : ByteArray)⟩ : S27)] : List (S27)) = some [⟨0, 1, ⟨#[]⟩⟩] := by
    unfold merge_Sort.f
    rw [if_pos (by decide), sortD_eq (b := [⟨0, 1, ⟨#[]⟩⟩]) (List.pairwise_singleton _ _) (fun x => by simp)]
  obtain ⟨a, ha⟩ : ∃ a, a = (l.take 2000).map t27 := ⟨_, rfl⟩
  obtain ⟨b, hb⟩ : ∃ b, b = (l.take 2000).map t29 := ⟨_, rfl⟩
  have hab : b.map u27 = a := by
    rw [ha, hb, List.map_map]
    rfl
  have hal : a.length ≤ 2000 := by rw [ha, List.length_map, List.length_take]; omega
  have hbl : b.length ≤ 2000 := by rw [hb, List.length_map, List.length_take]; omega
  have hmade : Ev (fun k => beadlelaw06_made.f k l) (a, b) := by
    rw [ha, hb]
    exact made_ev l (min l.length 2000) 0 (by omega)
  have hsort : merge_Sort.f a = some (sortD a) := by
    unfold merge_Sort.f
    rw [if_pos (by omega)]
  have hv : Rise29 ((sortD a).map w29) := by
    show Rise (((sortD a).map w29).map u27)
    rw [there27]
    exact sortD_rise a
  have hvm : ∀ x, x ∈ (sortD a).map w29 ↔ x ∈ b := fun x => by
    rw [List.mem_map]
    constructor
    · rintro ⟨y, hy, rfl⟩
      have := (sortD_mem a y).1 hy
      rw [← hab, List.mem_map] at this
      obtain ⟨z, hz, rfl⟩ := this
      exact hz
    · intro hx
      refine ⟨u27 x, (sortD_mem a _).2 ?_, rfl⟩
      rw [← hab]
      exact List.mem_map_of_mem hx
  have href : Ev (fun k => beadleref06_Sort.f k b) ((sortD a).map w29) := ref_ev b _ (by omega) hv hvm b.length 0 [] (by omega) List.Pairwise.nil (Nat.le_refl _) (fun x => by simp)
  have hsame1 := same_f (sortD a) ((sortD a).map w29) (there27 _) (by have := sortD_len a; omega)
  have hsame2 := same_f a b hab (by omega)
  refine Ev.congr (f := fun k => (beadlelaw06_made.f k l).bind fun bt180 => ((merge_Sort.f bt180.1).bind fun t186 => ((beadleref06_Sort.f k bt180.2).bind fun t189 => ((beadlelaw06_same.f k t186 t189).bind fun t192 => (if t192 = true then ((beadlelaw06_same.f k bt180.1 bt180.2).bind fun t193 => (some t193)) else (some false)))))) (fun k => ?_) (Ev.bind hmade ?_)
  · rw [beadlelaw06_MergeSorts.f, h1, Option.bind_some, if_pos (by decide)]
  · simp only [hsort, Option.bind_some]
    refine Ev.bind href ?_
    refine Ev.bind hsame1 ?_
    simp only [if_true]
    exact Ev.bind hsame2 (Ev.now _)
end Go.Proofs.Ytkkdpkfachpjeaa.Pure
