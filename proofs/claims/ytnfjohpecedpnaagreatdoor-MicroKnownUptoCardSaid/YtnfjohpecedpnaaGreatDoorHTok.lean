/- query.blank, query.Tokens, schema.Kinds, micro.plain at any texts. -/
import Derived.Test.YtnfjohpecedpnaaGreatDoorHInt
import Derived.Shelf.Strings.FieldsFuncAny
namespace Go.Proofs.YtnfjohpecedpnaaGreatDoor.PM
open Go.RowKit Go.Lib Go.Proofs.YtnfjohpecedpnaaGreatDoor.Glob Go.Proofs.YtnfjohpecedpnaaGreatDoorW.PrintWords Go.Proofs.YtnfjohpecedpnaaGreatDoorW.PrintLast Go.Proofs.YtnfjohpecedpnaaGreatDoorW.PrintMore

def blankP (x : Nat) : Bool := x == 9 || x == 10 || x == 12 || x == 13 || x == 32
set_option maxRecDepth 100000 in
set_option maxHeartbeats 4000000 in
theorem blank_walk (W : World) (x : Nat) (hx : x ≤ 1114111) : Calls Tryz.prog 45 #[.int .i32 (x : Int)] W fun e w' => e = .returned (.bool (blankP x)) ∧ ∃ q, w' = W.drewN q := by
  by_cases h : x = 9 ∨ x = 10 ∨ x = 12 ∨ x = 13 ∨ x = 32
  · rcases h with rfl | rfl | rfl | rfl | rfl
    all_goals
      rw [show blankP _ = true from rfl]
      go_enter Tryz.func45, Tryz.ntmps45
      go_wp2
      go_ret
      exact ⟨rfl, 0, rfl⟩
  · have h1 : ((x : Int) == 9) = false := by simp; omega
    have h2 : ((x : Int) == 10) = false := by simp; omega
    have h3 : ((x : Int) == 12) = false := by simp; omega
    have h4 : ((x : Int) == 13) = false := by simp; omega
    have h5 : ((x : Int) == 32) = false := by simp; omega
    rw [show blankP x = false by simp [blankP]; omega]
    clear h
    go_enter Tryz.func45, Tryz.ntmps45
    go_wp2
    go_ret
    exact ⟨rfl, 0, rfl⟩
theorem blank_gives (w : World) : PredAtRunes Tryz.prog 45 #[] blankP w := fun W x hx _ => blank_walk W x hx

/-- The words of a text, as strings.FieldsFunc cuts it at query.blank. -/
def wordsOf (s : ByteArray) : List ByteArray := Lib.goFieldsP blankP s
theorem fields_calls (s : ByteArray) (w : World) (hs : s.size ≤ 4294967296) : Calls Tryz.prog 44 #[.string s, .func (.func 45) #[] #[]] w fun e w' => ∃ A, e = .returned (.slice (some ⟨A, 0, none⟩) (wordsOf s).length (wordsOf s).length) ∧ w.heap.size ≤ A ∧
      w'.ownsRow w.heap.size 9 1 (.slice (some ⟨A, 0, none⟩) (wordsOf s).length (wordsOf s).length) (wordsOf s).length ((wordsOf s).map Value.string) ∧ Below w.heap.size w w' :=
  Any.strings_FieldsFunc_runes Tryz.lays229 45 #[] (enters_of Tryz.func45 (by kernel_rfl) rfl) blankP s w hs (blank_gives w) (by kernel_rfl) (by kernel_rfl)
theorem contains_own {wx : World} {B : Nat} {v : Value} {xs : List ByteArray} (h : wx.ownsRow B 9 1 v xs.length (xs.map Value.string)) (x : ByteArray) : Calls Tryz.prog 19 #[v, .string x] wx fun e w' => e = .returned (.bool (Lib.containsS xs x)) ∧ w' = wx := by
  rcases h.2 with ⟨rfl, h0⟩ | ⟨g, cap, cur, rfl, hb, hg, hc, hm, hz, ht⟩
  · obtain rfl : xs = [] := List.eq_nil_of_length_eq_zero h0
    refine (Tryz.slices_Contains_string_empty none 0 x wx).mono fun e w' he => ?_
    rw [show Lib.containsS [] x = false from rfl]
    exact he
  · have := Tryz.slices_Contains_string g 0 xs.length cap xs x wx (Nat.le_refl _) (by unfold maxLen at hm; omega) (fun j hj => by
      have := h.cellAt j (by omega)
      rw [Nat.zero_add, this, List.getElem?_map, List.getElem?_eq_getElem hj]
      simp [List.getD, List.getElem?_eq_getElem hj])
    rwa [List.take_length] at this
def tokD : List ByteArray → List ByteArray → List ByteArray
  | [], out => out
  | x :: r, out => tokD r (if Lib.containsS out x = true then out else out ++ [x])
def tokens (s : ByteArray) : List ByteArray := tokD (wordsOf s) []
theorem own_mono {w : World} {base base' : Nat} {e : TypeId} {size : Nat} {v : Value} {n : Nat} {xs : List Value} (h : w.ownsRow base e size v n xs) (hb : base' ≤ base) : w.ownsRow base' e size v n xs := by
  refine ⟨h.1, ?_⟩
  rcases h.2 with h0 | ⟨g, cap, cur, hv, hb', rest⟩
  · exact .inl h0
  · exact .inr ⟨g, cap, cur, hv, Nat.le_trans hb hb', rest⟩
theorem spans_len (p : Nat → Bool) (s : ByteArray) : ∀ (f pos : Nat) (st : Option Nat) (acc : List (Nat × Nat)), (Lib.spansFromP p s f pos st acc).1.length ≤ acc.length + f
  | 0, _, _, _ => Nat.le_refl _
  | f + 1, pos, st, acc => by
    unfold Lib.spansFromP
    split
    · split <;> cases st <;> simp only
      · have := spans_len p s f (pos + (Utf8.decode s pos).2) none acc; omega
      · rename_i a; have := spans_len p s f (pos + (Utf8.decode s pos).2) none (acc ++ [(a, pos)]); simp only [List.length_append, List.length_cons, List.length_nil] at this; omega
      · have := spans_len p s f (pos + (Utf8.decode s pos).2) (some pos) acc; omega
      · rename_i a; have := spans_len p s f (pos + (Utf8.decode s pos).2) (some a) acc; omega
    · show acc.length ≤ _; omega
theorem words_len (s : ByteArray) : (wordsOf s).length ≤ s.size + 1 := by
  unfold wordsOf Lib.goFieldsP Lib.spansOfP Lib.closeSpans
  rw [List.length_map]
  have := spans_len blankP s s.size 0 none []
  split <;> simp_all <;> omega
set_option maxRecDepth 100000 in
set_option maxHeartbeats 4000000 in
theorem tokens_walk (s : ByteArray) (w : World) (hs : s.size ≤ 4294967296) : Calls Tryz.prog 18 #[.string s] w fun e w' => ∃ v, e = .returned v ∧ w'.ownsRow w.heap.size 9 1 v (tokens s).length ((tokens s).map Value.string) ∧ Below w.heap.size w w' := by
  have hF := fields_calls s w hs
  have hlen := words_len s
  obtain ⟨F, hFe⟩ : ∃ F, wordsOf s = F := ⟨_, rfl⟩
  have ht : tokens s = tokD F [] := by rw [tokens, hFe]
  rw [ht]
  rw [hFe] at hF hlen
  obtain ⟨T, hT⟩ : ∃ T, tokD F [] = T := ⟨_, rfl⟩
  rw [hT]
  have hle : F.length ≤ 4294967297 := Nat.le_trans hlen (Nat.add_le_add_right hs 1)
  have HL := Aside0.mk hle
  have HT := Aside0.mk hT
  obtain ⟨i0, hi, hz0, hz1, hz2⟩ := info_parts (P := Tryz.prog) (e := 9) (z := .string ⟨#[]⟩) (size := 1) (bytes := 16) (by kernel_rfl)
  have HI := Aside0.mk hi
  have HZ0 := Aside0.mk hz0
  have HZ1 := Aside0.mk hz1
  have HZ2 := Aside0.mk hz2
  clear hlen hs hFe ht hT hi hz0 hz1 hz2
  go_enter Tryz.func18, Tryz.ntmps18
  go_wp2_with (go_at_call 44; refine hF.mono ?_; rintro e w1 ⟨A, rfl, hA, hO, hB⟩; have O1 := Aside0.mk hO; have B1 := Aside0.mk hB; have A1 := Aside0.mk hA; clear hO hB hA)
  go_loopg [3, 9] F.length (fun gf s3 s9 wx => ∃ (i : Nat) (out : List ByteArray), s9 = .int .i64 (i : Int) ∧ i ≤ F.length ∧ Aside0 (gf + i = F.length) ∧ Aside0 (wx.ownsRow w1.heap.size 9 1 s3 out.length (out.map Value.string)) ∧ Aside0 (Below w1.heap.size w1 wx) ∧ Aside0 (tokD (F.drop i) out = T) ∧ Aside0 (out.length ≤ i))
  case atStart => exact ⟨0, [], rfl, Nat.zero_le _, ⟨by omega⟩, ⟨World.ownsRow_nil _ _ _ _⟩, ⟨Below.refl _ _⟩, HT, ⟨Nat.le_refl _⟩⟩
  case round =>
    obtain ⟨i, out, rfl, hin, HM, HO, HB, HD, HN⟩ := hrel
    by_cases hlt : i < F.length
    · obtain ⟨x, hx⟩ : ∃ x, F[i]? = some x := ⟨_, List.getElem?_eq_getElem hlt⟩
      have hcl : wr.cell? ⟨A, i, none⟩ = some (.string x) := by
        have h1 := O1.out.cellAt i (by omega)
        rw [List.getElem?_map, hx] at h1
        exact (HB.out.cell (World.block_lt_of_cell? w1 _ h1)).trans h1
      have hcon := contains_own HO.out x
      have hdr := HD.out
      rw [List.drop_eq_getElem_cons hlt, tokD, show F[i] = x from (List.getElem?_eq_some_iff.1 hx).2] at hdr
      have HLT := Aside0.mk hlt
      cases hc : Lib.containsS out x with
      | true =>
        rw [hc] at hcon hdr
        have HDR := Aside0.mk hdr
        clear hdr hx hc
        go_wp2_with (go_at_call 19; refine hcon.mono ?_; rintro e w2 ⟨rfl, rfl⟩)
        go_roundg (gk - 1)
        case measure => have := HM.out; have := HLT.out; omega
        case rel => exact ⟨i + 1, out, by have := HL.out; have := HLT.out; go_num, HLT.out, ⟨by have := HM.out; have := HLT.out; omega⟩, HO, HB, HDR, ⟨by have := HN.out; omega⟩⟩
      | false =>
        rw [hc] at hcon hdr
        have HDR := Aside0.mk hdr
        clear hdr hx hc
        go_wp2_with (first
          | (go_at_call 19; refine hcon.mono ?_; rintro e w2 ⟨rfl, rfl⟩)
          | (at_builtin; refine wpList_append_own _ rfl _ _ 34 rfl w1.heap.size 9 i0 _ 1 16 Tryz.underlying34 HI.out HZ0.out HZ1.out HZ2.out rfl (by decide) _ _ _ rfl (World.ownsRow.alloc HO.out _) ⟨_, 0, none⟩ 1 1 [.string x] rfl rfl ?ca1 ?ca2 ?ca3 ?ca4 ?ca5 ?_))
        case ca1 =>
          intro j u hj
          match j, hj with
          | 0, hj => simp at hj; subst hj; simp [Addr.add]
          | (j + 1), hj => simp at hj
        case ca2 => intro u hu; simp at hu; subst hu; rfl
        case ca3 => have h1 := HN.out; unfold maxLen; omega
        case ca4 => have h1 := HN.out; omega
        case ca5 => have h1 := HB.out.size; simp; omega
        intro v3 w3 hown3 hgrow3 hnil3
        have O3 := Aside0.mk hown3
        have B3 := Aside0.mk ((HB.out.alloc HB.out.size (.cells #[.string x] 9)).grown hgrow3 (by have := HB.out.size; simp; omega) (fun j hj => ((World.ownsRow.alloc HO.out (.cells #[.string x] 9)).lt j hj).1))
        clear hown3 hgrow3 hnil3
        go_wp2
        go_roundg (gk - 1)
        case measure => have := HM.out; have := HLT.out; omega
        case rel =>
          refine ⟨i + 1, out ++ [x], by go_num, HLT.out, ⟨by have := HM.out; have := HLT.out; omega⟩, ⟨?_⟩, B3, HDR, ⟨by have := HN.out; simp; omega⟩⟩
          have := O3.out
          rwa [List.length_append, List.map_append]
    · obtain rfl : i = F.length := by omega
      have hr := HD.out
      rw [List.drop_length, tokD] at hr
      subst hr
      go_wp2
      go_ret
      exact ⟨_, rfl, own_mono HO.out B1.out.size, B1.out.trans (HB.out.mono B1.out.size)⟩
end Go.Proofs.YtnfjohpecedpnaaGreatDoor.PM
