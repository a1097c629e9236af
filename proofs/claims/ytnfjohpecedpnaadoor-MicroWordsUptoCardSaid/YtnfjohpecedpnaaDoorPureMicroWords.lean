/- MicroWords in plain words: words with blanks between are tokens just where none comes twice, and ids where there is one; one alone is an id. -/
import Derived.Test.YtnfjohpecedpnaaDoorPMx7
import Derived.Test.YtnfjohpecedpnaaDoorValidAt
import Derived.Test.YtnfjohpecedpnaaDoorAskMicroWords
import Derived.Laws.BitsLemmas
set_option linter.unusedVariables false
namespace Go.Proofs.YtnfjohpecedpnaaDoor.Pure
open Go Go.RowKit Go.Proofs.YtnfjohpecedpnaaDoor.PM Go.Proofs.YtnfjohpecedpnaaDoor.Scan Go.Proofs.YtnfjohpecedpnaaDoor.Words Go.Proofs.YtnfjohpecedpnaaDoorW.PrintWords Go.Proofs.YtnfjohpecedpnaaDoorW.PrintLast
theorem and7 (x : Int) : 0 ≤ bits .and .i64 x 7 ∧ bits .and .i64 x 7 ≤ 7 := by
  have h : bits .and .i64 x 7 = IntKind.i64.wrap (((BitVec.ofInt 64 x) &&& 7#64).toNat : Int) := rfl
  have h2 : ((BitVec.ofInt 64 x) &&& 7#64).toNat < 2 ^ 3 := by
    rw [BitVec.toNat_and]
    exact Nat.and_lt_two_pow _ (by decide)
  rw [h, IntKind.wrap_i64]
  omega
def b7 (x : Int) : Int := bits .and .i64 x 7
/-- The word of a number. -/
def wd (x : Int) : List UInt8 := [119, UInt8.ofNat (48 + (b7 x).toNat)]
theorem wd_text (x : Int) : ((⟨#[119]⟩ : ByteArray) ++ strOfNums [(wrap64 (48 + (bits .and .i64 x 7))) % 256]) = ofL (wd x) := by
  have h := and7 x
  rw [w64 (by omega) (by omega), show (48 + bits .and .i64 x 7) % 256 = 48 + bits .and .i64 x 7 by omega]
  apply ByteArray.ext
  apply Array.toList_inj.1
  rw [ofL_data, ByteArray.data_append, Array.toList_append, strOfNums_data]
  unfold wd b7
  obtain ⟨n, hn⟩ : ∃ n : Nat, bits .and .i64 x 7 = (n : Int) := ⟨_, (Int.toNat_of_nonneg h.1).symm⟩
  rw [hn, List.map_cons, List.map_nil, show (48 + (n : Int)).toNat = 48 + n by omega, Int.toNat_natCast]
  rfl
theorem wd_inj {x y : Int} : wd x = wd y ↔ b7 x = b7 y := by
  have h1 := and7 x
  have h2 := and7 y
  constructor
  · intro h
    unfold wd at h
    injection h with _ h
    injection h with h _
    have := congrArg UInt8.toNat h
    simp only [UInt8.toNat_ofNat'] at this
    unfold b7 at *
    omega
  · intro h
    unfold wd
    rw [h]
theorem wd_plain (x : Int) : ∀ c ∈ wd x, isB c = false := by
  have h := and7 x
  intro c hc
  unfold wd at hc
  rcases List.mem_cons.1 hc with rfl | hc
  · decide
  · rw [List.mem_singleton] at hc
    subst hc
    unfold isB blankP
    have : (UInt8.ofNat (48 + (b7 x).toNat)).toNat = 48 + (b7 x).toNat := by rw [UInt8.toNat_ofNat']; unfold b7; omega
    rw [this]
    simp
    omega
/-- What stands between two words. -/
def gap (y : Int) : List UInt8 := ([32, 9, 10, 32, 32] : List UInt8).take (1 + ((y.tmod 5 + 5).tmod 5)).toNat
theorem gap_rng (y : Int) (hy : (Lit.int .i64 y).wf = true) : 1 ≤ 1 + ((y.tmod 5 + 5).tmod 5) ∧ 1 + ((y.tmod 5 + 5).tmod 5) ≤ 5 ∧ wrap64 (1 + (Int.tmod (wrap64 ((Int.tmod y 5) + 5)) 5)) = 1 + ((y.tmod 5 + 5).tmod 5) := by
  have h1 : -5 < y.tmod 5 ∧ y.tmod 5 < 5 := by
    rcases Int.le_total 0 y with h | h
    · rw [Int.tmod_eq_emod_of_nonneg h]; omega
    · have := Int.neg_tmod (a := -y) (b := 5)
      rw [Int.neg_neg] at this
      rw [this, Int.tmod_eq_emod_of_nonneg (by omega)]
      omega
  have e1 : wrap64 (y.tmod 5 + 5) = y.tmod 5 + 5 := w64 (by omega) (by omega)
  have h2 : 0 ≤ (y.tmod 5 + 5).tmod 5 ∧ (y.tmod 5 + 5).tmod 5 < 5 := by rw [Int.tmod_eq_emod_of_nonneg (by omega)]; omega
  rw [e1]
  exact ⟨by omega, by omega, w64 (by omega) (by omega)⟩
theorem gap_text (y : Int) (hy : (Lit.int .i64 y).wf = true) : ((⟨#[32, 9, 10, 32, 32]⟩ : ByteArray).extract 0 ((wrap64 (1 + (Int.tmod (wrap64 ((Int.tmod y 5) + 5)) 5))) : Int).toNat) = ofL (gap y) := by
  rw [(gap_rng y hy).2.2, show (⟨#[32, 9, 10, 32, 32]⟩ : ByteArray) = ofL [32, 9, 10, 32, 32] from rfl, ofL_take]
  rfl
theorem gap_form (y : Int) (hy : (Lit.int .i64 y).wf = true) : ∃ c r, gap y = c :: r ∧ isB c = true ∧ (∀ d ∈ r, isB d = true) ∧ r.length ≤ 4 := by
  obtain ⟨h1, h2, _⟩ := gap_rng y hy
  unfold gap
  obtain ⟨n, hn⟩ : ∃ n, (1 + ((y.tmod 5 + 5).tmod 5)).toNat = n + 1 := ⟨(1 + ((y.tmod 5 + 5).tmod 5)).toNat - 1, by omega⟩
  rw [hn, List.take_succ_cons]
  refine ⟨_, _, rfl, by decide, fun d hd => ?_, by simp; omega⟩
  have hm := List.mem_of_mem_take hd
  have : ∀ d ∈ ([9, 10, 32, 32] : List UInt8), isB d = true := by decide
  exact this d hm
theorem fldL_blank : ∀ (bs r : List UInt8), (∀ d ∈ bs, isB d = true) → fldL (bs ++ r) [] = fldL r []
  | [], r, _ => rfl
  | b :: bs, r, h => by
    rw [List.cons_append, fldL, if_pos (h b (List.mem_cons_self ..)), if_pos rfl]
    exact fldL_blank bs r fun d hd => h d (List.mem_cons_of_mem _ hd)
theorem fldL_gap (y : Int) (hy : (Lit.int .i64 y).wf = true) (r cur : List UInt8) (hc : cur ≠ []) : fldL (gap y ++ r) cur = cur :: fldL r [] := by
  obtain ⟨c, bs, e, h1, h2, _⟩ := gap_form y hy
  rw [e, List.cons_append, fldL, if_pos h1, if_neg hc, fldL_blank bs r h2]
/-- The text of some numbers. -/
def textL (y : Int) : List Int → List UInt8
  | [] => []
  | x :: r => wd x ++ (r.flatMap fun z => gap y ++ wd z)
theorem fld_tail (y : Int) (hy : (Lit.int .i64 y).wf = true) : ∀ (r : List Int) (x : Int), fldL (r.flatMap fun z => gap y ++ wd z) (wd x) = wd x :: r.map wd
  | [], x => by rw [List.flatMap_nil, fldL, if_neg (by unfold wd; simp)]; rfl
  | z :: r, x => by
    rw [List.flatMap_cons, List.append_assoc, fldL_gap y hy _ _ (by unfold wd; simp), fldL_run _ _ _ (wd_plain z), List.nil_append, fld_tail y hy r z]
    rfl
theorem fld_text (y : Int) (hy : (Lit.int .i64 y).wf = true) (xs : List Int) : fldL (textL y xs) [] = xs.map wd := by
  cases xs with
  | nil => rfl
  | cons x r => rw [textL, fldL_run _ _ _ (wd_plain x), List.nil_append, fld_tail y hy r x]; rfl
theorem text_snoc (y : Int) (xs : List Int) (x : Int) (h : xs ≠ []) : textL y (xs ++ [x]) = textL y xs ++ (gap y ++ wd x) := by
  cases xs with
  | nil => exact absurd rfl h
  | cons z r => simp [textL]
theorem text_len (y : Int) (hy : (Lit.int .i64 y).wf = true) (xs : List Int) : (textL y xs).length ≤ 7 * xs.length := by
  have hg : (gap y).length ≤ 5 := by obtain ⟨c, bs, e, _, _, h⟩ := gap_form y hy; rw [e]; simp; omega
  have : ∀ r : List Int, (r.flatMap fun z => gap y ++ wd z).length ≤ 7 * r.length := by
    intro r
    induction r with
    | nil => simp
    | cons z r ih => rw [List.flatMap_cons, List.length_append, List.length_append, List.length_cons]; have : (wd z).length = 2 := rfl; omega
  cases xs with
  | nil => simp [textL]
  | cons x r => have := this r; rw [textL, List.length_append, List.length_cons]; have : (wd x).length = 2 := rfl; omega
def wb (x : Int) : ByteArray := ofL (wd x)
theorem words_text (y : Int) (hy : (Lit.int .i64 y).wf = true) (xs : List Int) : wordsOf (ofL (textL y xs)) = xs.map wb := by
  apply map_data_inj
  rw [words_list, ofL_data, fld_text y hy, List.map_map]
  exact List.map_congr_left fun x _ => (ofL_data _).symm
theorem contains_app (a b : List ByteArray) (x : ByteArray) : Lib.containsS (a ++ b) x = (Lib.containsS a x || Lib.containsS b x) := by
  rw [Bool.eq_iff_iff, Bool.or_eq_true, Lib.containsS_iff, Lib.containsS_iff, Lib.containsS_iff, List.mem_append]
theorem nodup_snoc : ∀ (xs out : List ByteArray) (x : ByteArray), nodup (xs ++ [x]) out = (nodup xs out && !Lib.containsS (out ++ xs) x)
  | [], out, x => by simp [nodup]
  | z :: r, out, x => by
    rw [List.cons_append, nodup, nodup_snoc r (out ++ [z]) x, nodup, Bool.and_assoc, List.append_assoc]
    rfl
theorem contains_wb (xs : List Int) (x : Int) : Lib.containsS (xs.map wb) (wb x) = xs.any fun z => b7 z == b7 x := by
  rw [Bool.eq_iff_iff, Lib.containsS_iff, List.any_eq_true]
  constructor
  · intro h
    obtain ⟨z, hz, e⟩ := List.mem_map.1 h
    exact ⟨z, hz, beq_iff_eq.2 (wd_inj.1 (ofL_inj.1 e))⟩
  · rintro ⟨z, hz, e⟩
    exact List.mem_map.2 ⟨z, hz, congrArg ofL (wd_inj.2 (beq_iff_eq.1 e))⟩
/-! The law's loops. -/
def twice (xs : List Int) : Bool := !nodup (xs.map wb) []
theorem twice_snoc (xs : List Int) (x : Int) : twice (xs ++ [x]) = (twice xs || xs.any fun z => b7 z == b7 x) := by
  unfold twice
  rw [List.map_append, List.map_cons, List.map_nil, nodup_snoc, List.nil_append, contains_wb]
  cases nodup (xs.map wb) [] <;> simp
theorem rd_at {l : List Int} {i : Nat} {x : Int} (h : l[i]? = some x) : rd l (i : Int) = x := by
  unfold rd
  rw [Int.toNat_natCast, List.getD_eq_getElem?_getD, h]
  rfl
/-- What the law asks at the end. -/
theorem last_step (l : List Int) (y : Int) (hy : (Lit.int .i64 y).wf = true) (m : Nat) (hm : m ≤ 20) (hml : m = min l.length 20) (k : Nat) :
    ((micro_Valid.f (⟨#[116, 111, 107, 101, 110, 115]⟩ : ByteArray) (ofL (textL y (l.take m)))).bind fun t233 => (if (l.length : Int) > 0 then (if (t233 == (!twice (l.take m))) = true then ((micro_Valid.f (⟨#[105, 100, 115]⟩ : ByteArray) (ofL (textL y (l.take m)))).bind fun t234 => (if (t234 == (decide ((l.length : Int) > 0))) = true then ((micro_Valid.f (⟨#[105, 100]⟩ : ByteArray) (ofL (textL y (l.take m)))).bind fun t235 => (some (t235 == ((l.length : Int) == 1)))) else (some false))) else (some false)) else (if (t233 == false) = true then ((micro_Valid.f (⟨#[105, 100, 115]⟩ : ByteArray) (ofL (textL y (l.take m)))).bind fun t236 => (if (t236 == (decide ((l.length : Int) > 0))) = true then ((micro_Valid.f (⟨#[105, 100]⟩ : ByteArray) (ofL (textL y (l.take m)))).bind fun t237 => (some (t237 == ((l.length : Int) == 1)))) else (some false))) else (some false)))) = some true := by
  have hlt := text_len y hy (l.take m)
  have hlm : (l.take m).length = m := by rw [List.length_take]; omega
  obtain ⟨xs, hxs⟩ : ∃ xs, l.take m = xs := ⟨_, rfl⟩
  rw [hxs] at hlt hlm ⊢
  obtain ⟨s, hs⟩ : ∃ s, ofL (textL y xs) = s := ⟨_, rfl⟩
  have hsz : s.size ≤ 140 := by rw [← hs, ofL_size]; omega
  have hP := plain_at (textL y xs) (by omega)
  have hw := words_text y hy xs
  rw [hs] at hP hw ⊢
  have vk := valid_at_tokens s (by omega)
  have vds := valid_at_ids s (by omega)
  have vd := valid_at_id s (by omega)
  rw [hP, Option.bind_some] at vk vds vd
  rw [if_pos (by omega), tokens_ok, hw] at vk
  rw [vk, vds, vd]
  simp only [Option.bind_some]
  have hwl : (wordsOf s).length = m := by rw [hw, List.length_map, hlm]
  have htk : (tokens s).length > 0 ↔ m > 0 := by
    constructor
    · intro h
      have := tokens_le s
      omega
    · intro h
      exact tokens_pos s (by omega)
  have hid : tokens s = [s] ↔ m = 1 := by
    constructor
    · intro h
      have := congrArg List.length (id_words h)
      rw [hwl] at this
      simpa using this
    · rintro rfl
      obtain ⟨x, hx⟩ := List.length_eq_one_iff.1 hlm
      have e1 : wordsOf s = [wb x] := by rw [hw, hx]; rfl
      have e2 : s = wb x := by rw [← hs, hx]; unfold textL wb; simp
      unfold tokens
      rw [e1, ← e2]
      rfl
  have e1 : decide ((xs.map wb).length > 0) = decide (m > 0) := by rw [List.length_map, hlm]
  rw [e1]
  have e2 : nodup (xs.map wb) [] = !twice xs := by unfold twice; simp
  rw [e2]
  by_cases h0 : (l.length : Int) > 0
  · have hm0 : m > 0 := by omega
    rw [if_pos h0, decide_eq_true hm0, Bool.true_and, if_pos (by simp), decide_eq_true (htk.2 hm0), decide_eq_true h0, if_pos (by decide)]
    congr 1
    by_cases h1 : m = 1
    · rw [decide_eq_true (hid.2 h1)]
      have : ((l.length : Int) == 1) = true := by rw [beq_iff_eq]; omega
      rw [this]; rfl
    · rw [decide_eq_false (fun h => h1 (hid.1 h))]
      have : ((l.length : Int) == 1) = false := by rw [beq_eq_false_iff_ne]; omega
      rw [this]; rfl
  · have hm0 : ¬ m > 0 := by omega
    rw [if_neg h0, decide_eq_false hm0, Bool.false_and, if_pos (by decide), decide_eq_false (fun h => hm0 (htk.1 h)), decide_eq_false h0, if_pos (by decide)]
    congr 1
    rw [decide_eq_false (fun h => by have := hid.1 h; omega)]
    have : ((l.length : Int) == 1) = false := by rw [beq_eq_false_iff_ne]; omega
    rw [this]; rfl
/-- The inner loop: has the word been there? -/
theorem inner (l : List Int) (y : Int) (s : ByteArray) (i : Nat) (xi : Int) (hi : l[i]? = some xi) (hl : l.length ≤ 1048576) (r : Bool) : ∀ (d j : Nat) (t : Bool), j + d = i →
    Ev (fun k => beadlelaw18_MicroWords.l1 k l y s (t || ((l.take i).drop j).any fun z => b7 z == b7 xi) (i : Int) (i : Int)) r → Ev (fun k => beadlelaw18_MicroWords.l1 k l y s t (i : Int) (j : Int)) r := by
  have hil : i < l.length := (List.getElem?_eq_some_iff.1 hi).1
  intro d
  induction d with
  | zero =>
    intro j t hj h
    obtain rfl : j = i := by omega
    rw [List.drop_of_length_le (by simp; omega)] at h
    simpa using h
  | succ d ih =>
    intro j t hj h
    obtain ⟨xj, hxj⟩ : ∃ x, l[j]? = some x := ⟨_, List.getElem?_eq_getElem (by omega)⟩
    have hdr : (l.take i).drop j = xj :: (l.take i).drop (j + 1) := by
      have : (l.take i)[j]? = some xj := by rw [List.getElem?_take, if_pos (by omega), hxj]
      obtain ⟨h1, rfl⟩ := List.getElem?_eq_some_iff.1 this
      exact List.drop_eq_getElem_cons h1
    rw [hdr, List.any_cons] at h
    cases t with
    | true =>
      refine Ev.step (f := fun k => beadlelaw18_MicroWords.l1 k l y s true (i : Int) ((j + 1 : Nat) : Int)) (fun k => ?_) (ih (j + 1) true (by omega) (by simpa using h))
      rw [beadlelaw18_MicroWords.l1, if_pos (by omega), if_pos rfl, w64 (by omega) (by omega)]
      rfl
    | false =>
      refine Ev.step (f := fun k => beadlelaw18_MicroWords.l1 k l y s (b7 xj == b7 xi) (i : Int) ((j + 1 : Nat) : Int)) (fun k => ?_) (ih (j + 1) _ (by omega) (by simpa using h))
      rw [beadlelaw18_MicroWords.l1, if_pos (by omega), if_neg (by decide), if_pos (by omega), if_pos (by omega), if_pos (by omega), if_pos (by omega), w64 (by omega) (by omega), rd_at hxj, rd_at hi]
      rfl
theorem outer (l : List Int) (y : Int) (hy : (Lit.int .i64 y).wf = true) (hl : l.length ≤ 1048576) : ∀ (d i : Nat), i + d = min l.length 20 → Ev (fun k => beadlelaw18_MicroWords.l0 k l y (ofL (textL y (l.take i))) (twice (l.take i)) (i : Int)) true := by
  intro d
  induction d with
  | zero =>
    intro i hi
    have hfin := fun k => last_step l y hy i (by omega) (by omega) k
    by_cases h1 : i < l.length
    · refine Ev.step (f := fun k => beadlelaw18_MicroWords.j1 k l y (ofL (textL y (l.take i))) (twice (l.take i)) (i : Int) false) (fun k => by rw [beadlelaw18_MicroWords.l0, if_pos (by omega), decide_eq_false (by omega)]) ?_
      refine Ev.step (f := fun _ => some true) (fun k => ?_) (Ev.now _)
      rw [beadlelaw18_MicroWords.j1, if_neg (by decide)]
      exact hfin k
    · refine Ev.step (f := fun k => beadlelaw18_MicroWords.j1 k l y (ofL (textL y (l.take i))) (twice (l.take i)) (i : Int) false) (fun k => by rw [beadlelaw18_MicroWords.l0, if_neg (by omega)]) ?_
      refine Ev.step (f := fun _ => some true) (fun k => ?_) (Ev.now _)
      rw [beadlelaw18_MicroWords.j1, if_neg (by decide)]
      exact hfin k
  | succ d ih =>
    intro i hi
    obtain ⟨xi, hxi⟩ : ∃ x, l[i]? = some x := ⟨_, List.getElem?_eq_getElem (by omega)⟩
    have htk : l.take (i + 1) = l.take i ++ [xi] := by rw [List.take_add_one, hxi]; rfl
    have hih := ih (i + 1) (by omega)
    rw [htk, twice_snoc] at hih
    refine Ev.step (f := fun k => beadlelaw18_MicroWords.j1 k l y (ofL (textL y (l.take i))) (twice (l.take i)) (i : Int) true) (fun k => by rw [beadlelaw18_MicroWords.l0, if_pos (by omega), decide_eq_true (by omega)]) ?_
    refine Ev.step (f := fun k => beadlelaw18_MicroWords.l1 k l y (ofL (textL y (l.take i))) (twice (l.take i)) (i : Int) 0) (fun k => by rw [beadlelaw18_MicroWords.j1, if_pos rfl]) ?_
    refine inner l y _ i xi hxi hl true i 0 _ (by omega) ?_
    rw [List.drop_zero]
    obtain ⟨t, ht⟩ : ∃ t, (twice (l.take i) || (l.take i).any fun z => b7 z == b7 xi) = t := ⟨_, rfl⟩
    rw [ht] at hih ⊢
    have hlen := text_len y hy (l.take i)
    have hlt : (l.take i).length ≤ 20 := by rw [List.length_take]; omega
    have hgl : (gap y).length ≤ 5 := by obtain ⟨c, bs, e, _, _, h⟩ := gap_form y hy; rw [e]; simp; omega
    have hwl : (wd xi).length = 2 := rfl
    refine Ev.step (f := fun k => beadlelaw18_MicroWords.l0 k l y (ofL (textL y (l.take i ++ [xi]))) t ((i + 1 : Nat) : Int)) (fun k => ?_) hih
    rw [beadlelaw18_MicroWords.l1, if_neg (by omega), rd_at hxi, gap_text y hy]
    by_cases h0 : i = 0
    · subst h0
      rw [if_neg (by decide), if_pos (by omega), if_pos (by omega), Option.bind_some]
      have hsz : (strOfNums [(wrap64 (48 + (bits .and .i64 xi 7))) % 256]).size = 1 := by rw [strOfNums_size]; rfl
      rw [hsz, if_pos (by decide), wd_text, if_pos (by simp only [ofL_size]; omega), w64 (by decide) (by decide)]
      rw [List.take_zero]
      congr 1
    · obtain ⟨g1, g2, g3⟩ := gap_rng y hy
      have hne : l.take i ≠ [] := fun e => by have := congrArg List.length e; rw [List.length_take, List.length_nil] at this; omega
      have hsz : (strOfNums [(wrap64 (48 + (bits .and .i64 xi 7))) % 256]).size = 1 := by rw [strOfNums_size]; rfl
      have happ : ∀ a b : List UInt8, ofL a ++ ofL b = ofL (a ++ b) := fun a b => by
        apply ByteArray.ext
        apply Array.toList_inj.1
        rw [ByteArray.data_append, Array.toList_append, ofL_data, ofL_data, ofL_data]
      rw [if_pos (by omega), g3, if_pos (by omega), if_pos (by omega), if_pos (by simp only [ofL_size]; omega), if_pos (by omega), if_pos (by omega), Option.bind_some, hsz, if_pos (by decide), wd_text, happ, happ]
      rw [if_pos (by simp only [ofL_size, List.length_append]; omega), w64 (by omega) (by omega), text_snoc y _ xi hne, List.append_assoc]
      rfl
theorem MicroWords : beadlelaw18_MicroWords.Ask := by
  intro l0 a1 h1 hy hb
  have hl : l0.length ≤ 1048576 := by
    have : Opens.sumB (fun _ => 1) l0 = l0.length := by
      clear h1 hb
      induction l0 with
      | nil => rfl
      | cons x r ih => rw [Opens.sumB_cons, ih, List.length_cons]; omega
    omega
  have := outer l0 a1 hy hl (min l0.length 20) 0 (by omega)
  refine Ev.rounds ?_
  refine Ev.congr (f := fun k => beadlelaw18_MicroWords.l0 k l0 a1 (⟨#[]⟩ : ByteArray) false 0) (fun k => by rw [beadlelaw18_MicroWords.f, speaks_num, Option.bind_some, if_pos rfl]) ?_
  rw [List.take_zero] at this
  exact this
end Go.Proofs.YtnfjohpecedpnaaDoor.Pure
