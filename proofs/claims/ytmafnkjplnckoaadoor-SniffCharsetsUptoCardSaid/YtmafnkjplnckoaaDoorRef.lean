/- The document's Trim, Small and Label at any text. -/
import Derived.Test.YtmafnkjplnckoaaDoorPLx2
import Derived.Test.YtmafnkjplnckoaaDoorHSmall
import Derived.Test.YtmafnkjplnckoaaDoorHStr
namespace Go.Proofs.YtmafnkjplnckoaaDoor.Pure
open Go.RowKit Go.Proofs.YtmafnkjplnckoaaDoor.PL Go.Proofs.YtmafnkjplnckoaaDoorW.PrintWords Go.Proofs.YtmafnkjplnckoaaDoorW.PrintLast

theorem w64 {n : Int} (h0 : -9223372036854775808 ≤ n) (h1 : n ≤ 9223372036854775807) : wrap64 n = n := by unfold wrap64; omega
theorem bytes_ext {a b : ByteArray} (h : a.data.toList = b.data.toList) : a = b := by
  cases a; cases b
  simp only [ByteArray.mk.injEq]
  exact Array.toList_inj.1 h
theorem size_len (a : ByteArray) : a.data.toList.length = a.size := by simp
theorem bt_list (a : ByteArray) (i : Nat) : bt a i = ((a.data.toList.getD i 0).toNat : Int) := by
  unfold bt
  rw [Int.toNat_natCast]
  split
  · rename_i h
    have h2 : i < a.data.toList.length := by simpa using h
    rw [List.getD_eq_getElem?_getD, List.getElem?_eq_getElem h2]
    simp
    rfl
  · rename_i h
    have h2 : a.data.toList.length ≤ i := by
      have : a.data.toList.length = a.size := by simp
      omega
    rw [List.getD_eq_getElem?_getD, List.getElem?_eq_none h2]
    rfl
theorem bt_get {a : ByteArray} {i : Nat} (h : i < a.data.toList.length) : bt a i = ((a.data.toList[i]).toNat : Int) := by
  rw [bt_list, List.getD_eq_getElem?_getD, List.getElem?_eq_getElem h]
  rfl
abbrev bl : List UInt8 := [9, 10, 12, 13, 32]
theorem blank_fin : ∀ n : Fin 256, beadleref01_blank.f (n.val : Int) = some (bl.contains (UInt8.ofNat n.val)) := by decide +kernel
theorem blank_f (c : UInt8) : beadleref01_blank.f (c.toNat : Int) = some (bl.contains c) := by
  have h := blank_fin ⟨c.toNat, c.toNat_lt⟩
  simp only [UInt8.ofNat_toNat] at h
  exact h
theorem extract_list (a : ByteArray) (i j : Nat) : (a.extract i j).data.toList = (a.data.toList.take j).drop i := by
  simp [ByteArray.data_extract, List.drop_take]
/-! ### Trim -/
def trimB_ (a : ByteArray) : ByteArray := ⟨(Lib.trimS a.data.toList bl).toArray⟩
theorem trim_cut (a : ByteArray) (i j : Nat) (hi : i < j) (hj : j ≤ a.size) (h1 : ∀ (q : Nat) b, q < i → a.data.toList[q]? = some b → bl.contains b = true) (h2 : ∀ (q : Nat) b, j ≤ q → a.data.toList[q]? = some b → bl.contains b = true)
    (h3 : ∀ b, a.data.toList[i]? = some b → bl.contains b = false) (h4 : ∀ b, a.data.toList[j - 1]? = some b → bl.contains b = false) : a.extract i j = trimB_ a := by
  have hl := size_len a
  apply bytes_ext
  rw [extract_list]
  show _ = Lib.trimS a.data.toList bl
  unfold Lib.trimS
  rw [Lib.trimRightS_take a.data.toList bl j (by omega) h2 (fun b _ => h4 b), Lib.trimLeftS_drop _ bl i (by rw [List.length_take]; omega)]
  · intro q b hq hb
    rw [List.getElem?_take] at hb
    split at hb
    · exact h1 q b hq hb
    · cases hb
  · intro b hb
    rw [List.getElem?_take, if_pos hi] at hb
    exact h3 b hb
theorem trim_all (a : ByteArray) (h : ∀ (q : Nat) b, a.data.toList[q]? = some b → bl.contains b = true) : a.extract a.size a.size = trimB_ a := by
  have hl := size_len a
  apply bytes_ext
  rw [extract_list]
  show _ = Lib.trimS a.data.toList bl
  unfold Lib.trimS
  rw [Lib.trimRightS_take a.data.toList bl 0 (by omega) (fun q b _ => h q b) (fun b h0 => absurd h0 (by omega))]
  rw [List.drop_eq_nil_of_le (by rw [List.length_take]; omega)]
  rfl
theorem trim_l1 (a : ByteArray) (hs : a.size ≤ 4000000000) (i : Nat) (h1 : ∀ (q : Nat) b, q < i → a.data.toList[q]? = some b → bl.contains b = true) (h3 : ∀ b, a.data.toList[i]? = some b → bl.contains b = false) (d : Nat) :
    ∀ j, j = i + 1 + d → j ≤ a.size → (∀ (q : Nat) b, j ≤ q → a.data.toList[q]? = some b → bl.contains b = true) → Ev (fun k => beadleref01_Trim.l1 k a (i : Int) (j : Int)) (trimB_ a) := by
  have hl := size_len a
  induction d with
  | zero =>
    intro j hj hjs h2
    have hlt : i < a.data.toList.length := by omega
    have hb := bt_get hlt
    have hf := h3 _ (List.getElem?_eq_getElem hlt)
    refine Ev.step (fun k => ?_) (Ev.now _)
    rw [beadleref01_Trim.l1, if_pos (by omega), w64 (by omega) (by omega), if_pos (by omega), if_pos (by omega), show (j : Int) - 1 = (i : Int) from by omega, hb, blank_f, hf, Option.bind_some, if_neg (by decide), if_pos (by omega), if_pos (by omega), if_pos (by omega)]
    simp only [Int.toNat_natCast]
    rw [trim_cut a i j (by omega) hjs h1 h2 h3 (fun b hb2 => h3 b (by rw [show j - 1 = i from by omega] at hb2; exact hb2))]
  | succ d ih =>
    intro j hj hjs h2
    have hlt : j - 1 < a.data.toList.length := by omega
    have hb := bt_get hlt
    have e1 : (j : Int) - 1 = ((j - 1 : Nat) : Int) := by omega
    cases hc : bl.contains a.data.toList[j - 1] with
    | true =>
      refine Ev.step (fun k => ?_) (ih (j - 1) (by omega) (by omega) (fun q b hq hb2 => by
        by_cases e : q = j - 1
        · subst e
          rw [List.getElem?_eq_getElem hlt] at hb2
          cases hb2
          exact hc
        · exact h2 q b (by omega) hb2))
      rw [beadleref01_Trim.l1, if_pos (by omega), w64 (by omega) (by omega), if_pos (by omega), if_pos (by omega), e1, hb, blank_f, hc, Option.bind_some, if_pos rfl]
    | false =>
      refine Ev.step (fun k => ?_) (Ev.now _)
      rw [beadleref01_Trim.l1, if_pos (by omega), w64 (by omega) (by omega), if_pos (by omega), if_pos (by omega), e1, hb, blank_f, hc, Option.bind_some, if_neg (by decide), if_pos (by omega), if_pos (by omega), if_pos (by omega)]
      simp only [Int.toNat_natCast]
      rw [trim_cut a i j (by omega) hjs h1 h2 h3 (fun b hb2 => by rw [List.getElem?_eq_getElem hlt] at hb2; cases hb2; exact hc)]
theorem trim_l0 (a : ByteArray) (hs : a.size ≤ 4000000000) (d : Nat) : ∀ i, i + d = a.size → (∀ (q : Nat) b, q < i → a.data.toList[q]? = some b → bl.contains b = true) → Ev (fun k => beadleref01_Trim.l0 k a (i : Int) (a.size : Int)) (trimB_ a) := by
  have hl := size_len a
  induction d with
  | zero =>
    intro i hi h1
    obtain rfl : i = a.size := by omega
    refine Ev.step (fun k => by rw [beadleref01_Trim.l0, if_neg (by omega)]) ?_
    refine Ev.step (fun k => by rw [beadleref01_Trim.j1]) ?_
    refine Ev.step (fun k => ?_) (Ev.now _)
    rw [beadleref01_Trim.l1, if_neg (by omega), if_pos (by omega), if_pos (by omega), if_pos (by omega)]
    simp only [Int.toNat_natCast]
    rw [trim_all a (fun q b hb => by
      by_cases h : q < a.size
      · exact h1 q b h hb
      · rw [List.getElem?_eq_none (by omega)] at hb
        cases hb)]
  | succ d ih =>
    intro i hi h1
    have hlt : i < a.data.toList.length := by omega
    have hb := bt_get hlt
    cases hc : bl.contains a.data.toList[i] with
    | true =>
      refine Ev.step (fun k => ?_) (ih (i + 1) (by omega) (fun q b hq hb2 => by
        by_cases e : q = i
        · subst e
          rw [List.getElem?_eq_getElem hlt] at hb2
          cases hb2
          exact hc
        · exact h1 q b (by omega) hb2))
      rw [beadleref01_Trim.l0, if_pos (by omega), if_pos (by omega), if_pos (by omega), hb, blank_f, hc, Option.bind_some, if_pos rfl, w64 (by omega) (by omega)]
      rfl
    | false =>
      refine Ev.step (f := fun k => beadleref01_Trim.j1 k a (i : Int) (a.size : Int)) (fun k => ?_) ?_
      · rw [beadleref01_Trim.l0, if_pos (by omega), if_pos (by omega), if_pos (by omega), hb, blank_f, hc, Option.bind_some, if_neg (by decide)]
      · refine Ev.step (fun k => by rw [beadleref01_Trim.j1]) ?_
        exact trim_l1 a hs i h1 (fun b hb2 => by rw [List.getElem?_eq_getElem hlt] at hb2; cases hb2; exact hc) d a.size (by omega) (Nat.le_refl _) (fun q b hq hb2 => by
          rw [List.getElem?_eq_none (by omega)] at hb2
          cases hb2)
theorem trim_ev (a : ByteArray) (hs : a.size ≤ 4000000000) : Ev (fun k => beadleref01_Trim.f k a) (trimB_ a) := trim_l0 a hs a.size 0 (by omega) (fun q b hq => absurd hq (by omega))
theorem trimB_size (a : ByteArray) : (trimB_ a).size ≤ a.size := by
  have e : ∀ (p : UInt8 → Bool) (l : List UInt8), (l.dropWhile p).length ≤ l.length := fun p l => (List.dropWhile_sublist p).length_le
  have h : (Lib.trimS a.data.toList bl).length ≤ a.data.toList.length := by
    unfold Lib.trimS Lib.trimLeftS Lib.trimRightS
    refine Nat.le_trans (e _ _) ?_
    rw [List.length_reverse]
    refine Nat.le_trans (e _ _) ?_
    rw [List.length_reverse]
    exact Nat.le_refl _
  rw [← size_len a, ← size_len (trimB_ a)]
  exact h
/-! ### Small -/
def lowN (c : UInt8) : Int := ((low c).toNat : Int)
theorem small_ev (a : ByteArray) (hs : a.size ≤ 4000000000) : Ev (fun k => beadleref01_Small.f k a) (lowB a) := by
  have hl := size_len a
  have key : ∀ (d i : Nat), i + d = a.size → Ev (fun k => beadleref01_Small.l0 k a ((a.data.toList.take i).map lowN) (i : Int)) (lowB a) := by
    intro d
    induction d with
    | zero =>
      intro i hi
      obtain rfl : i = a.size := by omega
      refine Ev.step (fun k => ?_) (Ev.now _)
      rw [beadleref01_Small.l0, if_neg (by omega), List.take_of_length_le (by omega)]
      congr 1
      apply bytes_ext
      rw [strOfNums_data, List.map_map]
      show _ = a.data.toList.map low
      refine List.map_congr_left fun c _ => ?_
      simp [lowN]
    | succ d ih =>
      intro i hi
      have hlt : i < a.data.toList.length := by omega
      have hb := bt_get hlt
      have htk : (a.data.toList.take (i + 1)).map lowN = (a.data.toList.take i).map lowN ++ [lowN a.data.toList[i]] := by
        rw [List.take_succ_eq_append_getElem hlt, List.map_append]
        rfl
      have hll : ((a.data.toList.take i).map lowN).length < 140737488355328 := by
        rw [List.length_map, List.length_take]
        omega
      have hgo := ih (i + 1) (by omega)
      rw [htk] at hgo
      generalize a.data.toList[i] = c at *
      have hc := c.toNat_lt
      refine Ev.step (fun k => ?_) hgo
      rw [beadleref01_Small.l0, if_pos (by omega), if_pos (by omega), hb, w64 (by omega) (by omega)]
      by_cases h1 : (c.toNat : Int) > 64
      · rw [if_pos h1]
        by_cases h2 : (c.toNat : Int) < 91
        · rw [if_pos h2, if_pos hll]
          have e : ((c.toNat : Int) + 32) % 256 = lowN c := by
            unfold lowN low
            rw [if_pos ⟨by omega, by omega⟩]
            have : (UInt8.ofNat (c.toNat + 32)).toNat = c.toNat + 32 := by simp; omega
            omega
          rw [e]
          rfl
        · have e : (c.toNat : Int) = lowN c := by
            unfold lowN low
            rw [if_neg (by omega)]
          rw [if_neg h2, if_pos hll, e]
          rfl
      · have e : (c.toNat : Int) = lowN c := by
          unfold lowN low
          rw [if_neg (by omega)]
        rw [if_neg h1, if_pos hll, e]
        rfl
  exact key a.size 0 (by omega)
theorem lowB_size (a : ByteArray) : (lowB a).size = a.size := by
  rw [← size_len (lowB a), ← size_len a]
  show (a.data.toList.map low).length = _
  rw [List.length_map]
/-! ### Label -/
def utfB : List ByteArray := [⟨#[117, 116, 102, 45, 56]⟩, ⟨#[117, 116, 102, 56]⟩, ⟨#[117, 110, 105, 99, 111, 100, 101, 45, 49, 45, 49, 45, 117, 116, 102, 45, 56]⟩, ⟨#[117, 116, 102, 45, 49, 54]⟩, ⟨#[117, 116, 102, 45, 49, 54, 108, 101]⟩, ⟨#[117, 116, 102, 45, 49, 54, 98, 101]⟩]
def winB : List ByteArray := [⟨#[119, 105, 110, 100, 111, 119, 115, 45, 49, 50, 53, 50]⟩, ⟨#[99, 112, 49, 50, 53, 50]⟩, ⟨#[108, 97, 116, 105, 110, 49]⟩, ⟨#[108, 49]⟩, ⟨#[105, 115, 111, 45, 56, 56, 53, 57, 45, 49]⟩, ⟨#[97, 115, 99, 105, 105]⟩, ⟨#[117, 115, 45, 97, 115, 99, 105, 105]⟩]
def has (L : List ByteArray) (t : List UInt8) : Bool := L.any fun u => decide (t = u.toList)
def codeOf (t : List UInt8) : Int := if has utfB t = true then 1 else if has winB t = true then 2 else 0
theorem label_l1 (x : ByteArray) (U : List ByteArray) (hU : U.length ≤ 100) (d : Nat) : ∀ i, i + d = U.length → Ev (fun k => beadleref01_Label.l1 k x U (i : Int)) (if has (U.drop i) x.toList = true then 2 else 0) := by
  induction d with
  | zero =>
    intro i hi
    rw [List.drop_eq_nil_of_le (by omega)]
    refine Ev.step (fun k => ?_) (Ev.now _)
    rw [beadleref01_Label.l1, if_neg (by omega)]
    rfl
  | succ d ih =>
    intro i hi
    have hlt : i < U.length := by omega
    have hr : rdOf ByteArray.empty U (i : Int) = U[i] := by
      unfold rdOf
      rw [Int.toNat_natCast, List.getD_eq_getElem?_getD, List.getElem?_eq_getElem hlt]
      rfl
    rw [List.drop_eq_getElem_cons hlt, has, List.any_cons]
    by_cases h : x.toList = U[i].toList
    · rw [decide_eq_true h, Bool.true_or, if_pos rfl]
      refine Ev.step (fun k => ?_) (Ev.now _)
      rw [beadleref01_Label.l1, if_pos (by omega), if_pos (by omega), hr, if_pos h]
    · rw [decide_eq_false h, Bool.false_or]
      refine Ev.step (fun k => ?_) (ih (i + 1) (by omega))
      rw [beadleref01_Label.l1, if_pos (by omega), if_pos (by omega), hr, if_neg h, w64 (by omega) (by omega)]
      rfl
theorem label_l0 (x : ByteArray) (U : List ByteArray) (hU : U.length ≤ 100) (d : Nat) : ∀ i, i + d = U.length → Ev (fun k => beadleref01_Label.l0 k x U (i : Int)) (if has (U.drop i) x.toList = true then 1 else if has winB x.toList = true then 2 else 0) := by
  induction d with
  | zero =>
    intro i hi
    rw [List.drop_eq_nil_of_le (by omega)]
    refine Ev.step (f := fun k => beadleref01_Label.l1 k x winB 0) (fun k => ?_) (label_l1 x winB (by decide) 7 0 (by decide))
    rw [beadleref01_Label.l0, if_neg (by omega)]
    rfl
  | succ d ih =>
    intro i hi
    have hlt : i < U.length := by omega
    have hr : rdOf ByteArray.empty U (i : Int) = U[i] := by
      unfold rdOf
      rw [Int.toNat_natCast, List.getD_eq_getElem?_getD, List.getElem?_eq_getElem hlt]
      rfl
    rw [List.drop_eq_getElem_cons hlt, has, List.any_cons]
    by_cases h : x.toList = U[i].toList
    · rw [decide_eq_true h, Bool.true_or, if_pos rfl]
      refine Ev.step (fun k => ?_) (Ev.now _)
      rw [beadleref01_Label.l0, if_pos (by omega), if_pos (by omega), hr, if_pos h]
    · rw [decide_eq_false h, Bool.false_or]
      refine Ev.step (fun k => ?_) (ih (i + 1) (by omega))
      rw [beadleref01_Label.l0, if_pos (by omega), if_pos (by omega), hr, if_neg h, w64 (by omega) (by omega)]
      rfl
def nameOf (a : ByteArray) : ByteArray := lowB (trimB_ a)
theorem label_ev (a : ByteArray) (hs : a.size ≤ 4000000000) : Ev (fun k => beadleref01_Label.f k a) (codeOf (nameOf a).toList) := by
  refine Ev.bind (trim_ev a hs) ?_
  refine Ev.bind (small_ev (trimB_ a) (Nat.le_trans (trimB_size a) hs)) ?_
  exact label_l0 (nameOf a) utfB (by decide) 6 0 (by decide)
end Go.Proofs.YtmafnkjplnckoaaDoor.Pure
