/- The document's Steps at any text: it answers what the walked function answers. -/
import Derived.Test.YtkkkgmaljenblaaDoorPSx1
import Derived.Test.YtkkkgmaljenblaaDoorHSteps
import Derived.Test.YtkkkgmaljenblaaDoorDec
namespace Go.Proofs.YtkkkgmaljenblaaDoor.Pure
open Go.RowKit Go.Proofs.YtkkkgmaljenblaaDoor.PS Go.Proofs.YtkkkgmaljenblaaDoorW.PrintWords Go.Proofs.YtkkkgmaljenblaaDoorW.PrintLast Go.Proofs.YtkkkgmaljenblaaDoor.Dec

theorem w64 {n : Int} (h0 : -9223372036854775808 ≤ n) (h1 : n ≤ 9223372036854775807) : wrap64 n = n := by unfold wrap64; omega
/-- The steps of a text that begins at a slash, after those that were read. -/
def stepsL : List (List UInt8) → Option (List Int)
  | [] => some []
  | s :: r => (stepL s).bind fun v => (stepsL r).bind fun vs => some (v :: vs)
def resL (out : List Int) : List UInt8 → List Int × Bool
  | [] => (out, true)
  | c :: R => if c = 47 then (match stepsL (sp R) with
    | some xs => (out ++ xs, true)
    | none => ([], false)) else ([], false)
theorem stepsOf_eq (L : List ByteArray) : stepsOf L = stepsL (L.map (·.data.toList)) := by
  induction L with
  | nil => rfl
  | cons s r ih =>
    have e : stepOf s = stepL s.data.toList := rfl
    rw [stepsOf, List.map_cons, stepsL, ih, e]
theorem hasPrefix47 (l : List UInt8) : Lib.hasPrefix l [47] = true ↔ ∃ R, l = 47 :: R := by
  cases l with
  | nil => simp [Lib.hasPrefix, List.isPrefixOf]
  | cons c r =>
    unfold Lib.hasPrefix
    simp only [List.isPrefixOf, Bool.and_true, beq_iff_eq, List.cons.injEq, exists_and_left, exists_eq', and_true]
    exact ⟨fun h => h.symm, fun h => h.symm⟩
theorem stepsRes_eq (a0 : ByteArray) : stepsRes a0 = if a0.data.toList = [47] then ([], true) else if a0.data.toList = [] then ([], false) else resL [] a0.data.toList := by
  unfold stepsRes
  split
  · rfl
  · split
    · rename_i h1 h2
      obtain ⟨R, hR⟩ := (hasPrefix47 _).1 h2
      rw [if_neg (by rw [hR]; simp), stepsOf_eq]
      have e : (segs (restOf a0)).map (·.data.toList) = sp R := by
        have hd : (restOf a0).data.toList = R := by
          show (Lib.trimPrefix a0.data.toList [47]) = R
          unfold Lib.trimPrefix
          rw [if_pos h2, hR]
          rfl
        unfold segs
        rw [Lib.splitB_data, hd, ← split_sp R, ← hd]
      rw [e, hR, resL, if_pos rfl]
      cases stepsL (sp R) <;> rfl
    · rename_i h1 h2
      cases e : a0.data.toList with
      | nil => rfl
      | cons c R =>
        rw [if_neg (by simp), resL, if_neg]
        rintro rfl
        exact h2 ((hasPrefix47 _).2 ⟨R, e⟩)
theorem stepsOf_len {L : List ByteArray} : ∀ {xs : List Int}, stepsOf L = some xs → xs.length = L.length := by
  induction L with
  | nil => intro xs h; cases h; rfl
  | cons s r ih =>
    intro xs h
    rw [stepsOf] at h
    obtain ⟨v, _, h⟩ := Option.bind_eq_some_iff.1 h
    obtain ⟨vs, h2, h⟩ := Option.bind_eq_some_iff.1 h
    cases h
    simp [ih h2]
theorem stepsRes_len (a0 : ByteArray) : (stepsRes a0).1.length ≤ a0.size + 1 := by
  unfold stepsRes
  split
  · simp
  · split
    · split
      · rename_i xs e
        have h1 := stepsOf_len e
        have h2 := segs_len (restOf a0)
        have h3 := Lib.countB_le slash (by decide) _ (restOf a0) (Nat.le_refl _)
        have h4 := restOf_size a0
        show xs.length ≤ _
        omega
      · simp
    · simp
theorem bt_list (a : ByteArray) (i : Nat) : bt a i = ((a.data.toList.getD i 0).toNat : Int) := by
  unfold bt
  rw [Int.toNat_natCast]
  split
  · rename_i h
    have h2 : i < a.data.toList.length := by simpa using h
    rw [List.getD_eq_getElem?_getD, List.getElem?_eq_getElem h2]
    simp
    rfl
  · rename_i h
    have h2 : a.data.toList.length ≤ i := by
      have : a.data.toList.length = a.size := by simp
      omega
    rw [List.getD_eq_getElem?_getD, List.getElem?_eq_none h2]
    rfl

section
variable (a0 : ByteArray) (out : List Int)
def stopAt (k : Nat) (q from_ : Int) (n : Int) : Option (List Int × Bool) :=
  if q = from_ then (some (([] : List Int), false)) else (if 0 ≤ from_ then (if from_ < (a0.size : Int) then (if (bt a0 from_) = 48 then (if q > (wrap64 (from_ + 1)) then (some (([] : List Int), false)) else (if out.length < 17592186044416 then (beadleref03_Steps.l0 k a0 (out ++ [n]) q) else (none))) else (if out.length < 17592186044416 then (beadleref03_Steps.l0 k a0 (out ++ [n]) q) else (none))) else (none)) else (none))
theorem l1_step (k : Nat) (q from_ n : Int) (h0 : 0 ≤ q) : beadleref03_Steps.l1 (k + 1) a0 out q from_ n = if q < (a0.size : Int) ∧ (bt a0 q) ≥ 48 ∧ (bt a0 q) ≤ 57 ∧ q < wrap64 (from_ + 18) then beadleref03_Steps.l1 k a0 out (wrap64 (q + 1)) from_ (wrap64 ((wrap64 (10 * n)) + (((bt a0 q) - 48) % 256))) else stopAt a0 out k q from_ n := by
  by_cases hP : q < (a0.size : Int) ∧ (bt a0 q) ≥ 48 ∧ (bt a0 q) ≤ 57 ∧ q < wrap64 (from_ + 18)
  · rw [beadleref03_Steps.l1, if_pos hP, if_pos hP.1, if_pos h0, if_pos hP.2.1, if_pos hP.2.2.1, if_pos hP.2.2.2]
  · rw [if_neg hP, beadleref03_Steps.l1]
    by_cases h1 : q < (a0.size : Int)
    · rw [if_pos h1, if_pos h0]
      by_cases h2 : (bt a0 q) ≥ 48
      · rw [if_pos h2]
        by_cases h3 : (bt a0 q) ≤ 57
        · rw [if_pos h3, if_neg (fun h4 => hP ⟨h1, h2, h3, h4⟩)]
          rfl
        · rw [if_neg h3]
          rfl
      · rw [if_neg h2]
        rfl
    · rw [if_neg h1]
      rfl
end
def resR (out : List Int) (R : List UInt8) : List Int × Bool := match stepsL (sp R) with
  | some xs => (out ++ xs, true)
  | none => ([], false)
theorem resR_none {out : List Int} {R h : List UInt8} {t : List (List UInt8)} (e : sp R = h :: t) (hn : stepL h = none) : resR out R = ([], false) := by
  unfold resR
  rw [e, stepsL, hn]
  rfl
theorem digit47 {c : UInt8} (h : isD c = true) : c ≠ 47 := by
  rintro rfl
  exact absurd h (by decide)
theorem resR_go {out : List Int} {T R2 : List UInt8} {c : UInt8} {r : List UInt8} (hT : T = c :: r) (hd : ∀ x ∈ T, isD x = true) (hz : c.toNat = 48 → r = []) (hl : T.length ≤ 18) (hstop : ∀ c2 R3, R2 = c2 :: R3 → isD c2 = true → T.length = 18) : resR out (T ++ R2) = resL (out ++ [(val 0 T : Int)]) R2 := by
  subst hT
  have hs := stepL_digits hd hz hl
  have h47 : ∀ x ∈ c :: r, x ≠ 47 := fun x hx => digit47 (hd x hx)
  cases R2 with
  | nil =>
    have e := sp_run (c :: r) [] h47 (g := []) (t := []) rfl
    unfold resR
    rw [e, List.append_nil, stepsL, hs]
    rfl
  | cons c2 R3 =>
    by_cases h2 : c2 = 47
    · subst h2
      have e := sp_run (c :: r) (47 :: R3) h47 (g := []) (t := sp R3) (by rw [sp, if_pos rfl])
      unfold resR
      rw [e, List.append_nil, stepsL, hs, resL, if_pos rfl]
      cases stepsL (sp R3) with
      | none => rfl
      | some xs => simp
    · obtain ⟨g, t, eg⟩ := sp_cons R3
      have e := sp_run (c :: r) (c2 :: R3) h47 (g := c2 :: g) (t := t) (by rw [sp, if_neg h2, eg]; rfl)
      rw [resL, if_neg h2]
      refine resR_none e ?_
      cases hc : isD c2 with
      | true =>
        refine stepL_long ?_
        have := hstop c2 R3 rfl hc
        simp only [List.length_append, List.length_cons] at this ⊢
        omega
      | false => exact stepL_other ⟨c2, by simp, hc⟩
theorem stop_ev (a0 : ByteArray) (hs : a0.size ≤ 4000000000) (out : List Int) (fr : Nat) (hfr : fr ≤ a0.size) (hol : out.length ≤ 4000000000) (j : Nat) (hj : j ≤ 18) (hd : ∀ c ∈ (a0.data.toList.drop fr).take j, isD c = true) (hjl : fr + j ≤ a0.size)
    (hstop : fr + j < a0.size → isD (a0.data.toList.getD (fr + j) 0) = true → j = 18)
    (ih : 0 < j → ∀ out' : List Int, out'.length ≤ out.length + 1 → Ev (fun k => beadleref03_Steps.l0 k a0 out' ((fr + j : Nat) : Int)) (resL out' (a0.data.toList.drop (fr + j)))) :
    Ev (fun k => stopAt a0 out k ((fr + j : Nat) : Int) (fr : Int) (val 0 ((a0.data.toList.drop fr).take j) : Int)) (resR out (a0.data.toList.drop fr)) := by
  have hsz : a0.data.toList.length = a0.size := by simp
  have hdrop : a0.data.toList.drop fr = (a0.data.toList.drop fr).take j ++ a0.data.toList.drop (fr + j) := by rw [← List.drop_drop, List.take_append_drop]
  have hst2 : ∀ c2 R3, a0.data.toList.drop (fr + j) = c2 :: R3 → isD c2 = true → j = 18 := by
    intro c2 R3 e hc
    have hlt : fr + j < a0.data.toList.length := by
      apply Decidable.byContradiction
      intro hn
      rw [List.drop_eq_nil_of_le (by omega)] at e
      cases e
    rw [List.drop_eq_getElem_cons hlt] at e
    injection e with e1 _
    refine hstop (by omega) ?_
    rw [List.getD_eq_getElem?_getD, List.getElem?_eq_getElem hlt]
    exact e1 ▸ hc
  generalize hT : (a0.data.toList.drop fr).take j = T at *
  generalize hR2 : a0.data.toList.drop (fr + j) = R2 at *
  have hTl : T.length = j := by rw [← hT, List.length_take, List.length_drop]; omega
  by_cases hj0 : j = 0
  · have hT0 : T = [] := List.length_eq_zero_iff.1 (by omega)
    have e0 : ∀ k, stopAt a0 out k ((fr + j : Nat) : Int) (fr : Int) (val 0 T : Int) = some ([], false) := fun k => by
      unfold stopAt
      rw [if_pos (by omega)]
    have e1 : resR out (a0.data.toList.drop fr) = ([], false) := by
      rw [hdrop, hT0, List.nil_append]
      cases R2 with
      | nil => exact resR_none (h := []) (t := []) rfl rfl
      | cons c2 R3 =>
        by_cases h2 : c2 = 47
        · subst h2
          exact resR_none (h := []) (t := sp R3) (by rw [sp, if_pos rfl]) rfl
        · obtain ⟨g, t, eg⟩ := sp_cons R3
          refine resR_none (h := c2 :: g) (t := t) (by rw [sp, if_neg h2, eg]; rfl) (stepL_other ⟨c2, by simp, ?_⟩)
          cases hc : isD c2 with
          | false => rfl
          | true => have := hst2 c2 R3 rfl hc; omega
    rw [e1]
    exact Ev.congr e0 (Ev.now _)
  · obtain ⟨c, r, hTc⟩ : ∃ c r, T = c :: r := by
      cases T with
      | nil => simp at hTl; omega
      | cons c r => exact ⟨c, r, rfl⟩
    have hb : bt a0 (fr : Int) = (c.toNat : Int) := by
      rw [bt_list]
      have e : (a0.data.toList.drop fr)[0]? = some c := by rw [hdrop, hTc]; rfl
      rw [List.getElem?_drop, Nat.add_zero] at e
      rw [List.getD_eq_getElem?_getD, e]
      rfl
    have hrl : r.length + 1 = j := by rw [← hTl, hTc]; rfl
    by_cases hz : c.toNat = 48 ∧ r ≠ []
    · have hr0 : 0 < r.length := List.length_pos_iff.2 hz.2
      have e0 : ∀ k, stopAt a0 out k ((fr + j : Nat) : Int) (fr : Int) (val 0 T : Int) = some ([], false) := fun k => by
        unfold stopAt
        rw [if_neg (by omega), if_pos (by omega), if_pos (by omega), if_pos (by omega), w64 (by omega) (by omega), if_pos (by omega)]
      have e1 : resR out (a0.data.toList.drop fr) = ([], false) := by
        obtain ⟨g, t, eg⟩ := sp_cons R2
        rw [hdrop]
        refine resR_none (sp_run T R2 (fun x hx => digit47 (hd x hx)) eg) ?_
        rw [hTc]
        exact stepL_nought hz.1 (by simp [hz.2])
      rw [e1]
      exact Ev.congr e0 (Ev.now _)
    · have hz' : c.toNat = 48 → r = [] := fun e => Classical.byContradiction fun h => hz ⟨e, h⟩
      have e0 : ∀ k, stopAt a0 out k ((fr + j : Nat) : Int) (fr : Int) (val 0 T : Int) = beadleref03_Steps.l0 k a0 (out ++ [(val 0 T : Int)]) ((fr + j : Nat) : Int) := fun k => by
        unfold stopAt
        rw [if_neg (by omega), if_pos (by omega), if_pos (by omega)]
        by_cases h48 : c.toNat = 48
        · have := hz' h48
          subst this
          rw [if_pos (by omega), w64 (by omega) (by omega), if_neg (by simp at hrl; omega), if_pos (by omega)]
        · rw [if_neg (by omega), if_pos (by omega)]
      have e1 : resR out (a0.data.toList.drop fr) = resL (out ++ [(val 0 T : Int)]) R2 := by
        rw [hdrop]
        exact resR_go hTc hd hz' (by omega) (fun c2 R3 e hc => by rw [hTl]; exact hst2 c2 R3 e hc)
      rw [e1]
      exact Ev.congr e0 (ih (by omega) _ (by simp))
theorem run_ev (a0 : ByteArray) (hs : a0.size ≤ 4000000000) (out : List Int) (fr : Nat) (hfr : fr ≤ a0.size) (hol : out.length ≤ 4000000000)
    (ih : ∀ j, 0 < j → fr + j ≤ a0.size → ∀ out' : List Int, out'.length ≤ out.length + 1 → Ev (fun k => beadleref03_Steps.l0 k a0 out' ((fr + j : Nat) : Int)) (resL out' (a0.data.toList.drop (fr + j)))) (m : Nat) :
    ∀ j, j + m = 18 → (∀ c ∈ (a0.data.toList.drop fr).take j, isD c = true) → fr + j ≤ a0.size → Ev (fun k => beadleref03_Steps.l1 k a0 out ((fr + j : Nat) : Int) (fr : Int) (val 0 ((a0.data.toList.drop fr).take j) : Int)) (resR out (a0.data.toList.drop fr)) := by
  have hsz : a0.data.toList.length = a0.size := by simp
  induction m with
  | zero =>
    intro j hj hd hjl
    refine Ev.step (fun k => l1_step a0 out k _ _ _ (by omega)) ?_
    refine Ev.congr (fun k => if_neg ?_) (stop_ev a0 hs out fr hfr hol j (by omega) hd hjl (fun _ _ => by omega) (fun h => ih j h hjl))
    rintro ⟨_, _, _, h⟩
    rw [w64 (by omega) (by omega)] at h
    omega
  | succ m ihm =>
    intro j hj hd hjl
    refine Ev.step (fun k => l1_step a0 out k _ _ _ (by omega)) ?_
    by_cases hc : fr + j < a0.size ∧ isD (a0.data.toList.getD (fr + j) 0) = true
    · obtain ⟨h1, h2⟩ := hc
      have h3 := isD_out h2
      have hb := bt_list a0 (fr + j)
      have htk : (a0.data.toList.drop fr).take (j + 1) = (a0.data.toList.drop fr).take j ++ [a0.data.toList.getD (fr + j) 0] := by
        rw [List.take_add_one, List.getElem?_drop, List.getD_eq_getElem?_getD, List.getElem?_eq_getElem (by omega)]
        rfl
      have hd2 : ∀ c ∈ (a0.data.toList.drop fr).take (j + 1), isD c = true := by
        intro c hcm
        rw [htk] at hcm
        rcases List.mem_append.1 hcm with h | h
        · exact hd c h
        · rw [List.mem_singleton] at h
          rw [h]
          exact h2
      have hv := val_lt18 hd2 (by rw [List.length_take]; omega)
      have hve : val 0 ((a0.data.toList.drop fr).take (j + 1)) = 10 * val 0 ((a0.data.toList.drop fr).take j) + ((a0.data.toList.getD (fr + j) 0).toNat - 48) := by
        rw [htk, val_append]
        rfl
      generalize hV : val 0 ((a0.data.toList.drop fr).take j) = V at *
      refine Ev.congr (fun k => if_pos ⟨by omega, by omega, by omega, by rw [w64 (by omega) (by omega)]; omega⟩) ?_
      · have hgo := ihm (j + 1) (by omega) hd2 (by omega)
        refine Ev.congr (fun k => ?_) hgo
        rw [hve]
        congr 1
        · rw [w64 (by omega) (by omega)]
          omega
        · rw [w64 (n := 10 * (V : Int)) (by omega) (by omega), w64 (by omega) (by omega)]
          omega
    · refine Ev.congr (fun k => if_neg ?_) (stop_ev a0 hs out fr hfr hol j (by omega) hd hjl (fun h1 h2 => absurd ⟨h1, h2⟩ hc) (fun h => ih j h hjl))
      rintro ⟨h1, h2, h3, _⟩
      refine hc ⟨by omega, isD_of ?_ ?_⟩
      · rw [bt_list] at h2; omega
      · rw [bt_list] at h3; omega
theorem main_ev (a0 : ByteArray) (hs : a0.size ≤ 4000000000) (n : Nat) : ∀ (p : Nat) (out : List Int), p ≤ a0.size → a0.size ≤ p + n → out.length ≤ p → Ev (fun k => beadleref03_Steps.l0 k a0 out (p : Int)) (resL out (a0.data.toList.drop p)) := by
  have hsz : a0.data.toList.length = a0.size := by simp
  induction n with
  | zero =>
    intro p out h1 h2 h3
    obtain rfl : p = a0.size := by omega
    rw [List.drop_eq_nil_of_le (by omega)]
    refine Ev.step (fun k => ?_) (Ev.now _)
    rw [beadleref03_Steps.l0, if_neg (by omega)]
    rfl
  | succ n ih =>
    intro p out h1 h2 h3
    by_cases hp : p = a0.size
    · subst hp
      rw [List.drop_eq_nil_of_le (by omega)]
      refine Ev.step (fun k => ?_) (Ev.now _)
      rw [beadleref03_Steps.l0, if_neg (by omega)]
      rfl
    · have hlt : p < a0.data.toList.length := by omega
      have hb := bt_list a0 p
      rw [List.getD_eq_getElem?_getD, List.getElem?_eq_getElem hlt] at hb
      rw [List.drop_eq_getElem_cons hlt, resL]
      simp only [Option.getD_some] at hb
      generalize a0.data.toList[p] = c at *
      by_cases hc : c = 47
      · subst hc
        rw [if_pos rfl]
        have hgo := run_ev a0 hs out (p + 1) (by omega) (by omega) (fun j hj hjl out' hl => ih (p + 1 + j) out' hjl (by omega) (by omega)) 18 0 rfl (by simp) (by omega)
        refine Ev.step (fun k => ?_) hgo
        rw [beadleref03_Steps.l0, if_pos (by omega), if_pos (by omega), if_pos (by rw [hb]; rfl), w64 (by omega) (by omega)]
        rfl
      · rw [if_neg hc]
        refine Ev.step (fun k => ?_) (Ev.now _)
        rw [beadleref03_Steps.l0, if_pos (by omega), if_pos (by omega), if_neg]
        intro e
        apply hc
        apply UInt8.toNat_inj.1
        show c.toNat = 47
        omega
theorem ref_ev (a0 : ByteArray) (hs : a0.size ≤ 4000000000) : Ev (fun k => beadleref03_Steps.f k a0) (stepsRes a0) := by
  rw [stepsRes_eq]
  have hl : a0.toList = a0.data.toList := ByteArray.toList_eq ..
  by_cases h1 : a0.data.toList = [47]
  · rw [if_pos h1]
    refine Ev.congr (fun k => ?_) (Ev.now _)
    rw [beadleref03_Steps.f, hl, if_pos h1]
  · rw [if_neg h1]
    by_cases h2 : a0.data.toList = []
    · rw [if_pos h2]
      refine Ev.congr (fun k => ?_) (Ev.now _)
      rw [beadleref03_Steps.f, hl, if_neg h1, if_pos h2]
    · rw [if_neg h2]
      have := main_ev a0 hs a0.size 0 [] (by omega) (by omega) (by simp)
      rw [List.drop_zero] at this
      refine Ev.congr (fun k => ?_) this
      rw [beadleref03_Steps.f, hl, if_neg h1, if_neg h2]
      rfl
end Go.Proofs.YtkkkgmaljenblaaDoor.Pure
