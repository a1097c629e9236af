/- MicroDates in plain words: the date of any text is the document's, and so are the days of any month. -/
import Derived.Test.YtnfjohpecedpnaaGreatDoorSpec
import Derived.Test.YtnfjohpecedpnaaGreatDoorIntLaw
import Derived.Test.YtnfjohpecedpnaaGreatDoorPMx8
import Derived.Test.YtnfjohpecedpnaaGreatDoorAskMicroDates
set_option linter.unusedVariables false
namespace Go.Proofs.YtnfjohpecedpnaaGreatDoor.Pure
open Go Go.RowKit Go.Proofs.YtnfjohpecedpnaaGreatDoor.PM Go.Proofs.YtnfjohpecedpnaaGreatDoor.Scan Go.Proofs.YtnfjohpecedpnaaGreatDoor.Spec Go.Proofs.YtnfjohpecedpnaaGreatDoorW.PrintWords Go.Proofs.YtnfjohpecedpnaaGreatDoorW.PrintLast
theorem ref_days (y m : Int) : Ev (fun k => beadleref18_Days.f k y m) (daysOf y m) := by
  refine ⟨1, fun k hk => ?_⟩
  obtain ⟨k, rfl⟩ : ∃ k', k = k' + 1 := ⟨k - 1, by omega⟩
  show beadleref18_Days.f (k + 1) y m = _
  unfold beadleref18_Days.f daysOf
  by_cases hy : y < 1
  · rw [if_pos hy, if_pos hy]
  · rw [if_neg hy, if_neg hy]
    have e1 : Int.tmod y 400 = y % 400 := Int.tmod_eq_emod_of_nonneg (by omega)
    have e2 : Int.tmod y 4 = y % 4 := Int.tmod_eq_emod_of_nonneg (by omega)
    have e3 : Int.tmod y 100 = y % 100 := Int.tmod_eq_emod_of_nonneg (by omega)
    have hc : m < 1 ∨ m = 1 ∨ m = 2 ∨ m = 3 ∨ m = 4 ∨ m = 5 ∨ m = 6 ∨ m = 7 ∨ m = 8 ∨ m = 9 ∨ m = 10 ∨ m = 11 ∨ m = 12 ∨ 12 < m := by omega
    rcases hc with h | rfl | rfl | rfl | rfl | rfl | rfl | rfl | rfl | rfl | rfl | rfl | rfl | h
    · have g : ∀ n : Int, 1 ≤ n → ¬ m = n := fun n hn => by omega
      have g11 : (m == 11) = false := by rw [beq_eq_false_iff_ne]; omega
      rw [if_neg (g 4 (by decide)), if_neg (g 6 (by decide)), if_neg (g 9 (by decide)), g11, beadleref18_Days.j0, if_neg (by decide), if_neg (g 2 (by decide)), if_neg (g 1 (by decide)), if_neg (g 3 (by decide)), if_neg (g 5 (by decide)), if_neg (g 7 (by decide)), if_neg (g 8 (by decide)), if_neg (g 10 (by decide)), if_neg (g 12 (by decide)), if_pos h]
    · simp [beadleref18_Days.j0, mdays]
    · simp only [beadleref18_Days.j0, e1, e2, e3]
      by_cases h4 : y % 4 = 0 <;> by_cases h1 : y % 100 = 0 <;> by_cases h5 : y % 400 = 0 <;> simp [h4, h1, h5] <;> omega
    · simp [beadleref18_Days.j0, mdays]
    · simp [beadleref18_Days.j0, mdays]
    · simp [beadleref18_Days.j0, mdays]
    · simp [beadleref18_Days.j0, mdays]
    · simp [beadleref18_Days.j0, mdays]
    · simp [beadleref18_Days.j0, mdays]
    · simp [beadleref18_Days.j0, mdays]
    · simp [beadleref18_Days.j0, mdays]
    · simp [beadleref18_Days.j0, mdays]
    · simp [beadleref18_Days.j0, mdays]
    · have g : ∀ n : Int, n ≤ 12 → ¬ m = n := fun n hn => by omega
      have g11 : (m == 11) = false := by rw [beq_eq_false_iff_ne]; omega
      rw [if_neg (g 4 (by decide)), if_neg (g 6 (by decide)), if_neg (g 9 (by decide)), g11, beadleref18_Days.j0, if_neg (by decide), if_neg (g 2 (by decide)), if_neg (g 1 (by decide)), if_neg (g 3 (by decide)), if_neg (g 5 (by decide)), if_neg (g 7 (by decide)), if_neg (g 8 (by decide)), if_neg (g 10 (by decide)), if_neg (g 12 (by decide)), if_neg (by omega), if_pos h]
/-- The shape of a text. -/
def shapeL : List UInt8 → List UInt8 → Bool
  | [], [] => true
  | c :: s, p :: sh => (if p = 48 then isD c else c == p) && shapeL s sh
  | _, _ => false
theorem shape_len : ∀ {s sh : List UInt8}, shapeL s sh = true → s.length = sh.length
  | [], [], _ => rfl
  | [], _ :: _, h => by cases h
  | _ :: _, [], h => by cases h
  | c :: s, p :: sh, h => by
    rw [shapeL, Bool.and_eq_true] at h
    rw [List.length_cons, List.length_cons, shape_len h.2]
theorem ref_shape_l0 (l sh : List UInt8) (hl : l.length ≤ 281474976710656) (he : l.length = sh.length) : ∀ (d i : Nat), i + d = l.length → Ev (fun k => beadleref18_Shape.l0 k (ofL l) (ofL sh) (i : Int)) (shapeL (l.drop i) (sh.drop i)) := by
  intro d
  induction d with
  | zero =>
    intro i hi
    rw [List.drop_of_length_le (by omega), List.drop_of_length_le (by omega)]
    exact Ev.step (f := fun _ => some true) (fun k => by rw [beadleref18_Shape.l0, if_neg (by simp; omega)]) (Ev.now _)
  | succ d ih =>
    intro i hi
    obtain ⟨c, hc⟩ : ∃ c, l[i]? = some c := ⟨_, List.getElem?_eq_getElem (by omega)⟩
    obtain ⟨p, hp⟩ : ∃ p, sh[i]? = some p := ⟨_, List.getElem?_eq_getElem (by omega)⟩
    have h1 : l.drop i = c :: l.drop (i + 1) := by
      obtain ⟨h, rfl⟩ := List.getElem?_eq_some_iff.1 hc
      exact List.drop_eq_getElem_cons h
    have h2 : sh.drop i = p :: sh.drop (i + 1) := by
      obtain ⟨h, rfl⟩ := List.getElem?_eq_some_iff.1 hp
      exact List.drop_eq_getElem_cons h
    rw [h1, h2, shapeL]
    have hih := ih (i + 1) (by omega)
    by_cases h48 : p = 48
    · subst h48
      rw [if_pos rfl]
      refine Ev.step (f := fun k => if isD c = true then beadleref18_Shape.l0 k (ofL l) (ofL sh) ((i + 1 : Nat) : Int) else some false) (fun k => ?_) ?_
      · rw [beadleref18_Shape.l0, if_pos (by simp; omega), if_pos (by omega), if_pos (by simp; omega), ofL_bt hp, if_pos (by decide), ofL_bt hc, ref_digit, Option.bind_some, w64 (by omega) (by omega)]
        rfl
      · cases isD c with
        | true => rw [Bool.true_and]; simpa using hih
        | false => rw [Bool.false_and]; exact Ev.now _
    · have hpn : ¬ (p.toNat : Int) = 48 := fun h => h48 (by apply UInt8.toNat_inj.1; rw [show (48 : UInt8).toNat = 48 from rfl]; omega)
      rw [if_neg h48]
      refine Ev.step (f := fun k => if c = p then beadleref18_Shape.l0 k (ofL l) (ofL sh) ((i + 1 : Nat) : Int) else some false) (fun k => ?_) ?_
      · rw [beadleref18_Shape.l0, if_pos (by simp; omega), if_pos (by omega), if_pos (by simp; omega), ofL_bt hp, if_neg hpn, ofL_bt hc, w64 (by omega) (by omega)]
        by_cases hcp : c = p
        · rw [if_pos hcp, if_pos (by rw [hcp])]; rfl
        · rw [if_neg hcp, if_neg (fun h => hcp (by apply UInt8.toNat_inj.1; omega))]
      · by_cases hcp : c = p
        · simp only [if_pos hcp]
          rw [show (c == p) = true from beq_iff_eq.2 hcp, Bool.true_and]
          exact hih
        · simp only [if_neg hcp]
          rw [show (c == p) = false from beq_eq_false_iff_ne.2 hcp, Bool.false_and]
          exact Ev.now _
theorem ref_shape (l sh : List UInt8) (hl : l.length ≤ 281474976710656) : Ev (fun k => beadleref18_Shape.f k (ofL l) (ofL sh)) (shapeL l sh) := by
  by_cases he : l.length = sh.length
  · refine Ev.congr (f := fun k => beadleref18_Shape.l0 k (ofL l) (ofL sh) 0) (fun k => by rw [beadleref18_Shape.f, if_pos (by simp; omega)]) ?_
    exact ref_shape_l0 l sh hl he l.length 0 (by omega)
  · have hF : shapeL l sh = false := by
      cases h : shapeL l sh with
      | false => rfl
      | true => exact absurd (shape_len h) he
    rw [hF]
    exact Ev.congr (f := fun _ => some false) (fun k => by rw [beadleref18_Shape.f, if_neg (by simp; omega)]) (Ev.now _)
theorem ofL_sub (l : List UInt8) (a b : Nat) : (ofL l).extract a b = ofL ((l.drop a).take (b - a)) := by
  apply ByteArray.ext
  simp [ofL]
def shDate : List UInt8 := [48, 48, 48, 48, 45, 48, 48, 45, 48, 48]
/-- The document's date. -/
def dateR (l : List UInt8) : Int × Int × Int × Bool :=
  if shapeL l shDate = true then
    (if (val 0 (l.drop 8) : Int) < 1 ∨ (val 0 (l.drop 8) : Int) > daysOf (val 0 (l.take 4)) (val 0 ((l.drop 5).take 2)) then (0, 0, 0, false) else ((val 0 (l.take 4) : Int), (val 0 ((l.drop 5).take 2) : Int), (val 0 (l.drop 8) : Int), true))
  else (0, 0, 0, false)
theorem shape_date {l : List UInt8} (h : shapeL l shDate = true) : ∃ a b c d e f g i, l = [a, b, c, d, 45, e, f, 45, g, i] ∧ isD a = true ∧ isD b = true ∧ isD c = true ∧ isD d = true ∧ isD e = true ∧ isD f = true ∧ isD g = true ∧ isD i = true := by
  have hl := shape_len h
  match l, hl with
  | [a, b, c, d, x, e, f, y, g, i], _ =>
    simp [shapeL, shDate] at h
    obtain ⟨h1, h2, h3, h4, rfl, h5, h6, rfl, h7, h8⟩ := h
    exact ⟨a, b, c, d, e, f, g, i, rfl, h1, h2, h3, h4, h5, h6, h7, h8⟩
theorem ref_date (l : List UInt8) (hl : l.length ≤ 281474976710656) : Ev (fun k => beadleref18_Date.f k (ofL l)) (dateR l) := by
  have hS := ref_shape l shDate hl
  unfold dateR
  cases h : shapeL l shDate with
  | false =>
    rw [h] at hS
    rw [if_neg (by decide)]
    unfold beadleref18_Date.f
    refine Ev.bind hS ?_
    simp only [Bool.false_eq_true, if_false]
    exact Ev.now _
  | true =>
    rw [h] at hS
    rw [if_pos rfl]
    obtain ⟨a, b, c, d, e, f, g, i, rfl, h1, h2, h3, h4, h5, h6, h7, h8⟩ := shape_date h
    unfold beadleref18_Date.f
    refine Ev.bind hS ?_
    have hA : ∀ x ∈ ([a, b, c, d] : List UInt8), isD x = true := by simp [h1, h2, h3, h4]
    have hB : ∀ x ∈ ([e, f] : List UInt8), isD x = true := by simp [h5, h6]
    have hC : ∀ x ∈ ([g, i] : List UInt8), isD x = true := by simp [h7, h8]
    have eA : (ofL [a, b, c, d, 45, e, f, 45, g, i]).extract 0 4 = ofL [a, b, c, d] := ofL_sub _ 0 4
    have eB : (ofL [a, b, c, d, 45, e, f, 45, g, i]).extract 5 7 = ofL [e, f] := ofL_sub _ 5 7
    have eC : (ofL [a, b, c, d, 45, e, f, 45, g, i]).extract 8 (ofL [a, b, c, d, 45, e, f, 45, g, i]).size = ofL [g, i] := ofL_drop _ 8
    have hz : ((ofL [a, b, c, d, 45, e, f, 45, g, i]).size : Int) = 10 := by rw [ofL_size]; rfl
    refine Ev.congr (f := fun k => (beadleref18_Number.f k (ofL [a, b, c, d])).bind fun t213 => (beadleref18_Number.f k (ofL [e, f])).bind fun t214 => (beadleref18_Number.f k (ofL [g, i])).bind fun t215 => if t215 < 1 then some (0, 0, 0, false) else (beadleref18_Days.f k t213 t214).bind fun t216 => if t215 > t216 then some (0, 0, 0, false) else some (t213, t214, t215, true)) (fun k => by
      rw [if_pos rfl, if_pos (by decide), hz, if_pos (by decide), eA]
      simp only [eB, eC]
      rfl) ?_
    refine Ev.bind (ref_number _ hA (by simp)) ?_
    refine Ev.bind (ref_number _ hB (by simp)) ?_
    refine Ev.bind (ref_number _ hC (by simp)) ?_
    show Ev _ (if (val 0 [g, i] : Int) < 1 ∨ (val 0 [g, i] : Int) > daysOf (val 0 [a, b, c, d]) (val 0 [e, f]) then (0, 0, 0, false) else ((val 0 [a, b, c, d] : Int), (val 0 [e, f] : Int), (val 0 [g, i] : Int), true))
    by_cases c1 : (val 0 [g, i] : Int) < 1
    · simp only [c1, if_true, true_or]
      exact Ev.now _
    · simp only [c1, if_false, false_or]
      refine Ev.bind (ref_days _ _) ?_
      by_cases c2 : (val 0 [g, i] : Int) > daysOf (val 0 [a, b, c, d]) (val 0 [e, f])
      · simp only [c2, if_true]; exact Ev.now _
      · simp only [c2, if_false]; exact Ev.now _
/-! The two dates are one. -/
theorem lead_le (n : Nat) (l : List UInt8) : lead n l ≤ n := lead_most n l
theorem digitsS_exact {n : Nat} {l : List UInt8} {v : Int} {r : List UInt8} (h : digitsS n n l = some (v, r)) : ∃ xs, xs.length = n ∧ (∀ c ∈ xs, isD c = true) ∧ l = xs ++ r ∧ v = (val 0 xs : Int) := by
  unfold digitsS at h
  split at h
  · cases h
  · rename_i h2
    cases h
    have := lead_most n l
    have h3 := lead_len n l
    exact ⟨l.take (lead n l), by rw [List.length_take]; omega, lead_all n l, (List.take_append_drop _ _).symm, rfl⟩
theorem lead_app : ∀ (n : Nat) (xs r : List UInt8), xs.length = n → (∀ c ∈ xs, isD c = true) → lead n (xs ++ r) = n
  | 0, _, _, _, _ => rfl
  | n + 1, [], _, h, _ => by cases h
  | n + 1, x :: xs, r, h, hd => by
    rw [List.cons_append, lead, if_pos (hd x (List.mem_cons_self ..)), lead_app n xs r (by simpa using h) (fun c hc => hd c (List.mem_cons_of_mem _ hc))]
theorem digitsS_app (n : Nat) (xs r : List UInt8) (h : xs.length = n) (hd : ∀ c ∈ xs, isD c = true) : digitsS n n (xs ++ r) = some ((val 0 xs : Int), r) := by
  unfold digitsS
  rw [lead_app n xs r h hd, if_neg (by omega), List.take_left' h, List.drop_left' h]
theorem mustS_out {set l r : List UInt8} (h : mustS set l = some r) : ∃ c, c ∈ set ∧ l = c :: r := by
  cases l with
  | nil => cases h
  | cons c t =>
    by_cases hc : c ∈ set
    · rw [mustS_hit t hc] at h; cases h; exact ⟨c, hc, rfl⟩
    · rw [mustS_miss t hc] at h; cases h
theorem uptoS_out {a b : Int} {l : List UInt8} {v : Int} {r : List UInt8} (h : uptoS a b l = some (v, r)) : (∃ x y, l = x :: y :: r ∧ isD x = true ∧ isD y = true ∧ v = (val 0 [x, y] : Int)) ∧ a ≤ v ∧ v ≤ b := by
  obtain ⟨⟨u, r'⟩, h1, h2⟩ := Option.bind_eq_some_iff.1 h
  simp only at h2
  split at h2
  · cases h2
  · rename_i hn
    cases h2
    obtain ⟨xs, hx, hd, rfl, hv⟩ := digitsS_exact h1
    refine ⟨?_, by omega, by omega⟩
    match xs, hx with
    | [x, y], _ => exact ⟨x, y, rfl, hd x (by simp), hd y (by simp), hv⟩
theorem uptoS_in {a b : Int} {x y : UInt8} (r : List UInt8) (hx : isD x = true) (hy : isD y = true) : uptoS a b (x :: y :: r) = if (val 0 [x, y] : Int) < a ∨ (val 0 [x, y] : Int) > b then none else some ((val 0 [x, y] : Int), r) := by
  have := digitsS_app 2 [x, y] r rfl (by simp [hx, hy])
  unfold uptoS
  rw [show x :: y :: r = [x, y] ++ r from rfl, this, Option.bind_some]
theorem date_eq (l : List UInt8) : dateD l = dateR l := by
  unfold dateR
  cases h : shapeL l shDate with
  | true =>
    rw [if_pos rfl]
    obtain ⟨a, b, c, d, e, f, g, i, rfl, h1, h2, h3, h4, h5, h6, h7, h8⟩ := shape_date h
    have hA : ∀ x ∈ ([a, b, c, d] : List UInt8), isD x = true := by simp [h1, h2, h3, h4]
    have e1 := digitsS_app 4 [a, b, c, d] [45, e, f, 45, g, i] rfl hA
    show dateD ([a, b, c, d] ++ [45, e, f, 45, g, i]) = (if (val 0 [g, i] : Int) < 1 ∨ (val 0 [g, i] : Int) > daysOf (val 0 [a, b, c, d]) (val 0 [e, f]) then (0, 0, 0, false) else ((val 0 [a, b, c, d] : Int), (val 0 [e, f] : Int), (val 0 [g, i] : Int), true))
    have hm1 : mustS [45] [45, e, f, 45, g, i] = some [e, f, 45, g, i] := mustS_hit _ (by simp)
    have hm2 : mustS [45] [45, g, i] = some [g, i] := mustS_hit _ (by simp)
    have hu1 : uptoS 1 12 [e, f, 45, g, i] = _ := uptoS_in [45, g, i] h5 h6
    have hu2 := fun b : Int => uptoS_in (a := 1) (b := b) [] h7 h8
    generalize (val 0 [a, b, c, d]) = Y at *
    generalize (val 0 [e, f]) = M at *
    generalize (val 0 [g, i]) = D at *
    unfold dateD dateS monthS
    rw [e1, Option.bind_some]
    simp only
    by_cases hy : (Y : Int) < 1
    · have h0 : daysOf Y M = 0 := by unfold daysOf; rw [if_pos hy]
      rw [if_pos hy, h0, if_pos (by omega)]
      rfl
    · rw [if_neg hy, hm1, Option.bind_some, hu1]
      by_cases hm : (M : Int) < 1 ∨ (M : Int) > 12
      · have h0 : daysOf Y M = 0 := by
          unfold daysOf
          rw [if_neg hy]
          rcases hm with hm | hm
          · rw [if_pos hm]
          · rw [if_neg (by omega), if_pos hm]
        rw [if_pos hm, h0, if_pos (by omega)]
        rfl
      · rw [if_neg hm, Option.bind_some, Option.bind_some]
        simp only
        rw [hm2, Option.bind_some, hu2]
        by_cases hd : (D : Int) < 1 ∨ (D : Int) > daysOf Y M
        · rw [if_pos hd, if_pos hd]; rfl
        · rw [if_neg hd, if_neg hd]; rfl
  | false =>
    rw [if_neg (by decide)]
    unfold dateD
    cases hS : dateS l with
    | none => rfl
    | some x =>
      obtain ⟨⟨y, m, d⟩, r⟩ := x
      cases r with
      | cons z t => rfl
      | nil =>
        exfalso
        obtain ⟨⟨⟨y', m'⟩, r1⟩, g1, g2⟩ := Option.bind_eq_some_iff.1 hS
        obtain ⟨r2, g3, g4⟩ := Option.bind_eq_some_iff.1 g2
        obtain ⟨⟨d', r3⟩, g5, g6⟩ := Option.bind_eq_some_iff.1 g4
        obtain ⟨⟨y2, q1⟩, k1, k2⟩ := Option.bind_eq_some_iff.1 g1
        simp only at g3 g5 g6 k2
        split at k2
        · cases k2
        · obtain ⟨q2, k3, k4⟩ := Option.bind_eq_some_iff.1 k2
          obtain ⟨⟨m2, q3⟩, k5, k6⟩ := Option.bind_eq_some_iff.1 k4
          cases k6
          cases g6
          obtain ⟨xs, hx, hd, rfl, -⟩ := digitsS_exact k1
          obtain ⟨c1, hc1, rfl⟩ := mustS_out k3
          obtain ⟨⟨e, f, rfl, he, hf, -⟩, -⟩ := uptoS_out k5
          obtain ⟨c2, hc2, rfl⟩ := mustS_out g3
          obtain ⟨⟨g, i, rfl, hg, hi, -⟩, -⟩ := uptoS_out g5
          obtain rfl : c1 = 45 := by simpa using hc1
          obtain rfl : c2 = 45 := by simpa using hc2
          match xs, hx with
          | [a, b, c, d], _ =>
            have h1 := hd a (by simp)
            have h2 := hd b (by simp)
            have h3 := hd c (by simp)
            have h4 := hd d (by simp)
            have : shapeL ([a, b, c, d] ++ 45 :: e :: f :: 45 :: g :: i :: []) shDate = true := by simp [shapeL, shDate, h1, h2, h3, h4, he, hf, hg, hi]
            rw [this] at h
            cases h
theorem MicroDates : beadlelaw18_MicroDates.Ask := by
  intro a0 y m _ _ _ hs
  rw [← ofL_self a0]
  have hl : a0.data.toList.length ≤ 281474976710656 := by have : a0.data.toList.length = a0.size := by rw [Array.length_toList]; rfl
                                                          omega
  obtain ⟨l, hle⟩ : ∃ l, a0.data.toList = l := ⟨_, rfl⟩
  rw [hle] at hl ⊢
  refine Ev.rounds ?_
  refine Ev.congr (f := fun k => (micro_Date.f k (ofL l)).bind fun bt207 => ((beadleref18_Date.f k (ofL l)).bind fun bt212 => (if (bt207.1 == bt212.1 && (bt207.2.1 == bt212.2.1 && (bt207.2.2.1 == bt212.2.2.1))) = true then (if (bt207.2.2.2 == bt212.2.2.2) = true then ((micro_Days.f y m).bind fun t217 => ((beadleref18_Days.f k y m).bind fun t218 => (some (t217 == t218)))) else (some false)) else (some false)))) (fun k => by rw [beadlelaw18_MicroDates.f, speaks_num, Option.bind_some, if_pos rfl]) ?_
  refine Ev.bind (a := dateD l) ⟨5, fun k hk => Date_at k l hl (by omega)⟩ ?_
  refine Ev.bind (ref_date l hl) ?_
  rw [← date_eq]
  simp only [beq_self_eq_true, Bool.and_self, if_true, micro_Days.f, Option.bind_some]
  refine Ev.bind (ref_days y m) ?_
  simp only [beq_self_eq_true]
  exact Ev.now _
end Go.Proofs.YtnfjohpecedpnaaGreatDoor.Pure
