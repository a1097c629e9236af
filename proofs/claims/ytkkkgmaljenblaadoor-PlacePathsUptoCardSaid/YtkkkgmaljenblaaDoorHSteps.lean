/- place.Steps at any string of at most 4000000000 bytes: it returns the numbers between the slashes, or that it is no path. Conditions: those of each statement. -/
import Derived.Test.YtkkkgmaljenblaaDoorPSx0
import Derived.Test.YtkkkgmaljenblaaDoorGlob
import Derived.Lib.SplitLaws
import Derived.Outline
import Derived.Deep.Onto
import Derived.Lib.Hide
namespace Go.Proofs.YtkkkgmaljenblaaDoor.PS
open Go.RowKit Go.Proofs.YtkkkgmaljenblaaDoorW.PrintWords Go.Proofs.YtkkkgmaljenblaaDoorW.PrintLast Go.Proofs.YtkkkgmaljenblaaDoorW.PrintMore Go.Proofs.YtkkkgmaljenblaaDoor.Glob

abbrev slash : ByteArray := ⟨#[47]⟩
def segs (rest : ByteArray) : List ByteArray := Lib.splitB slash 0 (Lib.countB rest slash) rest
def stepOf (s : ByteArray) : Option Int :=
  match Lib.atoiAll s.data.toList with
  | .ok v => if v < 0 then none else if 18 < s.size then none else if Lib.itoa v = s.data.toList then some v else none
  | _ => none
def stepsOf : List ByteArray → Option (List Int)
  | [] => some []
  | s :: r => (stepOf s).bind fun v => (stepsOf r).bind fun vs => some (v :: vs)
def restOf (a0 : ByteArray) : ByteArray := ⟨(Lib.trimPrefix a0.data.toList [47]).toArray⟩
def stepsRes (a0 : ByteArray) : List Int × Bool :=
  if a0.data.toList = [47] then ([], true)
  else if Lib.hasPrefix a0.data.toList [47] = true then (match stepsOf (segs (restOf a0)) with
    | some xs => (xs, true)
    | none => ([], false))
  else ([], false)
def place_Steps.f (a0 : ByteArray) : Option (List Int × Bool) := if a0.size ≤ 4000000000 then some (stepsRes a0) else none

theorem restOf_size (a0 : ByteArray) : (restOf a0).size ≤ a0.size := by
  show (Lib.trimPrefix a0.data.toList [47]).toArray.size ≤ a0.data.size
  unfold Lib.trimPrefix
  split
  · simp
  · simp
theorem extract_size_le (s : ByteArray) (a b : Nat) : (s.extract a b).size ≤ s.size := by
  have : (s.extract a b).size = min b s.size - a := by simp [ByteArray.size_extract]
  omega
theorem splitB_sizes (sep : ByteArray) (save : Nat) (k : Nat) : ∀ s : ByteArray, ∀ p ∈ Lib.splitB sep save k s, p.size ≤ s.size := by
  induction k with
  | zero => intro s p hp; simp [Lib.splitB] at hp; subst hp; exact Nat.le_refl _
  | succ k ih =>
    intro s p hp
    rw [Lib.splitB] at hp
    split at hp
    · simp at hp; subst hp; exact Nat.le_refl _
    · rcases List.mem_cons.1 hp with rfl | hp
      · exact extract_size_le _ _ _
      · exact Nat.le_trans (ih _ p hp) (extract_size_le _ _ _)
theorem segs_len (rest : ByteArray) : (segs rest).length = Lib.countB rest slash + 1 := Lib.splitB_all slash (by decide) 0 _ rest rfl
theorem segs_size (rest : ByteArray) (p : ByteArray) (hp : p ∈ segs rest) : p.size ≤ rest.size := splitB_sizes _ _ _ _ p hp

def StepsPost (w : World) (r1 : List Int) (r2 : Bool) (e : Ending) (w' : World) : Prop := ∃ v0_ : Value, e = .returned (.tuple #[v0_, .bool r2]) ∧ Kd.R (Kd.int .i64) 3 w' w.heap.size (fun _ => True) v0_ r1 ∧ Below w.heap.size w w'
theorem fin_nil (w : World) : ∀ {b : Bool}, StepsPost w [] b (.returned (.tuple #[.slice none 0 0, .bool b])) w := by
  intro b
  exact ⟨_, rfl, Kd.R_of_own ⟨by simp [encs], .inl ⟨rfl, rfl⟩⟩ (fun k _ => trivial), Below.refl _ _⟩
theorem R47 {a0 : ByteArray} {r1 : List Int} {r2 : Bool} (h1 : r1 = (stepsRes a0).1) (h2 : r2 = (stepsRes a0).2) (h : a0.toList = [47]) : [] = r1 ∧ true = r2 := by
  have h' : a0.data.toList = [47] := by rw [← ByteArray.toList_eq]; exact h
  unfold stepsRes at h1 h2
  rw [if_pos h'] at h1 h2
  exact ⟨h1.symm, h2.symm⟩
theorem RnoP {a0 : ByteArray} {r1 : List Int} {r2 : Bool} (h1 : r1 = (stepsRes a0).1) (h2 : r2 = (stepsRes a0).2) (h : ¬ a0.toList = [47]) (hp : false = Lib.hasPrefix a0.data.toList [47]) : [] = r1 ∧ false = r2 := by
  have h' : ¬ a0.data.toList = [47] := by rw [← ByteArray.toList_eq]; exact h
  unfold stepsRes at h1 h2
  rw [if_neg h', if_neg (by rw [← hp]; decide)] at h1 h2
  exact ⟨h1.symm, h2.symm⟩
theorem Rp {a0 : ByteArray} {r1 : List Int} {r2 : Bool} {L : List ByteArray} (h1 : r1 = (stepsRes a0).1) (h2 : r2 = (stepsRes a0).2) (h : ¬ a0.toList = [47]) (hp : true = Lib.hasPrefix a0.data.toList [47]) (hL : L = segs (restOf a0)) : (stepsOf L = some r1 ∧ r2 = true) ∨ (stepsOf L = none ∧ r1 = [] ∧ r2 = false) := by
  have h' : ¬ a0.data.toList = [47] := by rw [← ByteArray.toList_eq]; exact h
  unfold stepsRes at h1 h2
  rw [if_neg h', if_pos hp.symm, ← hL] at h1 h2
  cases e : stepsOf L with
  | none => rw [e] at h1 h2; exact .inr ⟨rfl, h1, h2⟩
  | some xs => rw [e] at h1 h2; exact .inl ⟨by rw [h1], h2⟩
theorem own_below {w w' : World} {B e size n : Nat} {v : Value} {xs : List Value} (h : w.ownsRow B e size v n xs) (hb : Below w.heap.size w w') : w'.ownsRow B e size v n xs := by
  refine ⟨h.1, ?_⟩
  rcases h.2 with h1 | ⟨g, cap, cur, h1, h2, h3, h4⟩
  · exact .inl h1
  · refine .inr ⟨g, cap, cur, h1, h2, ?_, h4⟩
    rw [hb.block g (by
      apply Decidable.byContradiction
      intro hn
      rw [Array.getElem?_eq_none (by omega)] at h3
      cases h3)]
    exact h3
structure LoopR (w : World) (L : List ByteArray) (k : Nat) (xs : List Int) (v : Value) (wr : World) : Prop where
  len : xs.length = k
  own : wr.ownsRow (w.heap.size + 1) 3 1 v xs.length (nums .i64 xs)
  res : stepsOf L = (stepsOf (L.drop k)).map (xs ++ ·)
  bel : Below (w.heap.size + 1) (w.alloc (.cells (L.map Value.string).toArray 9)) wr
theorem LoopR.start (w : World) (L : List ByteArray) : LoopR w L 0 [] (.slice none 0 0) (w.alloc (.cells (L.map Value.string).toArray 9)) :=
  ⟨rfl, ⟨by simp [nums], .inl ⟨rfl, rfl⟩⟩, by simp, Below.refl _ _⟩
theorem LoopR.bel0 {w : World} {L : List ByteArray} {k : Nat} {xs : List Int} {v : Value} {wr : World} (h : LoopR w L k xs v wr) : Below w.heap.size w wr :=
  ((Below.refl _ _).alloc (Nat.le_refl _) _).trans (h.bel.mono (Nat.le_succ _))
theorem LoopR.cell {w : World} {L : List ByteArray} {k : Nat} {xs : List Int} {v : Value} {wr : World} (h : LoopR w L k xs v wr) (j : Nat) (s : ByteArray) (hs : L[j]? = some s) : wr.cell? ⟨w.heap.size, j, none⟩ = some (.string s) := by
  have hb : wr.heap[w.heap.size]? = (w.alloc (.cells (L.map Value.string).toArray 9)).heap[w.heap.size]? := h.bel.block _ (Nat.lt_succ_self _)
  rw [heap_alloc_new] at hb
  have := World.news_of_block (cs := (L.map Value.string).toArray) (t := 9) (fr := (0, 0)) hb j (.string s) (by simp [hs])
  rwa [show (⟨w.heap.size, 0, none⟩ : Addr).add j = ⟨w.heap.size, j, none⟩ from by (simp only [Addr.add, Nat.zero_add]; split <;> simp_all)] at this
theorem LoopR.done {w : World} {L : List ByteArray} {xs : List Int} {v : Value} {wr : World} (h : LoopR w L L.length xs v wr) {r1 : List Int} {r2 : Bool} (hr : (stepsOf L = some r1 ∧ r2 = true) ∨ (stepsOf L = none ∧ r1 = [] ∧ r2 = false)) : StepsPost w r1 r2 (.returned (.tuple #[v, .bool true])) wr := by
  have hs : stepsOf L = some xs := by rw [h.res, List.drop_length]; simp [stepsOf]
  rcases hr with ⟨h1, rfl⟩ | ⟨h1, _⟩
  · rw [hs] at h1
    cases h1
    exact ⟨v, rfl, Kd.R_of_own (by have := h.own.mono (Nat.le_succ w.heap.size); simpa [nums, encs] using this) (fun _ _ => trivial), h.bel0⟩
  · rw [hs] at h1
    cases h1
theorem LoopR.bad {w : World} {L : List ByteArray} {k : Nat} {xs : List Int} {v : Value} {wr w' : World} (h : LoopR w L k xs v wr) {r1 : List Int} {r2 : Bool} (hr : (stepsOf L = some r1 ∧ r2 = true) ∨ (stepsOf L = none ∧ r1 = [] ∧ r2 = false)) {s : ByteArray} (hs : L[k]? = some s) (hn : stepOf s = none) (hb : Below w.heap.size w w') : StepsPost w r1 r2 (.returned (.tuple #[.slice none 0 0, .bool false])) w' := by
  have hd : stepsOf L = none := by
    obtain ⟨hl, rfl⟩ := List.getElem?_eq_some_iff.1 hs
    rw [h.res, List.drop_eq_getElem_cons hl]
    simp [stepsOf, hn]
  rcases hr with ⟨h1, rfl⟩ | ⟨_, rfl, rfl⟩
  · rw [hd] at h1; cases h1
  · exact ⟨_, rfl, Kd.R_of_own ⟨by simp [encs], .inl ⟨rfl, rfl⟩⟩ (fun k _ => trivial), hb⟩
theorem LoopR.push {w : World} {L : List ByteArray} {k : Nat} {xs : List Int} {v v' : Value} {wr w1 w2 w3 : World} (h : LoopR w L k xs v wr) {s : ByteArray} {n : Int} (hs : L[k]? = some s) (hn : stepOf s = some n) (hb1 : Below wr.heap.size wr w1) (hb2 : Below w1.heap.size w1 w2) {o : Obj} (ho : w3.ownsRow (w.heap.size + 1) 3 1 v' (xs.length + 1) (nums .i64 xs ++ [.int .i64 n])) (hg : (w2.alloc o).grownBy w3 v.ownBlock) : LoopR w L (k + 1) (xs ++ [n]) v' w3 := by
  refine ⟨by simp [h.len], by simpa [nums] using ho, ?_, ?_⟩
  · obtain ⟨hl, rfl⟩ := List.getElem?_eq_some_iff.1 hs
    rw [h.res, List.drop_eq_getElem_cons hl]
    simp only [stepsOf, hn, Option.bind_some]
    cases stepsOf (L.drop (k + 1)) <;> simp
  · have e0 : w.heap.size + 1 ≤ wr.heap.size := by have := h.bel.size; simpa using this
    have e1 := hb1.size
    have e2 := hb2.size
    exact ((((h.bel.trans (hb1.mono e0)).trans (hb2.mono (by omega))).alloc (by omega) o).grown hg (by simp; omega) (fun b hb => own_base h.own b hb))
theorem ok_rng {l : List UInt8} {n : Int} (h : Lib.atoiAll l = .ok n) : -9223372036854775808 ≤ n ∧ n ≤ 9223372036854775807 := by
  unfold Lib.atoiAll at h
  cases l with
  | nil => cases h
  | cons c r =>
    simp only at h
    split at h
    · cases h
    · cases h
    · split at h
      · cases h
      · split at h
        · cases h
        · injection h with h
          subst h
          split <;> omega
inductive Ends (s : ByteArray) : Ending → Prop
  | bad (n : Int) (N : Nat) (h : Aside0 (stepOf s = none)) : Ends s (.returned (.tuple #[.int .i64 n, .iface 52 (.pointer (some ⟨N, 0, none⟩))]))
  | neg (n : Int) (h1 : decide (n < 0) = true) (h : Aside0 (stepOf s = none)) : Ends s (.returned (.tuple #[.int .i64 n, .nilIface]))
  | long (n : Int) (h1 : decide (n < 0) = false) (h2 : decide ((s.size : Int) > 18) = true) (h : Aside0 (stepOf s = none)) : Ends s (.returned (.tuple #[.int .i64 n, .nilIface]))
  | other (n : Int) (h1 : decide (n < 0) = false) (h2 : decide ((s.size : Int) > 18) = false) (h3 : ((itoaB n).toList == s.toList) = false) (hr : Aside0 (-9223372036854775808 ≤ n ∧ n ≤ 9223372036854775807)) (h : Aside0 (stepOf s = none)) : Ends s (.returned (.tuple #[.int .i64 n, .nilIface]))
  | good (n : Int) (h1 : decide (n < 0) = false) (h2 : decide ((s.size : Int) > 18) = false) (h3 : ((itoaB n).toList == s.toList) = true) (hr : Aside0 (-9223372036854775808 ≤ n ∧ n ≤ 9223372036854775807)) (h : Aside0 (stepOf s = some n)) : Ends s (.returned (.tuple #[.int .i64 n, .nilIface]))
theorem ends_of {s : ByteArray} {e : Ending} (h : (∃ v, Lib.atoiAll s.data.toList = .ok v ∧ e = .returned (.tuple #[.int .i64 v, .nilIface])) ∨ ((∀ v, Lib.atoiAll s.data.toList ≠ .ok v) ∧ ∃ (n : Int) (N : Nat), e = .returned (.tuple #[.int .i64 n, .iface 52 (.pointer (some ⟨N, 0, none⟩))]))) : Ends s e := by
  rcases h with ⟨v, h1, rfl⟩ | ⟨h1, n, N, rfl⟩
  · have hb : (itoaB v).toList = Lib.itoa v := by rw [ByteArray.toList_eq]; rfl
    cases d1 : decide (v < 0) with
    | true => exact .neg v d1 ⟨by unfold stepOf; rw [h1]; simp only; rw [if_pos (of_decide_eq_true d1)]⟩
    | false =>
      have e1 := of_decide_eq_false d1
      cases d2 : decide ((s.size : Int) > 18) with
      | true =>
        have e2 := of_decide_eq_true d2
        exact .long v d1 d2 ⟨by unfold stepOf; rw [h1]; simp only; rw [if_neg e1, if_pos (by omega)]⟩
      | false =>
        have e2 := of_decide_eq_false d2
        cases d3 : ((itoaB v).toList == s.toList) with
        | false =>
          refine .other v d1 d2 d3 ⟨ok_rng h1⟩ ⟨?_⟩
          unfold stepOf; rw [h1]; simp only; rw [if_neg e1, if_neg (by omega), if_neg]
          intro e
          rw [hb, ByteArray.toList_eq] at d3
          simp [e] at d3
        | true =>
          refine .good v d1 d2 d3 ⟨ok_rng h1⟩ ⟨?_⟩
          unfold stepOf; rw [h1]; simp only; rw [if_neg e1, if_neg (by omega), if_pos]
          rw [hb, ByteArray.toList_eq] at d3
          simpa using d3
  · refine .bad n N ⟨?_⟩
    unfold stepOf
    cases e : Lib.atoiAll s.data.toList with
    | ok v => exact absurd e (h1 v)
    | _ => rfl
theorem infoI3 : (Tryd.prog.info? 3).map (fun i => (i.zero, i.size, i.bytes)) = some (some (.int .i64 0), 1, 8) := by kernel_rfl
set_option maxRecDepth 100000 in
set_option maxHeartbeats 4000000 in
theorem Steps_walk (a0 : ByteArray) (w : World) (hs : a0.size ≤ 4000000000) (hG : GW w) : Calls Tryd.prog 5 #[.string a0] w (StepsPost w (stepsRes a0).1 (stepsRes a0).2) := by
  obtain ⟨r1, hr1⟩ : ∃ r, r = (stepsRes a0).1 := ⟨_, rfl⟩
  obtain ⟨r2, hr2⟩ : ∃ r, r = (stepsRes a0).2 := ⟨_, rfl⟩
  rw [← hr1, ← hr2]
  have HR1 := Aside0.mk hr1
  have HR2 := Aside0.mk hr2
  have HG := Aside0.mk hG
  clear hr1 hr2 hG
  by_cases h1 : a0.toList = [47]
  · have h1b : (a0.toList == ([47] : List UInt8)) = true := beq_iff_eq.mpr h1
    have H1 := Aside0.mk h1
    clear h1
    go_enter Tryd.func5, Tryd.ntmps5
    go_wp2
    go_ret2
    obtain ⟨rfl, rfl⟩ := R47 HR1.out HR2.out H1.out
    exact fin_nil _
  · have h1b : (a0.toList == ([47] : List UInt8)) = false := by simpa using h1
    have H1 := Aside0.mk h1
    clear h1
    obtain ⟨pb, hp⟩ : ∃ b, b = Lib.hasPrefix a0.data.toList [47] := ⟨_, rfl⟩
    have hcut : ∀ w, Calls Tryd.prog 9 #[.string a0, .string ⟨#[47]⟩] w fun e w' => e = .returned (.tuple #[.string (restOf a0), .bool pb]) ∧ w' = w := by
      intro w
      rw [hp]
      exact Tryd.strings_CutPrefix a0 ⟨#[47]⟩ w
    cases pb with
    | false =>
      have HP := Aside0.mk hp
      clear hp
      go_enter Tryd.func5, Tryd.ntmps5
      go_wp2_with (go_at_call 9; refine (hcut _).mono ?_; rintro e w' ⟨rfl, rfl⟩)
      go_ret2
      obtain ⟨rfl, rfl⟩ := RnoP HR1.out HR2.out H1.out HP.out
      exact fin_nil _
    | true =>
      have HP := Aside0.mk hp
      clear hp
      have hrs : (restOf a0).size < 4294967281 := by have := restOf_size a0; omega
      obtain ⟨L, hL⟩ : ∃ L, L = segs (restOf a0) := ⟨_, rfl⟩
      have hlen : (Lib.countB (restOf a0) slash) + 1 = L.length := by rw [hL, segs_len]
      have hLs : ∀ p ∈ L, p.size ≤ 4000000000 := fun p hp => by
        have := segs_size (restOf a0) p (by rw [← hL]; exact hp)
        have := restOf_size a0
        omega
      have hLl : L.length ≤ 4000000001 := by
        have := Lib.countB_le slash (by decide) _ (restOf a0) (Nat.le_refl _)
        have := restOf_size a0
        omega
      have hsplit : Calls Tryd.prog 10 #[.string (restOf a0), .string ⟨#[47]⟩] w fun e w' => e = .returned (.slice (some ⟨w.heap.size, 0, none⟩) L.length L.length) ∧ w' = w.alloc (.cells (L.map Value.string).toArray 9) := by
        rw [← hlen, hL]
        exact Tryd.strings_Split_shaped (restOf a0) slash w HG.out.shaped hrs (by decide)
      have HS := Aside0.mk hLs
      have HRES : Aside0 ((stepsOf L = some r1 ∧ r2 = true) ∨ (stepsOf L = none ∧ r1 = [] ∧ r2 = false)) := ⟨Rp HR1.out HR2.out H1.out HP.out hL⟩
      clear hL hLs hlen
      go_enter Tryd.func5, Tryd.ntmps5
      go_wp2_with (first | (go_at_call 9; refine (hcut _).mono ?_; rintro e w' ⟨rfl, e1⟩; rw [e1]; clear e1 w') | (go_at_call 10; refine hsplit.mono ?_; rintro e w' ⟨rfl, rfl⟩))
      clear hcut hsplit
      go_loopg [6, 23] L.length (fun kq v6 i wr => ∃ (k : Nat) (xs : List Int), i = .int .i64 (k : Int) ∧ k ≤ L.length ∧ Aside0 (LoopR w L k xs v6 wr) ∧ Aside0 (kq + k = L.length))
      case atStart => exact ⟨0, [], rfl, Nat.zero_le _, ⟨LoopR.start w L⟩, ⟨by omega⟩⟩
      case round =>
        obtain ⟨k, xs, rfl, hk, HL, HM⟩ := hrel
        have hlk : xs.length = k := HL.out.len
        subst hlk
        by_cases hlt : xs.length < L.length
        · obtain ⟨s, hs1⟩ : ∃ s, L[xs.length]? = some s := ⟨_, List.getElem?_eq_getElem hlt⟩
          have hx := HL.out.cell xs.length s hs1
          have hss := HS.out s (List.mem_of_getElem? hs1)
          have HX := Aside0.mk hs1
          have HM2 := Aside0.mk hlt
          have hGr := HG.out.below HL.out.bel0
          clear hs1
          obtain ⟨i0, hi0, hz0, hz1, hz2⟩ := info_parts infoI3
          have hAt := atoi_calls s wr hGr (by omega)
          go_wp2_with (first
            | (go_at_call 11; refine hAt.mono ?_; rintro e w1 ⟨hb1, hA⟩; have hE := ends_of hA; have HB1 := Aside0.mk hb1; clear hb1 hA hAt; rcases hE with ⟨n, N, hno⟩ | ⟨n, hd1, hno⟩ | ⟨n, hd1, hd2, hno⟩ | ⟨n, hd1, hd2, hd3, hr, hno⟩ | ⟨n, hd1, hd2, hd3, hr, hso⟩)
            | (go_at_call 12; refine (itoa_calls n w1 (hGr.below HB1.out) hr.out.1 hr.out.2).mono ?_; rintro e w2 ⟨rfl, hb2⟩; have HB2 := Aside0.mk hb2; clear hb2)
            | (at_builtin; refine wpList_append_lies _ (by rfl) _ _ _ (by rfl) (w.heap.size + 1) 3 i0 _ 1 8 Tryd.underlying22 hi0 hz0 hz1 hz2 rfl (by omega) u6 xs.length (nums .i64 xs) (by rfl) ((own_below (own_below HL.out.own HB1.out) HB2.out).alloc _) ⟨w2.heap.size, 0, none⟩ 1 1 [.int .i64 n] (by rfl) (by rfl) (World.news_of_block (cs := #[.int .i64 n]) (t := 3) (fr := (0, 0)) (heap_alloc_new _ _)) (by simp [Value.oneCell']) (by omega) (by simp only [maxLen]; omega) (by omega) (by have := HL.out.bel.size; have := HB1.out.size; have := HB2.out.size; simp at *; omega) (w2.heap.size + 1) (by simp) ?_; intro gg cap w3 hown hgrow hat hltg; have HOWN := Aside0.mk hown; have HGROW := Aside0.mk hgrow; clear hown hgrow hat hltg))
          · go_ret2
            exact HL.out.bad HRES.out HX.out hno.out (HL.out.bel0.trans (HB1.out.mono HL.out.bel0.size))
          · go_ret2
            exact HL.out.bad HRES.out HX.out hno.out (HL.out.bel0.trans (HB1.out.mono HL.out.bel0.size))
          · go_ret2
            exact HL.out.bad HRES.out HX.out hno.out (HL.out.bel0.trans (HB1.out.mono HL.out.bel0.size))
          · go_ret2
            exact HL.out.bad HRES.out HX.out hno.out (HL.out.bel0.trans ((HB1.out.trans (HB2.out.mono HB1.out.size)).mono HL.out.bel0.size))
          · go_roundg (gk - 1)
            case measure => have := HM.out; have := HM2.out; omega
            case rel => exact ⟨xs.length + 1, xs ++ [n], by go_num, HM2.out, ⟨HL.out.push HX.out hso.out HB1.out HB2.out HOWN.out HGROW.out⟩, ⟨by have := HM.out; have := HM2.out; omega⟩⟩
        · have hk2 : xs.length = L.length := by omega
          have HF := Aside0.mk ((show LoopR w L L.length xs u6 wr from hk2 ▸ HL.out).done HRES.out)
          clear hk2
          go_wp2
          go_ret2
          exact HF.out
theorem place_Steps.calls (a0 : ByteArray) (r1 : List Int) (r2 : Bool) (w : World) (hG : GW w) (h : place_Steps.f a0 = some (r1, r2)) : Calls Tryd.prog 5 #[.string a0] w fun e w' => ∃ v0_ : Value, e = .returned (.tuple #[v0_, .bool r2]) ∧ Kd.R (Kd.int .i64) 3 w' w.heap.size (fun _ => True) v0_ r1 ∧ Below w.heap.size w w' := by
  unfold place_Steps.f at h
  split at h
  · rename_i hs
    injection h with h
    have := Steps_walk a0 w hs hG
    rw [h] at this
    exact this
  · cases h
end Go.Proofs.YtkkkgmaljenblaaDoor.PS
