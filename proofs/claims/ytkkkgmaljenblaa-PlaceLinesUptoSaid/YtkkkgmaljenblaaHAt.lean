/- place.Table.At at any table that reads, whose two lists rise: the line and the column; at nil: 0, 0. Nothing that was there has changed. -/
import Derived.Test.YtkkkgmaljenblaaHNew
import Derived.Test.YtkkkgmaljenblaaShelf
import Derived.IntWalk
namespace Go.Proofs.Ytkkkgmaljenblaa.PL
open Go.RowKit Go.Proofs.YtkkkgmaljenblaaW.PrintWords Go.Proofs.YtkkkgmaljenblaaW.PrintLast Go.Proofs.YtkkkgmaljenblaaW.PrintMore

/-- A row of whole numbers that reads, plainly addressed. -/
def Rd (W : World) (A : Option Addr) (xs : List Int) : Prop :=
  xs.length = 0 ∨ ∃ blk, A = some ⟨blk, 0, none⟩ ∧ blk < W.heap.size ∧ ∀ i, i < xs.length → W.cell? ⟨blk, 0 + i, none⟩ = some (.int .i64 (xs.getD i 0))
theorem Rd.below {W W' : World} {A : Option Addr} {xs : List Int} (h : Rd W A xs) (hb : Below W.heap.size W W') : Rd W' A xs := by
  rcases h with h | ⟨b, e, hl, hc⟩
  · exact .inl h
  · exact .inr ⟨b, e, Nat.lt_of_lt_of_le hl hb.size, fun i hi => (hb.cell (p := ⟨b, 0 + i, none⟩) hl).trans (hc i hi)⟩
structure TabAt (W : World) (T : Nat) (ps ls : List Int) (A : Option Addr) (c : Nat) (A' : Option Addr) (c' : Nat) : Prop where
  lt : T < W.heap.size
  c0 : W.cell? ⟨T, 0, none⟩ = some (.slice A ps.length c)
  c1 : W.cell? ⟨T, 1, none⟩ = some (.slice A' ls.length c')
  r0 : Rd W A ps
  r1 : Rd W A' ls
theorem TabAt.below {W W' : World} {T : Nat} {ps ls : List Int} {A : Option Addr} {c : Nat} {A' : Option Addr} {c' : Nat} (h : TabAt W T ps ls A c A' c') (hb : Below W.heap.size W W') : TabAt W' T ps ls A c A' c' :=
  ⟨Nat.lt_of_lt_of_le h.lt hb.size, (hb.cell (p := ⟨T, 0, none⟩) h.lt).trans h.c0, (hb.cell (p := ⟨T, 1, none⟩) h.lt).trans h.c1, h.r0.below hb, h.r1.below hb⟩
theorem rd_of_own {W : World} {base n : Nat} {v : Value} {xs : List Int} (h : W.ownsRow base 3 1 v n (nums .i64 xs)) : ∃ A c, v = .slice A xs.length c ∧ Rd W A xs := by
  have hl : xs.length = n := by have := h.1; simpa [nums] using this
  rcases Nat.eq_zero_or_pos n with h0 | h0
  · obtain ⟨A, c, rfl⟩ := own_slice h
    exact ⟨A, c, by rw [hl], .inl (by omega)⟩
  · obtain ⟨g, cap, rfl, hb, _⟩ := h.form h0
    refine ⟨_, cap, by rw [hl], .inr ⟨g, rfl, own_lt h g rfl, fun i hi => ?_⟩⟩
    have hc := h.cells (g := g) rfl i (.int .i64 (xs.getD i 0)) (by simp [nums, List.getElem?_eq_getElem hi, List.getD_eq_getElem?_getD])
    rw [Nat.zero_add, ← add_plain]; exact hc
theorem tab_of_new {w W : World} {xs : List S27} {n m : Nat} {vp vl : Value} (h : NewInv w W xs n m vp vl) : ∃ A c A' c', TabAt W w.heap.size (plc xs n) (nl xs m) A c A' c' := by
  obtain ⟨A, c, e, hr⟩ := rd_of_own h.op
  obtain ⟨A', c', e', hr'⟩ := rd_of_own h.ol
  subst e e'
  exact ⟨A, c, A', c', (Array.getElem?_eq_some_iff.1 h.blk).1, cell_of_block h.blk 0 _ rfl, cell_of_block h.blk 1 _ rfl, hr, hr'⟩

/-- How many are below. -/
def below (xs : List Int) (x : Int) : Nat := xs.countP (fun y => !decide (x ≤ y))
theorem below_le (xs : List Int) (x : Int) : below xs x ≤ xs.length := List.countP_le_length
theorem search_calls (A : Option Addr) (c : Nat) (xs : List Int) (x : Int) (w : World) (hr : Rd w A xs) (hs : xs.Pairwise (· ≤ ·)) (hl : xs.length ≤ 1048576) :
    Calls Try.prog 9 #[.slice A xs.length c, .int .i64 x] w fun e w' => e = .returned (.int .i64 (below xs x : Int)) ∧ Below w.heap.size w w' := by
  rcases hr with h0 | ⟨b, rfl, hb, hc⟩
  · obtain rfl : xs = [] := List.eq_nil_of_length_eq_zero h0
    exact Any.sort_SearchInts_none Try.searchInts A c x w
  · have := Any.sort_SearchInts Try.searchInts b 0 c xs.toArray x w (fun i hi => by
      have hi' : i < xs.length := by simpa using hi
      rw [hc i hi']; simp [List.getD_eq_getElem?_getD, getElem!_pos, hi']) hb (by simp; omega) (fun i j hij hj h => by
      have hj' : j < xs.length := by simpa using hj
      have hi' : i < xs.length := by omega
      rcases Nat.lt_or_eq_of_le hij with h2 | h2
      · have hp := List.pairwise_iff_getElem.1 hs i j hi' hj' h2
        simp [getElem!_pos, hj', hi'] at h ⊢
        omega
      · subst h2; exact h)
    have e : (xs.toArray.toList.countP (fun y => !decide (x ≤ y)) : Nat) = below xs x := rfl
    rw [e] at this
    exact this

/-- The line and the column. -/
def lineCol (ps ls : List Int) (at_ : Int) : Int × Int :=
  if below ls (below ps at_ : Int) = 0 then (1, (below ps at_ : Int) + 1) else ((below ls (below ps at_ : Int) : Int) + 1, (below ps at_ : Int) - ls.getD (below ls (below ps at_ : Int) - 1) 0)

set_option maxHeartbeats 1000000 in
theorem At_calls (T : Nat) (ps ls : List Int) (A : Option Addr) (c : Nat) (A' : Option Addr) (c' : Nat) (x : Int) (w : World) (h : TabAt w T ps ls A c A' c') (hs : ps.Pairwise (· ≤ ·)) (hs' : ls.Pairwise (· ≤ ·)) (hl : ps.length ≤ 1048576) (hl' : ls.length ≤ 1048576)
    (hbd : ∀ y ∈ ls, 0 ≤ y ∧ y ≤ 1048576) :
    Calls Try.prog 7 #[.pointer (some ⟨T, 0, none⟩), .int .i64 x] w fun e w' => e = .returned (.tuple #[.int .i64 (lineCol ps ls x).1, .int .i64 (lineCol ps ls x).2]) ∧ Below w.heap.size w w' := by
  have H := Aside0.mk h
  have HS := Aside0.mk hs
  have HS' := Aside0.mk hs'
  have HL := Aside0.mk hl
  have HL' := Aside0.mk hl'
  have c0 := h.c0
  clear h hs hs' hl hl'
  have hn1 := below_le ps x
  obtain ⟨n, hn⟩ : ∃ n, n = below ps x := ⟨_, rfl⟩
  have hm1 := below_le ls (n : Int)
  obtain ⟨m, hm⟩ : ∃ m, m = below ls (n : Int) := ⟨_, rfl⟩
  rw [← hn] at hn1
  rw [← hm] at hm1
  have e0 : lineCol ps ls x = if m = 0 then (1, (n : Int) + 1) else ((m : Int) + 1, (n : Int) - ls.getD (m - 1) 0) := by unfold lineCol; rw [← hn, ← hm]
  rw [e0]
  have hN : ∀ W : World, W = w → Calls Try.prog 9 #[.slice A ps.length c, .int .i64 x] W fun e w' => e = .returned (.int .i64 (n : Int)) ∧ Below W.heap.size W w' := fun W hW => by
    subst hW; rw [hn]; exact search_calls _ _ _ _ _ H.out.r0 HS.out HL.out
  have hM : ∀ W : World, Below w.heap.size w W → Calls Try.prog 9 #[.slice A' ls.length c', .int .i64 (n : Int)] W fun e w' => e = .returned (.int .i64 (m : Int)) ∧ Below W.heap.size W w' := fun W hW => by
    rw [hm]; exact search_calls _ _ _ _ _ (H.out.r1.below hW) HS'.out HL'.out
  have HN := Aside0.mk hN
  have HM := Aside0.mk hM
  clear hN hM hn hm e0 HS HS'
  have hn2 : n ≤ 1048576 := Nat.le_trans hn1 HL.out
  have hm2 : m ≤ 1048576 := Nat.le_trans hm1 HL'.out
  by_cases h0 : m = 0
  · subst h0
    go_enter Try.func7, Try.ntmps7
    go_wp2_with (go_at_call 9; first | (refine (HN.out _ rfl).mono ?_; rintro e w1 ⟨rfl, hb1⟩; have H2 := Aside0.mk (H.out.below hb1); have c1 := H2.out.c1; have HB1 := Aside0.mk hb1; clear hb1) | (refine (HM.out _ HB1.out).mono ?_; rintro e w2 ⟨rfl, hb2⟩; have HB2 := Aside0.mk hb2; clear hb2))
    go_ret2
    exact ⟨by simp, below_then HB1.out HB1.out.size HB2.out⟩
  · have hm3 : 0 < m := Nat.pos_of_ne_zero h0
    have hm4 : ((m : Int) == 0) = false := by simp; omega
    have hm5 : (0 : Int) ≤ (m : Int) - 1 := by omega
    have hm6 : (m : Int) - 1 < (ls.length : Int) := by omega
    have hv : 0 ≤ ls.getD (m - 1) 0 ∧ ls.getD (m - 1) 0 ≤ 1048576 := by
      apply hbd
      rw [List.getD_eq_getElem?_getD, List.getElem?_eq_getElem (by omega)]
      exact List.getElem_mem _
    obtain ⟨v, hvv⟩ : ∃ v, v = ls.getD (m - 1) 0 := ⟨_, rfl⟩
    rw [← hvv] at hv
    obtain ⟨hv1, hv2⟩ := hv
    have hcell : ∀ W : World, Below w.heap.size w W → ∃ blk, A' = some ⟨blk, 0, none⟩ ∧ W.cell? ⟨blk, m - 1, none⟩ = some (.int .i64 v) := fun W hW => by
      rcases H.out.r1.below hW with h | ⟨b, e, _, hc⟩
      · omega
      · refine ⟨b, e, ?_⟩
        have := hc (m - 1) (by omega)
        rw [Nat.zero_add] at this
        rw [this, hvv]
    have HC := Aside0.mk hcell
    have HV := Aside0.mk hvv
    clear hcell hvv
    rw [if_neg h0, ← HV.out]
    go_enter Try.func7, Try.ntmps7
    go_wp2_with (go_at_call 9; first | (refine (HN.out _ rfl).mono ?_; rintro e w1 ⟨rfl, hb1⟩; have H2 := Aside0.mk (H.out.below hb1); have c1 := H2.out.c1; have HB1 := Aside0.mk hb1; clear hb1) | (refine (HM.out _ HB1.out).mono ?_; rintro e w2 ⟨rfl, hb2⟩; have H3 := Aside0.mk (H2.out.below hb2); have c2 := H3.out.c1; have HB2 := Aside0.mk hb2; clear hb2; obtain ⟨blk, hA, hcc⟩ := HC.out _ (below_then HB1.out HB1.out.size HB2.out)))
    have g1 : IntKind.i64.wrap ((m : Int) - 1) = (m : Int) - 1 := IntWalk.i64_in _ (by omega)
    have g2 : ((m : Int) - 1).toNat = m - 1 := by omega
    have g3 : IntKind.i64.wrap ((m : Int) + 1) = (m : Int) + 1 := IntWalk.i64_in _ (by omega)
    have g4 : IntKind.i64.wrap ((n : Int) - v) = (n : Int) - v := IntWalk.i64_in _ (by omega)
    go_quiet (fail)
    clear g1 g2 g3 g4
    go_wp2
    go_ret2
    exact ⟨by simp, by (repeat (first | (with_reducible first | exact below_then HB1.out HB1.out.size HB2.out | apply pw_below_drewN | apply below_drew) | exact below_then HB1.out HB1.out.size HB2.out))⟩
set_option maxHeartbeats 1000000 in
theorem At_nil (x : Int) (w : World) : Calls Try.prog 7 #[.pointer none, .int .i64 x] w fun e w' => e = .returned (.tuple #[.int .i64 0, .int .i64 0]) ∧ Below w.heap.size w w' := by
  go_enter Try.func7, Try.ntmps7
  go_wp2
  go_ret2
  exact ⟨rfl, Below.refl _ _⟩
end Go.Proofs.Ytkkkgmaljenblaa.PL
