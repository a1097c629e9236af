/- The rests of lists as package merge's heap has them in memory, and the methods Len, Less, Swap. Conditions: those of each statement. -/
import Derived.Test.YtkkdpkfachpjeaaPSx6
import Derived.Test.YtkkdpkfachpjeaaMrg
namespace Go.Proofs.Ytkkdpkfachpjeaa.PS
open Go.RowKit Go.Lib Go.Proofs.Ytkkdpkfachpjeaa.OrdS Go.Proofs.YtkkdpkfachpjeaaW.PrintWords Go.Proofs.YtkkdpkfachpjeaaW.PrintLast Go.Proofs.YtkkdpkfachpjeaaW.PrintMore

/-- A slice's value. -/
structure Hdr where
  A : Option Addr
  n : Nat
  c : Nat
def encH (h : Hdr) : Value := .slice h.A h.n h.c
def dH : Hdr := ⟨none, 0, 0⟩
/-- A slice that reads as a list. -/
structure Hd (w0 : World) (h : Hdr) (l : List S27) : Prop where
  n : h.n = l.length
  c : l.length ≤ h.c
  r : Kd.C k27 w0 h.A l.length l
theorem Hd.dflt (w0 : World) : Hd w0 dH [] := ⟨rfl, Nat.le_refl _, Kd.C_nil _ _⟩
/-- What is of none of the two types of the rests stays. -/
def Fr (W1 w : World) : Prop := ∀ (k : Nat) (c : Array Value) (t : TypeId) (f : Nat × Nat), W1.heap[k]? = some (.cells c t f) → t ≠ 38 → t ≠ 55 → w.heap[k]? = some (.cells c t f)
theorem Fr.refl (w : World) : Fr w w := fun _ _ _ _ h _ _ => h
theorem Fr.below {W1 w w' : World} (h : Fr W1 w) (hb : Below w.heap.size w w') : Fr W1 w' := fun k c t f h1 h2 h3 => (hb.block k (blk_lt (h k c t f h1 h2 h3))).trans (h k c t f h1 h2 h3)
theorem Fr.set_ {W1 w : World} {b t : Nat} {cs : Array Value} {f : Nat × Nat} (h : Fr W1 w) (hb : w.heap[b]? = some (.cells cs t f)) (ht : t = 38 ∨ t = 55) (j : Nat) (u : Value) : Fr W1 (w.setCell ⟨b, j, none⟩ u) := by
  intro k c t' f' h1 h2 h3
  have h4 := h k c t' f' h1 h2 h3
  refine (Below.heap_setCell w ⟨b, j, none⟩ u k (fun e => ?_)).trans h4
  subst e
  rw [hb] at h4
  injection h4 with h4
  injection h4 with _ h4
  subst h4
  rcases ht with ht | ht
  · exact h2 ht
  · exact h3 ht
theorem Fr.grown {W1 w w1 : World} {row : Option Nat} (h : Fr W1 w) (hg : w.grownBy w1 row) (hr : ∀ k, row = some k → ∃ c f, w.heap[k]? = some (.cells c 38 f)) : Fr W1 w1 := by
  intro k c t f h1 h2 h3
  have h4 := h k c t f h1 h2 h3
  refine blk_grown h4 hg (fun e => ?_)
  obtain ⟨c', f', h5⟩ := hr k e.symm
  rw [h4] at h5
  injection h5 with h5
  injection h5 with _ h5
  exact h2 h5
structure RV (w0 W1 : World) (g : Nat) (w : World) (v : Value) (ls : List (List S27)) : Prop where
  ge : w0.heap.size ≤ g
  cell : w.heap[g]? = some (.cells #[v] 55 (0, 0))
  row : ∃ hs : List Hdr, w.ownsRow w0.heap.size 38 1 v ls.length (encs encH hs) ∧ hs.length = ls.length ∧ ∀ i, Hd w0 (hs.getD i dH) (ls.getD i [])
  below : Below w0.heap.size w0 w
  fr : Fr W1 w
theorem RV.mono {w0 W1 w w' : World} {g : Nat} {v : Value} {ls : List (List S27)} (h : RV w0 W1 g w v ls) (hb : Below w.heap.size w w') : RV w0 W1 g w' v ls := by
  obtain ⟨hs, h1, h2, h3⟩ := h.row
  exact ⟨h.ge, (hb.block g (blk_lt h.cell)).trans h.cell, ⟨hs, pw_own_below h1 hb, h2, h3⟩, below_then h.below h.below.size hb, h.fr.below hb⟩
theorem RV.rebase {w0 W1 w : World} {g : Nat} {v : Value} {ls : List (List S27)} (h : RV w0 W1 g w v ls) : RV w0 w g w v ls := ⟨h.ge, h.cell, h.row, h.below, Fr.refl w⟩
theorem RV.form {w0 W1 w : World} {g : Nat} {v : Value} {ls : List (List S27)} (h : RV w0 W1 g w v ls) (h0 : 0 < ls.length) : ∃ b cap, v = .slice (some ⟨b, 0, none⟩) ls.length cap := by
  obtain ⟨hs, h1, _⟩ := h.row
  obtain ⟨b, cap, e, _⟩ := h1.form h0
  exact ⟨b, cap, e⟩
theorem RV.slice_ {w0 W1 w : World} {g : Nat} {v : Value} {ls : List (List S27)} (h : RV w0 W1 g w v ls) : ∃ A c, v = .slice A ls.length c := by
  obtain ⟨hs, h1, _⟩ := h.row
  exact own_slice h1
/-- A rest, read. -/
theorem RV.at_ {w0 W1 w : World} {g b cap : Nat} {ls : List (List S27)} (h : RV w0 W1 g w (.slice (some ⟨b, 0, none⟩) ls.length cap) ls) (i : Nat) (hi : i < ls.length) : ∃ A c, w.cell? ⟨b, i, none⟩ = some (.slice A (Heap.g [] ls i).length c) ∧ (Heap.g [] ls i).length ≤ c ∧ Kd.C k27 w A (Heap.g [] ls i).length (Heap.g [] ls i) := by
  obtain ⟨hs, h1, h2, h3⟩ := h.row
  have h4 := (own_at_of (enc := encH) (d := dH) h1 (i : Int) (by omega) (by omega)).1
  rw [Int.toNat_natCast] at h4
  have h5 := h3 i
  refine ⟨(hs.getD i dH).A, (hs.getD i dH).c, ?_, h5.c, Kd.C_below h5.r h.below⟩
  rw [h4]
  show some (encH (rdOf dH hs (i : Int))) = _
  unfold rdOf encH
  rw [Int.toNat_natCast, h5.n]
  rfl
theorem less_f (x y : S27) : merge_Less.f 4 x.f0 x.f1 x.f2 y.f0 y.f1 y.f2 = some (lt27 x y) := by
  unfold merge_Less.f
  rw [← ltOf_cmpD, show merge_compare.f 4 x.f0 x.f1 x.f2 y.f0 y.f1 y.f2 = some (cmpD x y) from compare_eq 0 ..]
  rfl
theorem rests_len (A : Option Addr) (n c : Nat) (w : World) : Calls Try.prog 25 #[.slice A n c] w fun e w' => e = .returned (.int .i64 (n : Int)) ∧ w = w' := by
  go_enter Try.func25, Try.ntmps25
  go_wp2
  go_ret
  exact ⟨rfl, rfl⟩
set_option maxHeartbeats 4000000 in
set_option maxRecDepth 100000 in
theorem rests_less {w0 W1 w : World} {g : Nat} {v : Value} {ls : List (List S27)} (h : RV w0 W1 g w v ls) (i j : Nat) (hi : i < ls.length) (hj : j < ls.length) (hne : ∀ k, k < ls.length → Heap.g [] ls k ≠ []) :
    Calls Try.prog 72 #[v, .int .i64 (i : Int), .int .i64 (j : Int)] w fun e w' => e = .returned (.bool (Mrg.L (Heap.g [] ls i) (Heap.g [] ls j))) ∧ Below w.heap.size w w' := by
  obtain ⟨b, cap, rfl⟩ := h.form (by omega)
  obtain ⟨A, c, x, _, hx⟩ := h.at_ i hi
  obtain ⟨B, d, y, _, hy⟩ := h.at_ j hj
  have hi0 : 0 < (Heap.g [] ls i).length := List.length_pos_iff.2 (hne i hi)
  have hj0 : 0 < (Heap.g [] ls j).length := List.length_pos_iff.2 (hne j hj)
  obtain ⟨ad, rfl, x0, x1, x2⟩ := at_T27 hx 0 (by decide) (by omega)
  obtain ⟨be, rfl, y0, y1, y2⟩ := at_T27 hy 0 (by decide) (by omega)
  have ha : ∀ a : Addr, a.add ((0 : Int).toNat * 3) = a := fun a => by unfold Addr.add; simp
  rw [ha] at x0 x1 x2 y0 y1 y2
  clear ha
  have hL : merge_Less.f 4 (rd_T27 (Heap.g [] ls i) 0).f0 (rd_T27 (Heap.g [] ls i) 0).f1 (rd_T27 (Heap.g [] ls i) 0).f2 (rd_T27 (Heap.g [] ls j) 0).f0 (rd_T27 (Heap.g [] ls j) 0).f1 (rd_T27 (Heap.g [] ls j) 0).f2 = some (Mrg.L (Heap.g [] ls i) (Heap.g [] ls j)) := less_f _ _
  have HL := Aside0.mk hL
  clear hL hx hy h hne
  have hu38 := Try.underlying38
  have hu55 := Try.underlying55
  generalize Mrg.L (Heap.g [] ls i) (Heap.g [] ls j) = r at HL ⊢
  generalize rd_T27 (Heap.g [] ls i) 0 = p at HL x0 x1 x2
  generalize rd_T27 (Heap.g [] ls j) 0 = q at HL y0 y1 y2
  generalize (Heap.g [] ls i).length = m at *
  generalize (Heap.g [] ls j).length = n at *
  generalize ls.length = N at *
  go_enter Try.func72, Try.ntmps72
  go_wp2
  go_region_law ((refine goes_ Try.func8 (by kernel_rfl) rfl #[.agg #[.int .i64 p.f0, .int .i64 p.f1, .string p.f2], .agg #[.int .i64 q.f0, .int .i64 q.f1, .string q.f2]] (by rfl) rfl rfl (by (try simp only [List.map_toArray, List.map_cons, List.map_nil]); first | done | rfl) ?_); refine (merge_Less.calls 4 p.f0 p.f1 p.f2 q.f0 q.f1 q.f2 r _ HL.out).mono ?_; rintro e w1 ⟨rfl, hb⟩; refine ⟨_, rfl, ?_⟩)
  all_goals
    go_wp2
    go_ret
    exact ⟨rfl, Below.trans (below_drew1 (Below.refl _ _)) hb⟩
/-! ### Swap -/
theorem hs_set {w0 : World} {hs : List Hdr} {ls : List (List S27)} (hl : hs.length = ls.length) (h : ∀ i, Hd w0 (hs.getD i dH) (ls.getD i [])) (i : Nat) (hi : i < ls.length) (x : Hdr) (y : List S27) (hx : Hd w0 x y) : ∀ k, Hd w0 ((hs.set i x).getD k dH) ((ls.set i y).getD k []) := by
  intro k
  have e1 := Heap.g_set dH hs i k x (by omega)
  have e2 := Heap.g_set ([] : List S27) ls i k y hi
  unfold Heap.g at e1 e2
  rw [e1, e2]
  by_cases e : k = i
  · rw [if_pos e, if_pos e]; exact hx
  · rw [if_neg e, if_neg e]; exact h k
/-- One rest is put at a place. -/
theorem RV.put {w0 W1 w : World} {g b cap : Nat} {ls : List (List S27)} (h : RV w0 W1 g w (.slice (some ⟨b, 0, none⟩) ls.length cap) ls) (i : Nat) (hi : i < ls.length) (x : Hdr) (y : List S27) (hx : Hd w0 x y) : RV w0 W1 g (w.setCell ⟨b, i, none⟩ (encH x)) (.slice (some ⟨b, 0, none⟩) (ls.set i y).length cap) (ls.set i y) := by
  obtain ⟨hs, h1, h2, h3⟩ := h.row
  obtain ⟨h4, h5⟩ := own_store_of (enc := encH) h1 (i : Int) x
  rw [Int.toNat_natCast] at h4 h5
  have hb : w0.heap.size ≤ b := own_base h1 b (by simp [Value.ownBlock])
  have hgb : some g ≠ (.slice (some ⟨b, 0, none⟩) ls.length cap : Value).ownBlock := own_ne h1 h.cell (by decide)
  refine ⟨h.ge, ?_, ⟨hs.set i x, ?_, by rw [List.length_set, List.length_set, h2], hs_set h2 h3 i hi x y hx⟩, ?_, ?_⟩
  · rw [List.length_set]
    exact (blk_far h.cell (p := ⟨b, i, none⟩) (fun e => hgb (by simp [Value.ownBlock, e])) _)
  · rw [List.length_set]
    exact h4
  · exact h.below.grown h5 h.below.size (fun k hk => by injection hk with hk; omega)
  · obtain ⟨cs, hcs⟩ := own_typed h1 b (by simp [Value.ownBlock])
    exact h.fr.set_ hcs (.inl rfl) i _
theorem RV.cell_ {w0 W1 w : World} {g b n cap : Nat} {ls : List (List S27)} (h : RV w0 W1 g w (.slice (some ⟨b, 0, none⟩) n cap) ls) (i : Nat) (hi : i < ls.length) : ∃ u, w.cell? ⟨b, i, none⟩ = some u ∧ w.frozen? ⟨b, i, none⟩ = false := by
  obtain ⟨A, c, e⟩ := h.slice_
  injection e with e1 e2 e3
  subst e2
  obtain ⟨hs, h1, h2, _⟩ := h.row
  obtain ⟨x, fx⟩ := own_at_of (enc := encH) (d := dH) h1 (i : Int) (by omega) (by omega)
  rw [Int.toNat_natCast] at x fx
  exact ⟨_, x, fx⟩
set_option maxHeartbeats 4000000 in
set_option maxRecDepth 100000 in
theorem rests_swap {w0 W1 w : World} {g : Nat} {v : Value} {ls : List (List S27)} (h : RV w0 W1 g w v ls) (i j : Nat) (hi : i < ls.length) (hj : j < ls.length) :
    Calls Try.prog 75 #[v, .int .i64 (i : Int), .int .i64 (j : Int)] w fun e w' => e = .returned (.tuple #[]) ∧ RV w0 W1 g w' v (Heap.sw [] ls i j) ∧ Below w0.heap.size w w' := by
  obtain ⟨b, cap, rfl⟩ := h.form (by omega)
  obtain ⟨hs, h1, h2, h3⟩ := h.row
  obtain ⟨x, fx⟩ := own_at_of (enc := encH) (d := dH) h1 (i : Int) (by omega) (by omega)
  obtain ⟨y, fy⟩ := own_at_of (enc := encH) (d := dH) h1 (j : Int) (by omega) (by omega)
  rw [Int.toNat_natCast] at x fx y fy
  have ex : rdOf dH hs (i : Int) = hs.getD i dH := by unfold rdOf; rw [Int.toNat_natCast]
  have ey : rdOf dH hs (j : Int) = hs.getD j dH := by unfold rdOf; rw [Int.toNat_natCast]
  rw [ex] at x
  rw [ey] at y
  have hp1 := h.put i hi (hs.getD j dH) (ls.getD j []) (h3 j)
  have hp2 := h.put j hj (hs.getD i dH) (ls.getD i []) (h3 i)
  have hp3 := hp1.put j (by rw [List.length_set]; exact hj) (hs.getD i dH) (ls.getD i []) (h3 i)
  have hp4 := hp2.put i (by rw [List.length_set]; exact hi) (hs.getD j dH) (ls.getD j []) (h3 j)
  obtain ⟨u, xu, fu⟩ := hp1.cell_ j (by rw [List.length_set]; exact hj)
  obtain ⟨t, xt, ft⟩ := hp2.cell_ i (by rw [List.length_set]; exact hi)
  have HP3 := Aside0.mk hp3
  have HP4 := Aside0.mk hp4
  clear hp1 hp2 hp3 hp4
  have hu38 := Try.underlying38
  have hu55 := Try.underlying55
  have HI := Aside0.mk hi
  have HJ := Aside0.mk hj
  have HB0 := Aside0.mk (own_base h1 b (by simp [Value.ownBlock]))
  clear h h1 h2 h3 ex ey
  generalize hs.getD i dH = p at x xt ft HP3 HP4
  generalize hs.getD j dH = q at y xu fu HP3 HP4
  obtain ⟨pa, pn, pc⟩ := p
  obtain ⟨qa, qn, qc⟩ := q
  simp only [encH] at x y xu xt fu ft HP3 HP4
  have hN := Aside0.mk (rfl : ls.length = ls.length)
  go_enter Try.func75, Try.ntmps75
  go_wp2
  go_region
  all_goals
    refine bodyPost_end (v := .tuple #[]) (by simp [results, Try.results75, go_sem]) rfl ⟨rfl, ?_, ?_⟩
    · have h5 := HP3.out.mono (below_drew1 (Below.refl _ _))
      rw [List.length_set, List.length_set] at h5
      exact h5
    · exact below_drew1 (((Below.refl _ w).setCell (p := ⟨b, i, none⟩) HB0.out _).setCell (p := ⟨b, j, none⟩) HB0.out _)
end Go.Proofs.Ytkkdpkfachpjeaa.PS
