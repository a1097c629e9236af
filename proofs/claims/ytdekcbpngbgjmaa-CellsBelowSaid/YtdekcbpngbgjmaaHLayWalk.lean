/- cells.Lay at any rows of cells of at most 1000000 rows: it answers what LaySpec says, in new memory. Conditions: those of each statement. -/
import Derived.Test.YtdekcbpngbgjmaaHCover
import Derived.Outline
import Derived.IntWalk
import Derived.Deep.QuietTactic
import Derived.BigQuiet
namespace Go.Proofs.Ytdekcbpngbgjmaa.PC
open Go.RowKit Go.Proofs.YtdekcbpngbgjmaaW.PrintWords Go.Proofs.YtdekcbpngbgjmaaW.PrintLast Go.Proofs.YtdekcbpngbgjmaaW.PrintMore

theorem infoI3 : (Try.prog.info? 3).map (fun i => (i.zero, i.size, i.bytes)) = some (some (.int .i64 0), 1, 8) := by kernel_rfl
theorem infoA33 : (Try.prog.info? 33).map (fun i => (i.zero, i.size, i.bytes)) = some (some (.agg #[.int .i64 0, .int .i64 0, .int .i64 0]), 3, 24) := by kernel_rfl
theorem infoS46 : (Try.prog.info? 46).map (fun i => (i.zero, i.size, i.bytes)) = some (some (.slice none 0 0), 1, 24) := by kernel_rfl
def fl33 (xs : List S33) : List Value := xs.flatMap fun x => [.int .i64 x.f0, .int .i64 x.f1, .int .i64 x.f2]
theorem fl33_snoc (xs : List S33) (x : S33) : fl33 (xs ++ [x]) = fl33 xs ++ [.int .i64 x.f0, .int .i64 x.f1, .int .i64 x.f2] := by simp [fl33]

theorem ret_int {a b : Int} (h : a = b) : Ending.returned (.int .i64 a) = .returned (.int .i64 b) := by rw [h]
set_option maxHeartbeats 1000000 in
theorem bounded_calls (n : Int) (w : World) : Calls Try.prog 12 #[.int .i64 n] w fun e w' => e = .returned (.int .i64 (bnd n)) ∧ w = w' := by
  go_enter Try.func12, Try.ntmps12
  go_wp2
  all_goals
    go_ret
    refine ⟨ret_int ?_, rfl⟩
    unfold bnd
    (repeat' split) <;> omega

/-- Whatever is appended to another row of the call's own, the grid stays. -/
theorem Grid.other {w w1 : World} {base gb b' e' s' n' : Nat} {gs : List (List Bool)} {vs : List Value} {v' : Value} {xs' : List Value} (h : Grid w base gb gs vs) (ho : w.ownsRow b' e' s' v' n' xs') (h4 : e' ≠ 4) (h46 : e' ≠ 46) (hg : w.grownBy w1 v'.ownBlock) : Grid w1 base gb gs vs := by
  have hne : ∀ (b : Nat) (cells : Array Value) (q : TypeId), w.heap[b]? = some (.cells cells q (0, 0)) → q ≠ e' → v'.ownBlock ≠ some b := by
    intro b cells q hb hq e
    obtain ⟨c2, hc2⟩ := own_typed ho b e
    rw [hb] at hc2
    injection hc2 with hc2
    injection hc2 with _ ht
    exact hq ht
  have hk : ∀ (b : Nat) (cells : Array Value) (q : TypeId), w.heap[b]? = some (.cells cells q (0, 0)) → q ≠ e' → w1.heap[b]? = w.heap[b]? := fun b cells q hb hq => hg.block b (block_lt hb) (fun e => hne b cells q hb hq e.symm)
  refine ⟨(hk gb _ 46 h.blk (fun e => h46 e.symm)).trans h.blk, h.len, h.low, fun i v g hi hgi => ?_, h.far, h.apart⟩
  have hoi := h.own i v g hi hgi
  refine own_move hoi (fun b hb => ?_)
  obtain ⟨cells, hc⟩ := own_typed hoi b hb
  exact hk b cells 4 hc (fun e => h4 e.symm)
theorem Grid.alloc {w : World} {base gb : Nat} {gs : List (List Bool)} {vs : List Value} (h : Grid w base gb gs vs) (o : Obj) : Grid (w.alloc o) base gb gs vs :=
  ⟨block_alloc h.blk o, h.len, h.low, fun i v g hi hg => (h.own i v g hi hg).alloc o, h.far, h.apart⟩

structure LR (w wr : World) (s : LS) (v6 v7 v8 : Value) (gb : Nat) (vs : List Value) : Prop where
  grid : Grid wr w.heap.size gb s.gs vs
  oat : wr.ownsRow w.heap.size 33 3 v6 s.at_.length (fl33 s.at_)
  oov : wr.ownsRow w.heap.size 3 1 v7 s.over.length (nums .i64 s.over)
  oby : wr.ownsRow w.heap.size 3 1 v8 s.beyond.length (nums .i64 s.beyond)
  ne : ∀ b, v7.ownBlock = some b → v8.ownBlock ≠ some b
  bel : Below w.heap.size w wr
/-- What bounds the numbers. -/
structure LB (n : Nat) (s : LS) : Prop where
  len : s.gs.length = n
  lens : ∀ g ∈ s.gs, g.length ≤ 1000 * s.at_.length
  col : s.col ≤ 1000 * s.at_.length
  sum : (s.at_.length : Int) + s.left ≤ 4096
  left : 0 ≤ s.left
  ov : s.over.length ≤ s.at_.length
  by_ : s.beyond.length ≤ s.at_.length
theorem bnd_bd (n : Int) : 1 ≤ bnd n ∧ bnd n ≤ 1000 := by
  unfold bnd
  split
  · omega
  · split <;> omega
theorem setRow_len (l : List Bool) (c : Nat) : (setRow l c).length = max l.length (c + 1) := by
  unfold setRow
  rw [List.length_set, List.length_append, List.length_replicate]
  omega
theorem setG_lens {gs : List (List Bool)} {r c N : Nat} (h : ∀ g ∈ gs, g.length ≤ N) (hc : c + 1 ≤ N) : ∀ g ∈ setG gs r c, g.length ≤ N := by
  intro g hg
  unfold setG at hg
  rcases List.mem_or_eq_of_mem_set hg with h1 | h1
  · exact h g h1
  · rw [h1, setRow_len]
    have : (gs.getD r []).length ≤ N := by
      rw [List.getD_eq_getElem?_getD]
      cases e : gs[r]? with
      | none => simp
      | some x => exact h x (List.mem_of_getElem? e)
    omega
theorem blkRow_lens {gs : List (List Bool)} {ov : Bool} {r c N : Nat} (h : ∀ g ∈ gs, g.length ≤ N) (k : Nat) (hc : c + k ≤ N) : ∀ g ∈ (blkRow gs ov r c k).1, g.length ≤ N := by
  induction k with
  | zero => exact h
  | succ k ih => exact setG_lens (ih (by omega)) (by omega)
theorem blk_lens {gs : List (List Bool)} {ov : Bool} {r c wd N : Nat} (h : ∀ g ∈ gs, g.length ≤ N) (hc : c + wd ≤ N) (k : Nat) : ∀ g ∈ (blk gs ov r c wd k).1, g.length ≤ N := by
  induction k with
  | zero => exact h
  | succ k ih => exact blkRow_lens ih wd hc
theorem findG_bd {gs : List (List Bool)} {r c N : Nat} (h : ∀ g ∈ gs, g.length ≤ N) (hc : c ≤ N) : c ≤ findG gs r c ∧ findG gs r c ≤ N := by
  have hl : (gs.getD r []).length ≤ N := by
    rw [List.getD_eq_getElem?_getD]
    cases e : gs[r]? with
    | none => simp
    | some x => exact h x (List.mem_of_getElem? e)
  have h1 : (((gs.getD r []).drop c).takeWhile (fun b => b)).length ≤ ((gs.getD r []).drop c).length := (List.takeWhile_sublist _).length_le
  rw [List.length_drop] at h1
  unfold findG
  omega
theorem LB.cell {n r : Nat} {x : S37} {s s' : LS} (h : LB n s) (hr : r < n) (hs : layCell n r x s = some s') : LB n s' := by
  obtain ⟨h1, h2⟩ := bnd_bd x.f0
  obtain ⟨h3, h4⟩ := bnd_bd x.f1
  have hf := findG_bd (r := r) h.lens h.col
  unfold layCell at hs
  simp only at hs
  split at hs
  · simp at hs
  · rename_i hlt
    have hth : 1 ≤ min (bnd x.f0) ((n : Int) - (r : Int)) := by omega
    have hmul : 1 ≤ min (bnd x.f0) ((n : Int) - (r : Int)) * bnd x.f1 := by
      have := Int.mul_le_mul hth h3 (by omega) (by omega)
      omega
    obtain rfl := Option.some.inj hs
    refine ⟨by simp [blk_len, h.len], ?_, ?_, ?_, ?_, ?_, ?_⟩
    · refine blk_lens (fun g hg => ?_) ?_ _
      · have := h.lens g hg
        simp only [List.length_append, List.length_singleton]
        omega
      · simp only [List.length_append, List.length_singleton]
        omega
    · simp only [List.length_append, List.length_singleton]
      omega
    · have := h.sum
      simp only [List.length_append, List.length_singleton]
      omega
    · simp only; omega
    · have := h.ov
      simp only
      split <;> simp only [List.length_append, List.length_singleton] <;> omega
    · have := h.by_
      simp only
      split <;> simp only [List.length_append, List.length_singleton] <;> omega

theorem LR.start (w : World) (n : Nat) : LR w (w.alloc (.cells (madeCells #[.slice none 0 0] n) 46)) (ls0 n) (.slice none 0 0) (.slice none 0 0) (.slice none 0 0) w.heap.size (List.replicate n (.slice none 0 0)) := by
  have hrep : ∀ (i : Nat) (v : Value), (List.replicate n (Value.slice none 0 0))[i]? = some v → v = .slice none 0 0 := fun i v h => (List.mem_replicate.1 (List.mem_of_getElem? h)).2
  refine ⟨⟨?_, by simp [ls0], Nat.le_refl _, fun i v g hi hg => ?_, fun i v b hi hb => ?_, fun i j v u b hi _ _ hb => ?_⟩, own_nil _ _ _ _, own_nil _ _ _ _, own_nil _ _ _ _, by simp [Value.ownBlock], (Below.refl _ _).alloc (Nat.le_refl _) _⟩
  · rw [heap_alloc_new]
    congr 2
    apply Array.toList_inj.1
    rw [toList_madeCells_one]
  · obtain rfl := hrep i v hi
    have : g = [] := (List.mem_replicate.1 (List.mem_of_getElem? hg)).2
    subst this
    exact own_nil _ _ _ _
  · obtain rfl := hrep i v hi
    simp [Value.ownBlock] at hb
  · obtain rfl := hrep i v hi
    simp [Value.ownBlock] at hb
theorem LB.start (n : Nat) : LB n (ls0 n) := by
  refine ⟨by simp [ls0], fun g hg => ?_, by simp [ls0], by simp [ls0], by simp [ls0], by simp [ls0], by simp [ls0]⟩
  have : g = [] := (List.mem_replicate.1 hg).2
  subst this
  simp
/-- A slice's element that is a slice. -/
theorem at_rows {w : World} {A : Option Addr} {n : Nat} {xs : List (List S37)} (h : Kd.C (Kd.slice 37 k37) w A n xs) (i : Int) (h0 : 0 ≤ i) (h1 : i < n) : ∃ ad A' c', A = some ad ∧ w.cell? (ad.add i.toNat) = some (.slice A' (xs.getD i.toNat []).length c') ∧ (xs.getD i.toNat []).length ≤ c' ∧ Kd.C k37 w A' (xs.getD i.toNat []).length (xs.getD i.toNat []) := by
  obtain ⟨ad, cs, e, _, ⟨A', c', hcs, hc, hC⟩, hcell⟩ := Kd.C_get h [] i h0 h1
  subst hcs
  refine ⟨ad, A', c', e, ?_, hc, hC⟩
  have := hcell 0 _ rfl
  simpa [Kd.slice] using this

theorem LR.alloc {w wr : World} {s : LS} {v6 v7 v8 : Value} {gb : Nat} {vs : List Value} (h : LR w wr s v6 v7 v8 gb vs) (o : Obj) : LR w (wr.alloc o) s v6 v7 v8 gb vs :=
  ⟨h.grid.alloc o, h.oat.alloc o, h.oov.alloc o, h.oby.alloc o, h.ne, h.bel.alloc h.bel.size o⟩
theorem LR.same {w wr wr' : World} {s : LS} {v6 v7 v8 : Value} {gb : Nat} {vs : List Value} (h : LR w wr s v6 v7 v8 gb vs) (hd : ∃ n, wr' = wr.drewN n) : LR w wr' s v6 v7 v8 gb vs := by
  obtain ⟨n, rfl⟩ := hd
  exact ⟨h.grid.drewN n, own_move h.oat (fun _ _ => rfl), own_move h.oov (fun _ _ => rfl), own_move h.oby (fun _ _ => rfl), h.ne, ⟨h.bel.os, h.bel.tape, h.bel.output, h.bel.size, h.bel.block⟩⟩
theorem LR.eq {w wr : World} {s s' : LS} {v6 v7 v8 : Value} {gb : Nat} {vs : List Value} (h : LR w wr s v6 v7 v8 gb vs) (h1 : s'.gs = s.gs) (h2 : s'.at_ = s.at_) (h3 : s'.over = s.over) (h4 : s'.beyond = s.beyond) : LR w wr s' v6 v7 v8 gb vs :=
  ⟨h1 ▸ h.grid, by rw [h2]; exact h.oat, by rw [h3]; exact h.oov, by rw [h4]; exact h.oby, h.ne, h.bel⟩
theorem LR.block {w wr wr' : World} {s : LS} {v6 v7 v8 : Value} {gb : Nat} {vs vs' : List Value} {gs' : List (List Bool)} (h : LR w wr s v6 v7 v8 gb vs) (hg : Grid wr' w.heap.size gb gs' vs') (hf : GFr wr wr' gb vs vs') : LR w wr' { s with gs := gs' } v6 v7 v8 gb vs' :=
  ⟨hg, hf.keeps h.grid h.oat (by decide) (by decide), hf.keeps h.grid h.oov (by decide) (by decide), hf.keeps h.grid h.oby (by decide) (by decide), h.ne, h.bel.trans (hf.below h.grid h.bel.size)⟩
theorem LR.pushAt {w W w1 : World} {s : LS} {v6 v7 v8 v6' : Value} {gb : Nat} {vs : List Value} (h : LR w W s v6 v7 v8 gb vs) (x : S33) (ho : w1.ownsRow w.heap.size 33 3 v6' (s.at_.length + 1) (fl33 s.at_ ++ [.int .i64 x.f0, .int .i64 x.f1, .int .i64 x.f2])) (hg : W.grownBy w1 v6.ownBlock) : LR w w1 { s with at_ := s.at_ ++ [x] } v6' v7 v8 gb vs :=
  ⟨h.grid.other h.oat (by decide) (by decide) hg, by rw [fl33_snoc]; simpa using ho, own_other h.oov hg (own_type_ne h.oov h.oat (by decide)), own_other h.oby hg (own_type_ne h.oby h.oat (by decide)), h.ne, h.bel.grown hg h.bel.size (fun b hb => own_base h.oat b hb)⟩
theorem LR.pushOv {w W w1 : World} {s : LS} {v6 v7 v8 v7' : Value} {gb : Nat} {vs : List Value} (h : LR w W s v6 v7 v8 gb vs) (x : Int) (ho : w1.ownsRow w.heap.size 3 1 v7' (s.over.length + 1) (nums .i64 s.over ++ [.int .i64 x])) (hg : W.grownBy w1 v7.ownBlock) (hat : ∀ b, v7'.ownBlock = some b → v7.ownBlock = some b ∨ W.heap.size ≤ b) : LR w w1 { s with over := s.over ++ [x] } v6 v7' v8 gb vs := by
  refine ⟨h.grid.other h.oov (by decide) (by decide) hg, own_other h.oat hg (own_type_ne h.oat h.oov (by decide)), by simpa [nums] using ho, own_other h.oby hg ?_, fun b hb e => ?_, h.bel.grown hg h.bel.size (fun b hb => own_base h.oov b hb)⟩
  · cases e : v8.ownBlock with
    | none => exact .inl rfl
    | some b => exact .inr (fun e2 => h.ne b e2.symm e)
  · rcases hat b hb with e1 | e1
    · exact h.ne b e1 e
    · have := own_lt h.oby b e
      omega
theorem LR.pushBy {w W w1 : World} {s : LS} {v6 v7 v8 v8' : Value} {gb : Nat} {vs : List Value} (h : LR w W s v6 v7 v8 gb vs) (x : Int) (ho : w1.ownsRow w.heap.size 3 1 v8' (s.beyond.length + 1) (nums .i64 s.beyond ++ [.int .i64 x])) (hg : W.grownBy w1 v8.ownBlock) (hat : ∀ b, v8'.ownBlock = some b → v8.ownBlock = some b ∨ W.heap.size ≤ b) : LR w w1 { s with beyond := s.beyond ++ [x] } v6 v7 v8' gb vs := by
  refine ⟨h.grid.other h.oby (by decide) (by decide) hg, own_other h.oat hg (own_type_ne h.oat h.oby (by decide)), own_other h.oov hg ?_, by simpa [nums] using ho, fun b hb e => ?_, h.bel.grown hg h.bel.size (fun b hb => own_base h.oby b hb)⟩
  · cases e : v7.ownBlock with
    | none => exact .inl rfl
    | some b => exact .inr (fun e2 => h.ne b e e2.symm)
  · rcases hat b e with e1 | e1
    · exact h.ne b hb e1
    · have := own_lt h.oov b hb
      omega
theorem own_slice {w : World} {b : Nat} {e : TypeId} {s n : Nat} {v : Value} {xs : List Value} (h : w.ownsRow b e s v n xs) : ∃ A c, v = .slice A n c := by
  rcases h.2 with ⟨e1, e2⟩ | ⟨g, cap, cur, e1, _⟩
  · exact ⟨none, 0, by rw [e1]; simp_all⟩
  · exact ⟨_, _, e1⟩
theorem at_own {H gg n cap : Nat} {v : Value} (hat : v.ownBlock = some gg ∨ gg = H) {W : World} (hH : W.heap.size ≤ H) : ∀ b, (Value.slice (some ⟨gg, 0, none⟩) n cap).ownBlock = some b → v.ownBlock = some b ∨ W.heap.size ≤ b := by
  intro b hb
  have hb' : gg = b := by simpa [Value.ownBlock] using hb
  subst hb'
  rcases hat with e | e
  · exact .inl e
  · exact .inr (by omega)
theorem findG_on {gs : List (List Bool)} {r c : Nat} (h : covAt gs r c = true) : findG gs r (c + 1) = findG gs r c ∧ c < findG gs r c := by
  unfold covAt at h
  unfold findG
  have hc : c < (gs.getD r []).length := by
    apply Decidable.byContradiction
    intro hn
    rw [List.getD_eq_getElem?_getD, List.getElem?_eq_none (by omega)] at h
    simp at h
  rw [List.getD_eq_getElem?_getD, List.getElem?_eq_getElem hc] at h
  rw [List.drop_eq_getElem_cons hc, List.takeWhile_cons, if_pos (by simpa using h), List.length_cons]
  omega
theorem findG_off {gs : List (List Bool)} {r c : Nat} (h : covAt gs r c = false) : findG gs r c = c := by
  unfold covAt at h
  unfold findG
  by_cases hc : c < (gs.getD r []).length
  · rw [List.getD_eq_getElem?_getD, List.getElem?_eq_getElem hc] at h
    rw [List.drop_eq_getElem_cons hc, List.takeWhile_cons, if_neg (by simpa using h)]
    rfl
  · rw [List.drop_eq_nil_of_le (by omega)]
    rfl
/-- What Lay leaves. -/
def LayPost (w : World) (rows : List (List S37)) (e : Ending) (w' : World) : Prop := ∃ v6 v7 v8 vs, e = .returned (.tuple #[v6, v7, v8]) ∧ LR w w' (laid rows) v6 v7 v8 w.heap.size vs
set_option maxRecDepth 100000 in
set_option maxHeartbeats 8000000 in
theorem Lay_walk (A : Option Addr) (c : Nat) (rows : List (List S37)) (w : World) (hr : Kd.C (Kd.slice 37 k37) w A rows.length rows) (hn : rows.length ≤ 1000000) :
    Calls Try.prog 9 #[.slice A rows.length c] w (LayPost w rows) := by
  have HR := Aside0.mk hr
  have hmk : ∀ W : World, (Instr.makeSlice 41 (.int .i64 (rows.length : Int)) (.int .i64 (rows.length : Int))).run Try.prog W = .ok (.slice (some ⟨W.heap.size, 0, none⟩) rows.length rows.length) (W.alloc (.cells (madeCells #[.slice none 0 0] rows.length) 46)) := fun W =>
    run_make_row' 41 46 (.slice none 0 0) 24 Try.underlying41 infoS46 rfl .i64 .i64 rows.length (by omega) (by omega) W
  clear hr
  go_enter Try.func9, Try.ntmps9
  go_wp2_with fail
  go_loopg [6, 7, 8, 9, 23] rows.length (fun kq w6 w7 w8 lf i wr => ∃ (k : Int) (s : LS) (v6 v7 v8 : Value) (vs : List Value), v6 = w6 ∧ v7 = w7 ∧ v8 = w8 ∧ i = .int .i64 k ∧ lf = .int .i64 s.left ∧ 0 ≤ k ∧ k ≤ rows.length ∧ Aside0 (LR w wr s v6 v7 v8 w.heap.size vs) ∧ Aside0 (LB rows.length s) ∧ Aside0 (layRows rows.length (rows.drop k.toNat) k.toNat s = laid rows) ∧ Aside0 ((kq : Int) + k = rows.length))
  case atStart => exact ⟨0, ls0 rows.length, _, _, _, _, rfl, rfl, rfl, rfl, rfl, by omega, by omega, ⟨LR.start w rows.length⟩, ⟨LB.start _⟩, ⟨rfl⟩, ⟨by omega⟩⟩
  case round =>
    obtain ⟨k, s, v6, v7, v8, vs, rfl, rfl, rfl, rfl, rfl, hk0, hk1, HI, HB, HF, HM⟩ := hrel
    by_cases hlt : k < (rows.length : Int)
    · obtain ⟨ad, A', c', e0, hxw, hc', hC'⟩ := at_rows HR.out k hk0 hlt
      have hx := pw_cell_below HI.out.bel hxw
      clear hxw
      subst e0
      obtain ⟨rw_, hrw⟩ : ∃ rw_, rw_ = rows.getD k.toNat [] := ⟨_, rfl⟩
      rw [← hrw] at hx hc' hC'
      have hdrop : rows.drop k.toNat = rw_ :: rows.drop (k.toNat + 1) := by
        rw [List.drop_eq_getElem_cons (by omega), hrw, List.getD_eq_getElem?_getD, List.getElem?_eq_getElem (by omega)]
        rfl
      have hF := HF.out
      rw [hdrop, layRows] at hF
      obtain ⟨S1, b1, hS⟩ : ∃ S1 b1, layRow rows.length k.toNat rw_ { s with col := 0 } = (S1, b1) := ⟨_, _, rfl⟩
      rw [hS] at hF
      have HS := Aside0.mk hS
      clear hS
      have HF2 := Aside0.mk hF
      have HK := Aside0.mk (And.intro hk0 hlt)
      have hd := decide_eq_true hlt
      have hq0 := eq_true hk0
      have hq1 := eq_true hlt
      have HC' := Aside0.mk hC'
      clear hF hdrop hrw hC' HF
      go_wp2_with fail
      obtain ⟨og, rfl⟩ : ∃ og, og = gk := ⟨_, rfl⟩
      go_loopg [6, 7, 8, 9, 12, 30] rw_.length (fun kq w6 w7 w8 lf cl i wr => ∃ (j : Int) (s : LS) (v6 v7 v8 : Value) (vs : List Value), v6 = w6 ∧ v7 = w7 ∧ v8 = w8 ∧ i = .int .i64 j ∧ lf = .int .i64 s.left ∧ cl = .int .i64 (s.col : Int) ∧ 0 ≤ j ∧ j ≤ rw_.length ∧ Aside0 (LR w wr s v6 v7 v8 w.heap.size vs) ∧ Aside0 (LB rows.length s) ∧ Aside0 (layRow rows.length k.toNat (rw_.drop j.toNat) s = (S1, b1)) ∧ Aside0 ((kq : Int) + j = rw_.length))
      case atStart =>
        refine ⟨0, { s with col := 0 }, v6, v7, v8, vs, rfl, rfl, rfl, rfl, rfl, rfl, by omega, by omega, ⟨⟨HI.out.grid, HI.out.oat, HI.out.oov, HI.out.oby, HI.out.ne, HI.out.bel⟩⟩, ⟨⟨HB.out.len, HB.out.lens, by simp, HB.out.sum, HB.out.left, HB.out.ov, HB.out.by_⟩⟩, ⟨HS.out⟩, ⟨by omega⟩⟩
      case round =>
        clear HI HB HS
        obtain ⟨j, t, u6, u7, u8, us, rfl, rfl, rfl, rfl, rfl, rfl, hj0, hj1, HI, HB, HS, HM2⟩ := hrel
        by_cases hlt2 : j < (rw_.length : Int)
        · have HJ := Aside0.mk (And.intro hj0 hlt2)
          have hd2 := decide_eq_true hlt2
          obtain ⟨bd, rfl, hy0, hy1⟩ := at_T37 (Kd.C_below HC'.out HI.out.bel) j hj0 hlt2
          have hq2 := eq_true hj0
          have hq3 := eq_true hlt2
          have hdr : rw_.drop j.toNat = rd_T37 rw_ j :: rw_.drop (j.toNat + 1) := by
            rw [List.drop_eq_getElem_cons (by omega)]
            unfold rd_T37
            rw [List.getD_eq_getElem?_getD, List.getElem?_eq_getElem (by omega)]
            rfl
          have hS := HS.out
          rw [hdr, layRow] at hS
          obtain ⟨x, hx⟩ : ∃ x, x = rd_T37 rw_ j := ⟨_, rfl⟩
          rw [← hx] at hy0 hy1 hS
          have HS2 := Aside0.mk hS
          clear hS hdr hx HS
          go_wp2_with fail
          go_upto_region 12 with (fail)
          go_region_held3 (fun w' => w'.cell? ⟨wr.heap.size, 0, none⟩ = some (.int .i64 x.f0) ∧ w'.cell? ⟨wr.heap.size, 1, none⟩ = some (.int .i64 x.f1)) (first | (exact ⟨cell_of_block (by first | exact heap_alloc_new _ _ | exact block_drew (heap_alloc_new _ _)) 0 _ rfl, cell_of_block (by first | exact heap_alloc_new _ _ | exact block_drew (heap_alloc_new _ _)) 1 _ rfl⟩) | go_keep) ((go_at_call 12; refine (bounded_calls _ _).mono ?_; rintro e w' ⟨rfl, rfl⟩))
          obtain ⟨hb1, hb2⟩ := bnd_bd x.f0
          obtain ⟨hb3, hb4⟩ := bnd_bd x.f1
          obtain ⟨hi, hhi⟩ : ∃ hi, hi = bnd x.f0 := ⟨_, rfl⟩
          obtain ⟨wi, hwi⟩ : ∃ wi, wi = bnd x.f1 := ⟨_, rfl⟩
          rw [← hhi] at hb1 hb2
          rw [← hwi] at hb3 hb4
          rw [← hhi, ← hwi]
          have HHI := Aside0.mk hhi
          have HWI := Aside0.mk hwi
          clear hhi hwi
          have hkA : -1 < k := by have := HK.out; omega
          have hkB : k < rows.length := by have := HK.out; omega
          go_upto_region 14 with (fail)
          obtain ⟨th, hth⟩ : ∃ th, th = (if (rows.length : Int) - k < hi then (rows.length : Int) - k else hi) := ⟨_, rfl⟩
          rw [← hth]
          have hth1 : 1 ≤ th := by rw [hth]; split <;> omega
          have hth2 : th ≤ hi := by rw [hth]; split <;> omega
          have hth3 : th ≤ (rows.length : Int) - k := by rw [hth]; split <;> omega
          have hth4 : th = min hi ((rows.length : Int) - k) := by rw [hth]; split <;> omega
          have HTH := Aside0.mk hth4
          clear hth hth4
          have hm1 : 1 ≤ th * wi := by
            have := Int.mul_le_mul hth1 hb3 (by omega) (by omega)
            omega
          have hm2 : th * wi ≤ 1000000 := by
            have := Int.mul_le_mul (show th ≤ 1000 by omega) hb4 (by omega) (by omega)
            omega
          have hlf0 := HB.out.left
          have hlf1 : t.left ≤ 4096 := by have := HB.out.sum; omega
          have hS := HS2.out
          unfold layCell at hS
          simp only at hS
          rw [← HHI.out, ← HWI.out, show ((k.toNat : Nat) : Int) = k from by omega, ← HTH.out] at hS
          have HIA := Aside0.mk (HI.out.alloc (Obj.cells #[Value.int IntKind.i64 x.f0, Value.int IntKind.i64 x.f1] 37))
          by_cases hneg : t.left - th * wi < 0
          · rw [if_pos hneg] at hS
            simp only [Prod.mk.injEq] at hS
            obtain ⟨rfl, rfl⟩ := hS
            have hF := HF2.out
            rw [if_pos rfl] at hF
            have HF3 := Aside0.mk hF
            have hd3 := decide_eq_true hneg
            clear hF HF2
            go_wp2
            go_ret3
            exact ⟨u6, u7, u8, us, rfl, by rw [← HF3.out]; exact HIA.out.same ⟨1, rfl⟩⟩
          · obtain ⟨s', hs'⟩ : ∃ s' : LS, s' = { gs := (blk t.gs false k.toNat (findG t.gs k.toNat t.col) wi.toNat th.toNat).1, at_ := t.at_ ++ [⟨k, (findG t.gs k.toNat t.col : Nat), th⟩], over := if (blk t.gs false k.toNat (findG t.gs k.toNat t.col) wi.toNat th.toNat).2 then t.over ++ [(t.at_.length : Int)] else t.over, beyond := if th < hi then t.beyond ++ [(t.at_.length : Int)] else t.beyond, left := t.left - th * wi, col := findG t.gs k.toNat t.col + wi.toNat } := ⟨_, rfl⟩
            have hLC : layCell rows.length k.toNat x t = some s' := by
              unfold layCell
              simp only
              rw [← HHI.out, ← HWI.out, show ((k.toNat : Nat) : Int) = k from by omega, ← HTH.out, if_neg hneg, hs']
            have hS := HS2.out
            rw [hLC] at hS
            have HS3 := Aside0.mk hS
            have HLC := Aside0.mk hLC
            have HLB := Aside0.mk (HB.out.cell (by omega) hLC)
            have hd3 := decide_eq_false hneg
            have HE := Aside0.mk hs'
            clear hs' hLC
            clear hS HS2
            have HFB := Aside0.mk (findG_bd (r := k.toNat) HB.out.lens HB.out.col)
            have hal : 1000 * t.at_.length ≤ 4096000 := by have := HB.out.sum; omega
            have HAL := Aside0.mk hal
            have hcov : ∀ (W : World) (q : Nat), LR w W t u6 u7 u8 w.heap.size us → Calls Try.prog 13 #[.slice (some ⟨w.heap.size, 0, none⟩) rows.length rows.length, .int .i64 k, .int .i64 (q : Int)] W fun e w' => e = .returned (.bool (covAt t.gs k.toNat q)) ∧ ∃ n, w' = W.drewN n := fun W q hW => by
              have hl := HB.out.len
              have := cells_grid_covered.calls (some ⟨w.heap.size, 0, none⟩) rows.length t.gs k (q : Int) _ W (hW.grid.reads (by omega)) (by omega) (covered_eq t.gs k q (by omega) (by omega) (by omega))
              rw [hl] at this
              refine this.mono ?_
              rintro e w1 ⟨rfl, hd⟩
              exact ⟨by rw [Int.toNat_natCast], hd.out⟩
            have HCV := Aside0.mk hcov
            clear hcov hal
            go_wp2_with fail
            clear hlf0 hlf1 hm1 hm2
            obtain ⟨og2, rfl⟩ : ∃ og2, og2 = gk := ⟨_, rfl⟩
            go_loopg [12] (findG t.gs k.toNat t.col - t.col) (fun kq cl wr' => ∃ q : Nat, cl = .int .i64 (q : Int) ∧ Aside0 (LR w wr' t u6 u7 u8 w.heap.size us) ∧ Aside0 (findG t.gs k.toNat q = findG t.gs k.toNat t.col ∧ q ≤ findG t.gs k.toNat t.col) ∧ Aside0 (kq + q = findG t.gs k.toNat t.col))
            case atStart => exact ⟨t.col, rfl, ⟨HIA.out.same ⟨1, rfl⟩⟩, ⟨rfl, HFB.out.1⟩, ⟨by have := HFB.out.1; omega⟩⟩
            case round =>
              obtain ⟨q, rfl, HI3, HQ, HQM⟩ := hrel
              clear HI HIA
              have HCC := Aside0.mk (HCV.out _ q HI3.out)
              obtain ⟨cv, hcv⟩ : ∃ cv, cv = covAt t.gs k.toNat q := ⟨_, rfl⟩
              rw [← hcv] at HCC
              cases cv with
              | true =>
                have hon := Aside0.mk (findG_on hcv.symm)
                have hqb : q < 4096000 := by have := hon.out.2; have := HQ.out.1; have := HFB.out.2; have := HAL.out; omega
                clear hcv
                go_wp2_with fail
                refine HCC.out.mono ?_
                rintro e w1 ⟨rfl, hd⟩
                have HI4 := Aside0.mk (HI3.out.same hd)
                clear hd HCC
                go_wp2
                go_roundg (gk - 1)
                case measure => have := hon.out.2; have := HQ.out.1; have := HQM.out; omega
                case rel => exact ⟨q + 1, rfl, ⟨HI4.out⟩, ⟨by rw [hon.out.1]; exact HQ.out.1, by have := hon.out.2; have := HQ.out.1; omega⟩, ⟨by have := hon.out.2; have := HQ.out.1; have := HQM.out; omega⟩⟩
              | false =>
                have hoff := findG_off hcv.symm
                have hqF : q = findG t.gs k.toNat t.col := by rw [← HQ.out.1, hoff]
                have hqb : q ≤ 4096000 := by have := HFB.out.2; have := HAL.out; omega
                have hE := HE.out
                rw [← hqF] at hE
                have HE2 := Aside0.mk hE
                clear hcv hoff hqF hE HE
                go_wp2_with fail
                refine HCC.out.mono ?_
                rintro e w1 ⟨rfl, hd⟩
                have HI4 := Aside0.mk (HI3.out.same hd)
                clear hd HCC HI3
                obtain ⟨A6, c6, rfl⟩ := own_slice HI4.out.oat
                obtain ⟨i0, hi0, hz0, hz1, hz2⟩ := info_parts infoI3
                have hlo : t.over.length ≤ 4096 := by have := HB.out.left; have := HB.out.ov; have := HB.out.sum; omega
                have hlb : t.beyond.length ≤ 4096 := by have := HB.out.left; have := HB.out.by_; have := HB.out.sum; omega
                have hla : t.at_.length ≤ 4096 := by have := HB.out.left; have := HB.out.sum; omega
                have hbs := HI4.out.bel.size
                have hc1 : t.beyond.length + 1 ≤ maxLen := by simp only [maxLen]; omega
                have hc2 : (t.beyond.length + 1) * 8 ≤ 140737488355328 := by omega
                go_upto_if 64 with (fail)
                go_cut [8] (fun v8 wc => Aside0 (LR w wc { t with beyond := if th < hi then t.beyond ++ [(t.at_.length : Int)] else t.beyond } (.slice A6 t.at_.length c6) u7 v8 w.heap.size us))
                case first =>
                  by_cases hbe : th < hi
                  · have hd4 := decide_eq_true hbe
                    go_wp2_with (at_builtin; refine wpList_append_lies _ (by rfl) _ _ _ (by rfl) w.heap.size 3 i0 _ 1 8 Try.underlying26 hi0 hz0 hz1 hz2 rfl (by omega) u8 t.beyond.length (nums .i64 t.beyond) (by rfl) (HI4.out.oby.alloc _) ⟨w1.heap.size, 0, none⟩ 1 1 [.int .i64 (t.at_.length : Int)] (by rfl) (by rfl) (World.news_of_block (cs := #[.int .i64 (t.at_.length : Int)]) (t := 3) (fr := (0, 0)) (heap_alloc_new _ _)) (by simp [Value.oneCell']) (by omega) hc1 hc2 (by simp; omega) (w1.heap.size + 1) (by simp) ?_; intro gg cap w2 hown hgrow hat hltg)
                    go_meet
                    case rel => exact ⟨((HI4.out.alloc _).pushBy _ hown hgrow (at_own hat (by simp))).eq rfl rfl rfl (if_pos hbe)⟩
                  · have hd4 := decide_eq_false hbe
                    go_wp2
                    go_meet
                    case rel => exact ⟨HI4.out.eq rfl rfl rfl (if_neg (by omega))⟩
                case rest =>
                  have HI5 := hcut
                  clear hcut HI4 hbs
                  have hbs := HI5.out.bel.size
                  have hwn : ((wi.toNat : Nat) : Int) = wi := by omega
                  have hblk := block_calls t.gs us w.heap.size w.heap.size rows.length k (q : Int) th wi wc HI5.out.grid (by have := HB.out.len; omega) (by have := HB.out.len; omega) (by omega) (by omega) (by have := HB.out.len; omega) (by omega) (by omega) (by omega)
                  rw [HB.out.len, Int.toNat_natCast] at hblk
                  obtain ⟨G, hG⟩ : ∃ G, G = blk t.gs false k.toNat q wi.toNat th.toNat := ⟨_, rfl⟩
                  have hE := HE2.out
                  rw [← hG] at hblk hE
                  have HBK := Aside0.mk hblk
                  have HE3 := Aside0.mk hE
                  have HWN := Aside0.mk hwn
                  clear hblk hG hE HE2 hwn
                  go_wp2_with fail
                  refine HBK.out.mono ?_
                  rintro e w2 ⟨rfl, vs2, hg2, hf2⟩
                  have HI6 := Aside0.mk (HI5.out.block hg2 hf2)
                  clear hg2 hf2 HBK HI5
                  have hbs2 := HI6.out.bel.size
                  have hc3 : t.over.length + 1 ≤ maxLen := by simp only [maxLen]; omega
                  have hc4 : (t.over.length + 1) * 8 ≤ 140737488355328 := by omega
                  go_upto_if 75 with (fail)
                  go_cut [7] (fun v7 wc => Aside0 (LR w wc { t with gs := G.1, over := if G.2 then t.over ++ [(t.at_.length : Int)] else t.over, beyond := if th < hi then t.beyond ++ [(t.at_.length : Int)] else t.beyond } (.slice A6 t.at_.length c6) v7 u8 w.heap.size vs2))
                  case first =>
                    obtain ⟨ov, hov⟩ : ∃ ov, ov = G.2 := ⟨_, rfl⟩
                    rw [← hov]
                    have HOV := Aside0.mk hov
                    clear hov
                    cases ov with
                    | true =>
                      go_wp2_with (at_builtin; refine wpList_append_lies _ (by rfl) _ _ _ (by rfl) w.heap.size 3 i0 _ 1 8 Try.underlying26 hi0 hz0 hz1 hz2 rfl (by omega) u7 t.over.length (nums .i64 t.over) (by rfl) (HI6.out.oov.alloc _) ⟨w2.heap.size, 0, none⟩ 1 1 [.int .i64 (t.at_.length : Int)] (by rfl) (by rfl) (World.news_of_block (cs := #[.int .i64 (t.at_.length : Int)]) (t := 3) (fr := (0, 0)) (heap_alloc_new _ _)) (by simp [Value.oneCell']) (by omega) hc3 hc4 (by simp; omega) (w2.heap.size + 1) (by simp) ?_; intro gg cap w3 hown hgrow hat hltg)
                      go_meet
                      case rel => exact ⟨((HI6.out.alloc _).pushOv _ hown hgrow (at_own hat (by simp))).eq rfl rfl (by rw [← HOV.out]; rfl) rfl⟩
                    | false =>
                      go_wp2
                      go_meet
                      case rel => exact ⟨HI6.out.eq rfl rfl (by rw [← HOV.out]; rfl) rfl⟩
                  case rest =>
                    have HI7 := hcut
                    clear hcut HI6 hbs2
                    obtain ⟨i1, hj0, hy0, hy1, hy2⟩ := info_parts infoA33
                    have hbs3 := HI7.out.bel.size
                    have hc5 : t.at_.length + 1 ≤ maxLen := by simp only [maxLen]; omega
                    have hc6 : (t.at_.length + 1) * 24 ≤ 140737488355328 := by omega
                    have hjb : j.toNat < 9223372036854775807 := by have := HC'.out.2.1; omega
                    go_wp2_with (at_builtin; refine wpList_append_lies _ (by rfl) _ _ _ (by rfl) w.heap.size 33 i1 _ 3 24 Try.underlying25 hj0 hy0 hy1 hy2 rfl (by omega) (.slice A6 t.at_.length c6) t.at_.length (fl33 t.at_) (by rfl) (HI7.out.oat.alloc _) ⟨wc.heap.size, 0, none⟩ 1 1 [.int .i64 k, .int .i64 (q : Int), .int .i64 th] (by rfl) (by rfl) (World.news_of_block (cs := #[.int .i64 k, .int .i64 (q : Int), .int .i64 th]) (t := 33) (fr := (0, 0)) (heap_alloc_new _ _)) (by simp [Value.oneCell']) (by omega) hc5 hc6 (by simp; omega) (wc.heap.size + 1) (by simp) ?_; intro gg cap w3 hown hgrow hat hltg)
                    go_roundg (og2 - 1)
                    case measure => have := HM2.out; have := HJ.out; omega
                    case rel => exact ⟨j + 1, s', _, u7, u8, vs2, rfl, rfl, rfl, rfl, by rw [HE3.out], by rw [HE3.out]; simp only; rw [Int.natCast_add, HWN.out], by have := HJ.out; omega, by have := HJ.out; omega, ⟨((HI7.out.alloc _).pushAt ⟨k, q, th⟩ hown hgrow).eq (by rw [HE3.out]) (by rw [HE3.out]) (by rw [HE3.out]) (by rw [HE3.out])⟩, ⟨HLB.out⟩, ⟨by rw [show (j + 1).toNat = j.toNat + 1 from by have := HJ.out; omega]; exact HS3.out⟩, ⟨by have := HM2.out; have := HJ.out; omega⟩⟩
        · obtain rfl : j = (rw_.length : Int) := by omega
          have hd2 : decide (rw_.length < rw_.length) = false := by simp
          have hS := HS.out
          rw [Int.toNat_natCast, List.drop_length] at hS
          simp only [layRow, Prod.mk.injEq] at hS
          obtain ⟨rfl, rfl⟩ := hS
          have hF := HF2.out
          rw [if_neg (by decide)] at hF
          have HF3 := Aside0.mk hF
          clear hF HF2 HS
          go_wp2
          go_roundg (og - 1)
          case measure => have := HM.out; have := HK.out; omega
          case rel => exact ⟨k + 1, t, u6, u7, u8, us, rfl, rfl, rfl, rfl, rfl, by have := HK.out; omega, by have := HK.out; omega, ⟨HI.out⟩, ⟨HB.out⟩, ⟨by rw [show (k + 1).toNat = k.toNat + 1 from by have := HK.out; omega]; exact HF3.out⟩, ⟨by have := HM.out; have := HK.out; omega⟩⟩
    · obtain rfl : k = (rows.length : Int) := by omega
      have hd : decide (rows.length < rows.length) = false := by simp
      have hF := HF.out
      rw [Int.toNat_natCast, List.drop_length, layRows] at hF
      have HF3 := Aside0.mk hF
      clear hF HF
      go_wp2
      go_ret3
      exact ⟨v6, v7, v8, vs, rfl, by rw [← HF3.out]; exact HI.out⟩
end Go.Proofs.Ytdekcbpngbgjmaa.PC
