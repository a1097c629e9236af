/- A grid of rows of bools of the call's own: what it is, what is kept where one of its rows grows or is written. Conditions: those of each statement. -/
import Derived.Test.YtdekcbpngbgjmaaPCx0
namespace Go.Proofs.Ytdekcbpngbgjmaa.PC
open Go.RowKit Go.Proofs.YtdekcbpngbgjmaaW.PrintWords Go.Proofs.YtdekcbpngbgjmaaW.PrintLast Go.Proofs.YtdekcbpngbgjmaaW.PrintMore

theorem cell_of_block {w : World} {b : Nat} {cs : Array Value} {t : TypeId} (h : w.heap[b]? = some (.cells cs t (0, 0))) (i : Nat) (v : Value) (hv : cs[i]? = some v) : w.cell? ⟨b, i, none⟩ = some v := by
  simp [World.cell?, h, hv]
theorem frozen_of_block {w : World} {b : Nat} {cs : Array Value} {t : TypeId} (h : w.heap[b]? = some (.cells cs t (0, 0))) (i : Nat) : w.frozen? ⟨b, i, none⟩ = false := by
  simp [World.frozen?, h]
theorem block_alloc {w : World} {b : Nat} {x : Obj} (h : w.heap[b]? = some x) (o : Obj) : (w.alloc o).heap[b]? = some x := by
  have hb := (Array.getElem?_eq_some_iff.1 h).1
  rw [World.alloc, Array.getElem?_push_lt hb, ← h, Array.getElem?_eq_getElem hb]
theorem far_block {W w1 : World} {row : Option Nat} (hg : W.grownBy w1 row) {b : Nat} {x : Obj} (h : W.heap[b]? = some x) (hne : row ≠ some b) : w1.heap[b]? = some x :=
  (hg.block b (Array.getElem?_eq_some_iff.1 h).1 (fun e => hne e.symm)).trans h
theorem block_lt {w : World} {b : Nat} {x : Obj} (h : w.heap[b]? = some x) : b < w.heap.size := (Array.getElem?_eq_some_iff.1 h).1

/-- A grid: block gb holds the rows' values vs, each a row of the call's own, no two in one block. -/
structure Grid (w : World) (base gb : Nat) (gs : List (List Bool)) (vs : List Value) : Prop where
  blk : w.heap[gb]? = some (.cells vs.toArray 46 (0, 0))
  len : vs.length = gs.length
  low : base ≤ gb
  own : ∀ (i : Nat) (v : Value) (g : List Bool), vs[i]? = some v → gs[i]? = some g → w.ownsRow base 4 1 v g.length (bools g)
  far : ∀ (i : Nat) (v : Value) (b : Nat), vs[i]? = some v → v.ownBlock = some b → b ≠ gb
  apart : ∀ (i j : Nat) (v u : Value) (b : Nat), vs[i]? = some v → vs[j]? = some u → i ≠ j → v.ownBlock = some b → u.ownBlock ≠ some b

/-- What is kept: whatever isn't the grid's. -/
structure GFr (w w' : World) (gb : Nat) (vs vs' : List Value) : Prop where
  os : w'.os = w.os
  tape : w'.tape = w.tape
  output : w'.output = w.output
  size : w.heap.size ≤ w'.heap.size
  blk : ∀ b, b < w.heap.size → b ≠ gb → (∀ (i : Nat) (v : Value), vs[i]? = some v → v.ownBlock ≠ some b) → w'.heap[b]? = w.heap[b]?
  new_ : ∀ (i : Nat) (v : Value) (b : Nat), vs'[i]? = some v → v.ownBlock = some b → (∃ (j : Nat) (u : Value), vs[j]? = some u ∧ u.ownBlock = some b) ∨ w.heap.size ≤ b
theorem GFr.refl (w : World) (gb : Nat) (vs : List Value) : GFr w w gb vs vs := ⟨rfl, rfl, rfl, Nat.le_refl _, fun _ _ _ _ => rfl, fun i v _ h hb => .inl ⟨i, v, h, hb⟩⟩
theorem GFr.drewN {w w' : World} {gb : Nat} {vs vs' : List Value} (h : GFr w w' gb vs vs') (n : Nat) : GFr w (w'.drewN n) gb vs vs' := ⟨h.os, h.tape, h.output, h.size, h.blk, h.new_⟩
theorem GFr.trans {w w1 w2 : World} {gb : Nat} {vs vs1 vs2 : List Value} (h : GFr w w1 gb vs vs1) (h' : GFr w1 w2 gb vs1 vs2) : GFr w w2 gb vs vs2 := by
  refine ⟨h'.os.trans h.os, h'.tape.trans h.tape, h'.output.trans h.output, Nat.le_trans h.size h'.size, fun b hb hne hv => ?_, fun i v b hi hb => ?_⟩
  · refine (h'.blk b (Nat.lt_of_lt_of_le hb h.size) hne (fun i v hi e => ?_)).trans (h.blk b hb hne hv)
    rcases h.new_ i v b hi e with ⟨j, u, hj, hu⟩ | hle
    · exact hv j u hj hu
    · omega
  · rcases h'.new_ i v b hi hb with ⟨j, u, hj, hu⟩ | hle
    · rcases h.new_ j u b hj hu with h2 | h2
      · exact .inl h2
      · exact .inr h2
    · exact .inr (Nat.le_trans h.size hle)
theorem Grid.base_le {w : World} {base gb : Nat} {gs : List (List Bool)} {vs : List Value} (h : Grid w base gb gs vs) {i : Nat} {v : Value} {b : Nat} (hi : vs[i]? = some v) (hb : v.ownBlock = some b) : base ≤ b ∧ b < w.heap.size := by
  have hl : i < gs.length := by have := (List.getElem?_eq_some_iff.1 hi).1; have := h.len; omega
  have := h.own i v _ hi (List.getElem?_eq_getElem hl)
  exact ⟨own_base this b hb, own_lt this b hb⟩
theorem GFr.below {w w' : World} {base gb : Nat} {gs : List (List Bool)} {vs vs' : List Value} (h : GFr w w' gb vs vs') (hg : Grid w base gb gs vs) (hb : base ≤ w.heap.size) : Below base w w' :=
  ⟨h.os, h.tape, h.output, h.size, fun i hi => h.blk i (by omega) (by have := hg.low; omega) (fun j v hj e => by have := (hg.base_le hj e).1; omega)⟩
/-- Another row of the call's own, of other elements, is kept. -/
theorem GFr.keeps {w w' : World} {base gb b' e' s' n' : Nat} {gs : List (List Bool)} {vs vs' : List Value} {v' : Value} {xs' : List Value} (h : GFr w w' gb vs vs') (hg : Grid w base gb gs vs) (ho : w.ownsRow b' e' s' v' n' xs') (h4 : e' ≠ 4) (h46 : e' ≠ 46) : w'.ownsRow b' e' s' v' n' xs' := by
  refine own_move ho (fun k hk => ?_)
  obtain ⟨cells, hc⟩ := own_typed ho k hk
  refine h.blk k (own_lt ho k hk) (fun e => ?_) (fun i v hi e => ?_)
  · subst e
    rw [hg.blk] at hc
    injection hc with hc
    injection hc with _ ht
    exact h46 ht.symm
  · have hl : i < gs.length := by have := (List.getElem?_eq_some_iff.1 hi).1; have := hg.len; omega
    obtain ⟨cells', hc'⟩ := own_typed (hg.own i v _ hi (List.getElem?_eq_getElem hl)) k e
    rw [hc'] at hc
    injection hc with hc
    injection hc with _ ht
    exact h4 ht.symm

def setRow (l : List Bool) (c : Nat) : List Bool := (l ++ List.replicate (c + 1 - l.length) false).set c true
def covAt (gs : List (List Bool)) (r c : Nat) : Bool := (gs.getD r []).getD c false
def setG (gs : List (List Bool)) (r c : Nat) : List (List Bool) := gs.set r (setRow (gs.getD r []) c)

/-- A row of the grid has another value, and other bools. -/
theorem Grid.step {w w1 : World} {base gb row : Nat} {gs : List (List Bool)} {vs : List Value} {v v1 : Value} {g1 : List Bool} (h : Grid w base gb gs vs) (hv : vs[row]? = some v)
    (hos : w1.os = w.os) (htp : w1.tape = w.tape) (hou : w1.output = w.output) (hsz : w.heap.size ≤ w1.heap.size)
    (hblk : ∀ b, b < w.heap.size → v.ownBlock ≠ some b → w1.heap[b]? = w.heap[b]?)
    (hown : w1.ownsRow base 4 1 v1 g1.length (bools g1)) (hat : ∀ b, v1.ownBlock = some b → v.ownBlock = some b ∨ w.heap.size ≤ b) :
    Grid (w1.setCell ⟨gb, row, none⟩ v1) base gb (gs.set row g1) (vs.set row v1) ∧ GFr w (w1.setCell ⟨gb, row, none⟩ v1) gb vs (vs.set row v1) := by
  have hgb := block_lt h.blk
  have hrow : row < vs.length := (List.getElem?_eq_some_iff.1 hv).1
  have hvg : ∀ b, v.ownBlock = some b → b ≠ gb := fun b => h.far row v b hv
  have hv1g : ∀ b, v1.ownBlock = some b → b ≠ gb := fun b hb => by
    rcases hat b hb with e | e
    · exact hvg b e
    · omega
  have hgb1 : w1.heap[gb]? = some (.cells vs.toArray 46 (0, 0)) := (hblk gb hgb (fun e => hvg gb e rfl)).trans h.blk
  have hb2 : (w1.setCell ⟨gb, row, none⟩ v1).heap[gb]? = some (.cells (vs.set row v1).toArray 46 (0, 0)) := by
    rw [heap_setCell_same w1 gb row _ 46 v1 hgb1]
    simp
  have hother : ∀ b, b ≠ gb → (w1.setCell ⟨gb, row, none⟩ v1).heap[b]? = w1.heap[b]? := fun b hb => heap_setCell_other _ _ _ _ hb
  have hset : ∀ i u, (vs.set row v1)[i]? = some u → (i = row ∧ u = v1) ∨ (i ≠ row ∧ vs[i]? = some u) := by
    intro i u hi
    by_cases e : i = row
    · subst e
      rw [List.getElem?_set_self hrow] at hi
      exact .inl ⟨rfl, by simpa using hi.symm⟩
    · rw [List.getElem?_set_ne (fun h => e h.symm)] at hi
      exact .inr ⟨e, hi⟩
  refine ⟨⟨hb2, by simp [h.len], h.low, ?_, ?_, ?_⟩, ⟨hos, htp, hou, by simpa using hsz, ?_, ?_⟩⟩
  · intro i u g hi hg
    rcases hset i u hi with ⟨rfl, rfl⟩ | ⟨hne, hi⟩
    · rw [List.getElem?_set_self (by have := h.len; omega)] at hg
      obtain rfl : g1 = g := by simpa using hg
      exact own_move hown (fun b hb => hother b (hv1g b hb))
    · rw [List.getElem?_set_ne (fun h => hne h.symm)] at hg
      have ho := h.own i u g hi hg
      refine own_move ho (fun b hb => ?_)
      rw [hother b (h.far i u b hi hb)]
      exact hblk b (own_lt ho b hb) (fun e => h.apart i row u v b hi hv hne hb e)
  · intro i u b hi hb
    rcases hset i u hi with ⟨rfl, rfl⟩ | ⟨hne, hi⟩
    · exact hv1g b hb
    · exact h.far i u b hi hb
  · intro i j u t b hi hj hij hb
    rcases hset i u hi with ⟨rfl, rfl⟩ | ⟨hne, hi2⟩
    · rcases hset j t hj with ⟨rfl, rfl⟩ | ⟨hne', hj2⟩
      · exact absurd rfl hij
      · rcases hat b hb with e | e
        · exact h.apart i j v t b hv hj2 hij e
        · intro e2
          have := (h.base_le hj2 e2).2
          omega
    · rcases hset j t hj with ⟨rfl, rfl⟩ | ⟨hne', hj2⟩
      · intro e2
        rcases hat b e2 with e | e
        · exact h.apart i j u v b hi2 hv hij hb e
        · have := (h.base_le hi2 hb).2
          omega
      · exact h.apart i j u t b hi2 hj2 hij hb
  · intro b hb hne hnv
    rw [hother b hne]
    exact hblk b hb (hnv row v hv)
  · intro i u b hi hb
    rcases hset i u hi with ⟨rfl, rfl⟩ | ⟨hne, hi⟩
    · rcases hat b hb with e | e
      · exact .inl ⟨i, v, hv, e⟩
      · exact .inr e
    · exact .inl ⟨i, u, hi, hb⟩
/-- The grid, read. -/
theorem Grid.reads {w : World} {base gb : Nat} {gs : List (List Bool)} {vs : List Value} (h : Grid w base gb gs vs) (hn : gs.length ≤ 9223372036854775807) : Kd.C (Kd.slice 4 Kd.bool) w (some ⟨gb, 0, none⟩) gs.length gs := by
  refine ⟨rfl, hn, fun _ => ⟨_, rfl, fun j p hj => ?_⟩⟩
  have hjl : j < gs.length := (List.getElem?_eq_some_iff.1 hj).1
  have hjv : j < vs.length := by have := h.len; omega
  have hv : vs[j]? = some vs[j] := List.getElem?_eq_getElem hjv
  have ho := h.own j _ p hv hj
  obtain ⟨A, c, he, hc, hC⟩ := Kd.R_reads (Kd.R_of_own (enc := Value.bool) (h1 := fun _ => rfl) (ok := fun _ => True) ho (fun _ _ => trivial))
  refine ⟨[vs[j]], rfl, ⟨A, c, by rw [he], hc, hC⟩, fun i u hi => ?_⟩
  match i, hi with
  | 0, hi =>
    have : vs[j] = u := by simpa using hi
    subst this
    rw [add_plain]
    refine cell_of_block h.blk _ _ ?_
    simp [Kd.slice, hv]
  | i + 1, hi => simp at hi
end Go.Proofs.Ytdekcbpngbgjmaa.PC
