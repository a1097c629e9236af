/- cells.Lay as a summary for the printed texts: what it answers, up to 1000000 rows. -/
import Derived.Test.YtdekcbpngbgjmaaHLayWalk
namespace Go.Proofs.Ytdekcbpngbgjmaa.PC
open Go.RowKit Go.Proofs.YtdekcbpngbgjmaaW.PrintWords Go.Proofs.YtdekcbpngbgjmaaW.PrintLast Go.Proofs.YtdekcbpngbgjmaaW.PrintMore

def cells_Lay.f (l0 : List (List S37)) : Option (List S33 × List Int × List Int) := if l0.length ≤ 1000000 then some ((laid l0).at_, (laid l0).over, (laid l0).beyond) else none
theorem reps33 (w : World) (base : Nat) (ok : Nat → Prop) (xs : List S33) : Reps (k33.M w base ok) 3 xs (fl33 xs) := by
  induction xs with
  | nil => exact Reps.none _ _
  | cons x xs ih =>
    have h1 : Reps (k33.M w base ok) 3 ([] ++ [x]) ([] ++ [Value.int .i64 x.f0, .int .i64 x.f1, .int .i64 x.f2]) := Reps.snoc (Reps.none _ _) (k33_mkM w base ok x) rfl
    have := Kd.reps_append h1 ih
    simpa [fl33] using this
theorem cells_Lay.calls (A0 : Option Addr) (c0 : Nat) (l0 : List (List S37)) (r1 : List S33) (r2 : List Int) (r3 : List Int) (w : World) (hr0 : Kd.C (Kd.slice 37 k37) w A0 l0.length l0) (hc0 : l0.length ≤ c0) (h : cells_Lay.f l0 = some (r1, r2, r3)) :
    Calls Try.prog 9 #[.slice A0 l0.length c0] w fun e w' => ∃ v0_ v1_ v2_ : Value, e = .returned (.tuple #[v0_, v1_, v2_]) ∧ Kd.R k33 33 w' w.heap.size (fun _ => True) v0_ r1 ∧ Kd.R (Kd.int .i64) 3 w' w.heap.size (fun k_ => some k_ ≠ (v2_ : Value).ownBlock) v1_ r2 ∧ Kd.R (Kd.int .i64) 3 w' w.heap.size (fun k_ => some k_ ≠ (v1_ : Value).ownBlock) v2_ r3 ∧ Below w.heap.size w w' := by
  have _ := hc0
  unfold cells_Lay.f at h
  split at h
  · rename_i hn
    simp only [Option.some.injEq, Prod.mk.injEq] at h
    obtain ⟨rfl, rfl, rfl⟩ := h
    refine (Lay_walk A0 c0 l0 w hr0 hn).mono ?_
    rintro e w' ⟨v6, v7, v8, vs, rfl, H⟩
    refine ⟨v6, v7, v8, rfl, ?_, Kd.R_of_own (by simpa [nums, encs] using H.oov) (fun k hk e => H.ne k hk e.symm), Kd.R_of_own (by simpa [nums, encs] using H.oby) (fun k hk e => H.ne k e.symm hk), H.bel⟩
    exact ⟨fun _ _ => trivial, fl33 (laid l0).at_, H.oat, reps33 _ _ _ _⟩
  · simp at h
end Go.Proofs.Ytdekcbpngbgjmaa.PC
