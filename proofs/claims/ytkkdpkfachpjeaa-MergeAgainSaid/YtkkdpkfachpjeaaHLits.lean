/- Literals of two and of three rows, as rows of rows. No condition beside those in each statement. -/
import Derived.Test.YtkkdpkfachpjeaaHSort
namespace Go.Proofs.Ytkkdpkfachpjeaa.PS
open Go.RowKit Go.Proofs.YtkkdpkfachpjeaaW.PrintWords Go.Proofs.YtkkdpkfachpjeaaW.PrintLast Go.Proofs.YtkkdpkfachpjeaaW.PrintMore
theorem lits {w : World} {vs : Array Value} {ls : List (List S27)} (hl : ls.length < 1000)
    (hk : ∀ (j : Nat) (l : List S27), ls[j]? = some l → ∃ A c, vs[j]? = some (Value.slice A l.length c) ∧ l.length ≤ c ∧ Kd.C k27 w A l.length l) :
    Kd.C (Kd.slice 27 k27) (w.alloc (.cells vs 38 (0, 0))) (some ⟨w.heap.size, 0, none⟩) ls.length ls := by
  refine ⟨rfl, by omega, fun _ => ⟨_, rfl, fun j p hj => ?_⟩⟩
  obtain ⟨A, c, hv, hc, hC⟩ := hk j p hj
  refine ⟨[.slice A p.length c], rfl, ⟨A, c, rfl, hc, Kd.C_alloc hC _⟩, fun i u hu => ?_⟩
  cases i with
  | zero =>
    simp only [List.getElem?_cons_zero, Option.some.injEq] at hu
    subst hu
    rw [show j * (Kd.slice 27 k27).sz + 0 = j from Nat.mul_one j, Addr.add_lit, Nat.zero_add]
    rw [World.cell?_alloc_mark]
    exact hv
  | succ i => simp at hu
variable {w : World} {A1 A2 A3 : Option Addr} {c1 c2 c3 : Nat} {l1 l2 l3 : List S27}
theorem lit2 (h1 : l1.length ≤ c1) (k1 : Kd.C k27 w A1 l1.length l1) (h2 : l2.length ≤ c2) (k2 : Kd.C k27 w A2 l2.length l2) :
    Kd.C (Kd.slice 27 k27) (w.alloc (.cells #[.slice A1 l1.length c1, .slice A2 l2.length c2] 38 (0, 0))) (some ⟨w.heap.size, 0, none⟩) 2 [l1, l2] := by
  refine lits (ls := [l1, l2]) (by simp) (fun j l hj => ?_)
  match j, hj with
  | 0, hj => cases hj; exact ⟨_, _, rfl, h1, k1⟩
  | 1, hj => cases hj; exact ⟨_, _, rfl, h2, k2⟩
  | j + 2, hj => simp at hj
theorem lit3 (h1 : l1.length ≤ c1) (k1 : Kd.C k27 w A1 l1.length l1) (h2 : l2.length ≤ c2) (k2 : Kd.C k27 w A2 l2.length l2) (h3 : l3.length ≤ c3) (k3 : Kd.C k27 w A3 l3.length l3) :
    Kd.C (Kd.slice 27 k27) (w.alloc (.cells #[.slice A1 l1.length c1, .slice A2 l2.length c2, .slice A3 l3.length c3] 38 (0, 0))) (some ⟨w.heap.size, 0, none⟩) 3 [l1, l2, l3] := by
  refine lits (ls := [l1, l2, l3]) (by simp) (fun j l hj => ?_)
  match j, hj with
  | 0, hj => cases hj; exact ⟨_, _, rfl, h1, k1⟩
  | 1, hj => cases hj; exact ⟨_, _, rfl, h2, k2⟩
  | 2, hj => cases hj; exact ⟨_, _, rfl, h3, k3⟩
  | j + 3, hj => simp at hj
end Go.Proofs.Ytkkdpkfachpjeaa.PS
