/- What cells.Lay computes, on lists: the grid of covered places, the cells laid one behind the other. No program in sight. -/
import Derived.Test.YtdekcbpngbgjmaaGrid
namespace Go.Proofs.Ytdekcbpngbgjmaa.PC
open Go.RowKit Go.Proofs.YtdekcbpngbgjmaaW.PrintWords Go.Proofs.YtdekcbpngbgjmaaW.PrintLast Go.Proofs.YtdekcbpngbgjmaaW.PrintMore

def bnd (n : Int) : Int := if n < 1 then 1 else if 1000 < n then 1000 else n
/-- One row of a block, place by place. -/
def blkRow (gs : List (List Bool)) (ov : Bool) (r c : Nat) : Nat → List (List Bool) × Bool
  | 0 => (gs, ov)
  | k + 1 => (setG (blkRow gs ov r c k).1 r (c + k), (blkRow gs ov r c k).2 || covAt (blkRow gs ov r c k).1 r (c + k))
/-- A block, row by row. -/
def blk (gs : List (List Bool)) (ov : Bool) (r c w : Nat) : Nat → List (List Bool) × Bool
  | 0 => (gs, ov)
  | h + 1 => blkRow (blk gs ov r c w h).1 (blk gs ov r c w h).2 (r + h) c w
/-- The first place of a row, from c on, that isn't covered. -/
def findG (gs : List (List Bool)) (r c : Nat) : Nat := c + (((gs.getD r []).drop c).takeWhile (fun b => b)).length

structure LS where
  gs : List (List Bool)
  at_ : List S33
  over : List Int
  beyond : List Int
  left : Int
  col : Nat

/-- One cell; none: there are too many places. -/
def layCell (n r : Nat) (x : S37) (s : LS) : Option LS :=
  let high := bnd x.f0
  let wide := bnd x.f1
  let there := min high ((n : Int) - (r : Int))
  if s.left - there * wide < 0 then none
  else
    let c := findG s.gs r s.col
    let b := blk s.gs false r c wide.toNat there.toNat
    some { gs := b.1, at_ := s.at_ ++ [⟨r, c, there⟩], over := if b.2 then s.over ++ [(s.at_.length : Int)] else s.over, beyond := if there < high then s.beyond ++ [(s.at_.length : Int)] else s.beyond, left := s.left - there * wide, col := c + wide.toNat }
/-- A row's cells; the answer, and whether there were too many places. -/
def layRow (n r : Nat) : List S37 → LS → LS × Bool
  | [], s => (s, false)
  | x :: xs, s => match layCell n r x s with
    | none => (s, true)
    | some s' => layRow n r xs s'
def layRows (n : Nat) : List (List S37) → Nat → LS → LS
  | [], _, s => s
  | row :: rows, r, s => if (layRow n r row { s with col := 0 }).2 = true then (layRow n r row { s with col := 0 }).1 else layRows n rows (r + 1) (layRow n r row { s with col := 0 }).1
def ls0 (n : Nat) : LS := ⟨List.replicate n [], [], [], [], 4096, 0⟩
def laid (rows : List (List S37)) : LS := layRows rows.length rows 0 (ls0 rows.length)
end Go.Proofs.Ytdekcbpngbgjmaa.PC
