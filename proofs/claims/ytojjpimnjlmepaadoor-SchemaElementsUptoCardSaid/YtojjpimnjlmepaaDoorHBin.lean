/- slices.BinarySearchFunc over the table's rows, with the function that schema.Of hands in. -/
import Derived.Test.YtojjpimnjlmepaaDoorPMx0
import Derived.Test.YtojjpimnjlmepaaDoorShelf
import Derived.Outline
set_option linter.unusedVariables false
namespace Go.Proofs.YtojjpimnjlmepaaDoor.PM
open Go.RowKit Go.Lib Go.Proofs.YtojjpimnjlmepaaDoorW.PrintWords Go.Proofs.YtojjpimnjlmepaaDoorW.PrintLast Go.Proofs.YtojjpimnjlmepaaDoorW.PrintMore

def cmpD (a b : ByteArray) : Int := Lib.compareBytes a.data.toList b.data.toList
set_option maxRecDepth 100000 in
set_option maxHeartbeats 4000000 in
theorem of1_walk (r : S54) (s : ByteArray) (w : World) : Calls Tryd.prog 18 #[.agg #[.string r.f0, .string r.f1, .string r.f2, .string r.f3], .string s] w fun e w' => e = .returned (.int .i64 (cmpD r.f0 s)) ∧ Below w.heap.size w w' := by
  have c1 : ∀ W, Calls Tryd.prog 19 #[.string r.f0, .string s] W _ := fun W => Tryd.strings_Compare r.f0 s W
  go_enter Tryd.func18, Tryd.ntmps18
  go_wp2_with (go_at_call 19; refine (c1 _).mono ?_; rintro e w' ⟨rfl, rfl⟩)
  go_ret
  exact ⟨rfl, (Below.refl _ _).alloc (Nat.le_refl _) _⟩
/-- The rows, where they lie. -/
def RowsAt (xs : List S54) (g : Nat) (w : World) : Prop := ∀ (i : Nat) x, xs[i]? = some x → w.cell? ⟨g, i * 4, none⟩ = some (.string x.f0) ∧ w.cell? ⟨g, i * 4 + 1, none⟩ = some (.string x.f1) ∧ w.cell? ⟨g, i * 4 + 2, none⟩ = some (.string x.f2) ∧ w.cell? ⟨g, i * 4 + 3, none⟩ = some (.string x.f3)
theorem RowsAt.below {xs : List S54} {g : Nat} {w w' : World} (h : RowsAt xs g w) (hb : Below w.heap.size w w') : RowsAt xs g w' := fun i x hx => by
  obtain ⟨h0, h1, h2, h3⟩ := h i x hx
  exact ⟨(hb.cell (World.block_lt_of_cell? w _ h0)).trans h0, (hb.cell (World.block_lt_of_cell? w _ h1)).trans h1, (hb.cell (World.block_lt_of_cell? w _ h2)).trans h2, (hb.cell (World.block_lt_of_cell? w _ h3)).trans h3⟩
def bsGo (xs : List S54) (s : ByteArray) : Nat → Nat → Nat → Nat
  | 0, i, _ => i
  | k + 1, i, j => if i < j then (if cmpD ((xs.map fun x => x.f0).getD ((i + j) / 2) ByteArray.empty) s < 0 then bsGo xs s k ((i + j) / 2 + 1) j else bsGo xs s k i ((i + j) / 2)) else i
def bsAt (xs : List S54) (s : ByteArray) : Nat := bsGo xs s xs.length 0 xs.length
def bsOk (xs : List S54) (s : ByteArray) : Bool := match xs[bsAt xs s]? with
  | some x => cmpD x.f0 s == 0
  | none => false
set_option maxRecDepth 100000 in
set_option maxHeartbeats 4000000 in
theorem bin_walk (xs : List S54) (g c : Nat) (s : ByteArray) (w : World) (hn : xs.length ≤ 1000) (hR : RowsAt xs g w) : Calls Tryd.prog 17 #[.slice (some ⟨g, 0, none⟩) xs.length c, .string s, .func (.func 18) #[] #[]] w fun e w' => e = .returned (.tuple #[.int .i64 (bsAt xs s : Int), .bool (bsOk xs s)]) ∧ Below w.heap.size w w' := by
  have mixed : Tryd.prog.follows Departure.mixedOrders = true := by kernel_rfl
  have eg := enters_of (P := Tryd.prog) Tryd.func18 (by kernel_rfl) rfl
  have HR := Aside0.mk hR
  obtain ⟨A, hA⟩ : ∃ A, bsAt xs s = A := ⟨_, rfl⟩
  obtain ⟨O, hO⟩ : ∃ O, bsOk xs s = O := ⟨_, rfl⟩
  unfold bsOk at hO
  rw [hA] at hO ⊢
  rw [show (bsOk xs s) = O from by unfold bsOk; rw [hA]; exact hO]
  have HO := Aside0.mk hO
  have HA := Aside0.mk hA
  clear hR hO hA
  go_enter Tryd.func17, Tryd.ntmps17
  go_wp2
  go_loopg [9, 10] xs.length (fun gf s9 s10 wx => ∃ (i j : Nat), s9 = .int .i64 (i : Int) ∧ s10 = .int .i64 (j : Int) ∧ i ≤ j ∧ j ≤ xs.length ∧ Aside0 (j ≤ i + gf) ∧ Aside0 (Below w.heap.size w wx) ∧ Aside0 (bsGo xs s gf i j = A))
  case atStart => exact ⟨0, xs.length, rfl, rfl, Nat.zero_le _, Nat.le_refl _, ⟨by omega⟩, ⟨Below.refl _ _⟩, HA⟩
  case round =>
    obtain ⟨i, j, rfl, rfl, hij, hj, HM, HB, HS⟩ := hrel
    by_cases hlt : i < j
    · obtain ⟨x, hx⟩ : ∃ x, xs[(i + j) / 2]? = some x := ⟨_, List.getElem?_eq_getElem (by omega)⟩
      obtain ⟨h0, h1, h2, h3⟩ := (HR.out.below HB.out) _ x hx
      have hcall := of1_walk x s wr
      have hgd : (xs.map fun x => x.f0).getD ((i + j) / 2) ByteArray.empty = x.f0 := by rw [List.getD_eq_getElem?_getD, List.getElem?_map, hx]; rfl
      obtain ⟨gf, rfl⟩ : ∃ gf, gk = gf + 1 := ⟨gk - 1, by have := HM.out; omega⟩
      have hs := HS.out
      rw [bsGo, if_pos hlt, hgd] at hs
      clear hgd
      by_cases hneg : cmpD x.f0 s < 0
      · rw [if_pos hneg] at hs
        have HS2 := Aside0.mk hs
        have d1 : decide (cmpD x.f0 s < 0) = true := decide_eq_true hneg
        clear hs hneg hx
        go_wp2_with (go_at_call 18; refine hcall.mono ?_; rintro e w1 ⟨rfl, hb⟩; have B1 := Aside0.mk hb; clear hb)
        go_roundg gf
        case measure => omega
        case rel => exact ⟨(i + j) / 2 + 1, j, by go_num, rfl, by omega, hj, ⟨by have := HM.out; omega⟩, ⟨HB.out.trans (B1.out.mono HB.out.size)⟩, HS2⟩
      · rw [if_neg hneg] at hs
        have HS2 := Aside0.mk hs
        have d1 : decide (cmpD x.f0 s < 0) = false := decide_eq_false hneg
        clear hs hneg hx
        go_wp2_with (go_at_call 18; refine hcall.mono ?_; rintro e w1 ⟨rfl, hb⟩; have B1 := Aside0.mk hb; clear hb)
        go_roundg gf
        case measure => omega
        case rel => exact ⟨i, (i + j) / 2, rfl, by go_num, by omega, by omega, ⟨by have := HM.out; omega⟩, ⟨HB.out.trans (B1.out.mono HB.out.size)⟩, HS2⟩
    · obtain rfl : i = j := by omega
      have hbs : i = A := by
        have hs := HS.out
        cases gk with
        | zero => exact hs
        | succ gf => rw [bsGo, if_neg (by omega)] at hs; exact hs
      subst hbs
      have hO := HO.out
      clear HS HO HA hij hlt HM
      by_cases hi : i < xs.length
      · obtain ⟨x, hx⟩ : ∃ x, xs[i]? = some x := ⟨_, List.getElem?_eq_getElem hi⟩
        obtain ⟨h0, h1, h2, h3⟩ := (HR.out.below HB.out) _ x hx
        have hcall := of1_walk x s wr
        rw [hx] at hO
        simp only at hO
        subst hO
        have d1 : decide ((i : Int) < (xs.length : Int)) = true := decide_eq_true (by omega)
        clear hx
        go_wp2_with (go_at_call 18; refine hcall.mono ?_; rintro e w1 ⟨rfl, hb⟩; have B1 := Aside0.mk hb; clear hb)
        repeat (go_quiet (fail); try go_wp2)
        go_ret2
        exact ⟨rfl, (HB.out.trans (B1.out.mono HB.out.size)).trans ⟨rfl, rfl, rfl, Nat.le_refl _, fun _ _ => rfl⟩⟩
      · have hx : xs[i]? = none := List.getElem?_eq_none (by omega)
        rw [hx] at hO
        simp only at hO
        subst hO
        obtain rfl : i = xs.length := by omega
        clear hx hi
        go_wp2
        repeat (go_quiet (fail); try go_wp2)
        go_ret2
        exact ⟨rfl, HB.out.trans ⟨rfl, rfl, rfl, Nat.le_refl _, fun _ _ => rfl⟩⟩
end Go.Proofs.YtojjpimnjlmepaaDoor.PM
