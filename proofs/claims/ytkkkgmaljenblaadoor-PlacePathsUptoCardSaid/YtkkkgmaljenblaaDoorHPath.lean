/- place.Path at any row of ints of at most 1000000000000: it returns the steps' text, in new memory. Conditions: those of each statement. -/
import Derived.Test.YtkkkgmaljenblaaDoorPSx0
import Derived.Test.YtkkkgmaljenblaaDoorGlob
import Derived.Test.YtkkkgmaljenblaaDoorBld
import Derived.Lib.ItoaLen
import Derived.Outline
import Derived.Lib.Hide
namespace Go.Proofs.YtkkkgmaljenblaaDoor.PS
open Go.RowKit Go.Proofs.YtkkkgmaljenblaaDoorW.PrintWords Go.Proofs.YtkkkgmaljenblaaDoorW.PrintLast Go.Proofs.YtkkkgmaljenblaaDoorW.PrintMore Go.Proofs.YtkkkgmaljenblaaDoor.Glob

def stepText (n : Int) : List UInt8 := 47 :: Lib.itoa n
def pathText (xs : List Int) : List UInt8 := xs.flatMap stepText
def fits (n : Int) : Bool := decide (-9223372036854775808 ≤ n ∧ n ≤ 9223372036854775807)
def place_Path.f (l0 : List Int) : Option ByteArray :=
  if l0.length ≤ 1000000000000 ∧ l0.all fits = true then some (if l0 = [] then ⟨#[47]⟩ else if l0.all (fun n => decide (0 ≤ n)) = true then ⟨(pathText l0).toArray⟩ else ⟨#[]⟩) else none

theorem at_int {w : World} {A : Option Addr} {n : Nat} {xs : List Int} (h : Kd.C (Kd.int .i64) w A n xs) (i : Int) (h0 : 0 ≤ i) (h1 : i < n) : ∃ ad, A = some ad ∧ w.cell? (ad.add i.toNat) = some (.int .i64 (xs.getD i.toNat 0)) := by
  obtain ⟨ad, c, e, _, hK, hc⟩ := Kd.C_get h 0 i h0 h1
  have hK' : c = [.int .i64 (xs.getD i.toNat 0)] := hK
  subst hK'
  refine ⟨ad, e, ?_⟩
  have := hc 0 _ rfl
  simpa [Kd.int, Kd.scalar] using this
theorem at_nat {w : World} {A : Option Addr} {n : Nat} {xs : List Int} (h : Kd.C (Kd.int .i64) w A n xs) (k : Nat) (h1 : k < n) : ∃ ad, A = some ad ∧ w.cell? (ad.add k) = some (.int .i64 (xs.getD k 0)) := by
  obtain ⟨ad, e, hc⟩ := at_int h (k : Int) (by omega) (by omega)
  rw [Int.toNat_natCast] at hc
  exact ⟨ad, e, hc⟩
theorem byteCells_snoc (l : List UInt8) (c : UInt8) : Lib.byteCells l ++ [Value.int .u8 (c.toNat : Int)] = Lib.byteCells (l ++ [c]) := by simp [Lib.byteCells]
theorem byteCells_str (l m : List UInt8) : Lib.byteCells l ++ Lib.strCells ⟨m.toArray⟩ = Lib.byteCells (l ++ m) := by simp [Lib.byteCells, Lib.strCells]
theorem pathText_len (xs : List Int) (h : xs.all fits = true) : (pathText xs).length ≤ 22 * xs.length := by
  induction xs with
  | nil => simp [pathText]
  | cons x xs ih =>
    simp only [List.all_cons, Bool.and_eq_true] at h
    have h1 := ih h.2
    have h2 : fits x = true := h.1
    unfold fits at h2
    have h3 := of_decide_eq_true h2
    have h4 := Lib.itoa_length_le x h3.1 h3.2
    unfold pathText at *
    rw [List.flatMap_cons, List.length_append, List.length_cons]
    unfold stepText at *
    simp only [List.length_cons] at *
    omega
theorem itoaB_size (x : Int) : (itoaB x).size = (Lib.itoa x).length := by
  show (Lib.itoa x).toArray.size = _
  simp
theorem path_next {l0 : List Int} {k : Nat} {x : Int} (h : l0.take (k + 1) = l0.take k ++ [x]) : Lib.byteCells (pathText (l0.take (k + 1))) = Lib.byteCells (pathText (l0.take k)) ++ [Value.int .u8 47] ++ Lib.strCells (itoaB x) := by
  have e : pathText (l0.take k ++ [x]) = pathText (l0.take k) ++ [47] ++ Lib.itoa x := by simp [pathText, stepText]
  rw [h, e, ← byteCells_str, ← byteCells_snoc]
  rfl
theorem ret_str {a b : ByteArray} (h : a = b) : Ending.returned (.string a) = .returned (.string b) := by rw [h]

set_option maxRecDepth 100000 in
set_option maxHeartbeats 4000000 in
theorem place_Path.calls (A0 : Option Addr) (c0 : Nat) (l0 : List Int) (r : ByteArray) (w : World) (hr0 : Kd.C (Kd.int .i64) w A0 l0.length l0) (hc0 : l0.length ≤ c0) (hG : GW w) (h : place_Path.f l0 = some r) :
    Calls Tryd.prog 7 #[.slice A0 l0.length c0] w fun e w' => e = .returned (.string r) ∧ Below w.heap.size w w' := by
  have _ := hc0
  unfold place_Path.f at h
  by_cases hcond : l0.length ≤ 1000000000000 ∧ l0.all fits = true
  case neg => rw [if_neg hcond] at h; cases h
  rw [if_pos hcond] at h
  obtain ⟨hlen, hall⟩ := hcond
  have hr : (if l0 = [] then (⟨#[47]⟩ : ByteArray) else if l0.all (fun n => decide (0 ≤ n)) = true then ⟨(pathText l0).toArray⟩ else ⟨#[]⟩) = r := Option.some.inj h
  clear h
  have HR := Aside0.mk hr0
  have HG := Aside0.mk hG
  have HA := Aside0.mk hall
  clear hr0 hG hall
  by_cases he : l0 = []
  · subst he
    rw [if_pos rfl] at hr
    subst hr
    go_enter Tryd.func7, Tryd.ntmps7
    go_wp2
    go_ret
    exact ⟨rfl, Below.refl _ _⟩
  · rw [if_neg he] at hr
    have HRES := Aside0.mk hr
    have hl1 : 0 < l0.length := List.length_pos_iff.2 he
    have hl2 : ((l0.length : Int) == 0) = false := by simp; omega
    clear he hr
    go_enter Tryd.func7, Tryd.ntmps7
    go_wp2
    go_loopg [5, 11] l0.length (fun kq v5 i wr => ∃ (k : Nat), i = .int .i64 (k : Int) ∧ k ≤ l0.length ∧ Aside0 (Lib.IsBuilderF 40 5 w.heap.size w.heap.size (Lib.byteCells (pathText (l0.take k))) wr) ∧ Aside0 (Below w.heap.size w wr) ∧ Aside0 ((l0.take k).all (fun n => decide (0 ≤ n)) = true) ∧ Aside0 (kq + k = l0.length))
    case atStart => exact ⟨0, rfl, Nat.zero_le _, ⟨Lib.IsBuilderF.of (Lib.fresh_isBuilder 40 5 w)⟩, ⟨(Below.refl _ _).alloc (Nat.le_refl _) _⟩, ⟨rfl⟩, ⟨by omega⟩⟩
    case round =>
      obtain ⟨k, rfl, hk, HBd, HBl, HP, HM⟩ := hrel
      by_cases hlt : k < l0.length
      · obtain ⟨ad, rfl, hx⟩ := at_nat (Kd.C_below HR.out HBl.out) k hlt
        obtain ⟨x, hxe⟩ : ∃ x, x = l0.getD k 0 := ⟨_, rfl⟩
        rw [← hxe] at hx
        have hmem : x ∈ l0 := by rw [hxe, List.getD_eq_getElem?_getD, List.getElem?_eq_getElem hlt]; exact List.getElem_mem _
        have htk : l0.take (k + 1) = l0.take k ++ [x] := by
          rw [List.take_succ_eq_append_getElem hlt, hxe, List.getD_eq_getElem?_getD, List.getElem?_eq_getElem hlt]
          rfl
        have hfx : fits x = true := List.all_eq_true.1 HA.out x hmem
        have HX := Aside0.mk (And.intro htk (of_decide_eq_true hfx))
        have HM2 := Aside0.mk hlt
        have HMEM := Aside0.mk hmem
        clear hxe htk hfx hmem
        by_cases hneg : x < 0
        · have hd := decide_eq_true hneg
          have HN := Aside0.mk hneg
          go_wp2
          go_ret
          refine ⟨ret_str ?_, HBl.out⟩
          rw [← HRES.out, if_neg]
          intro hall
          have := of_decide_eq_true (List.all_eq_true.1 hall x HMEM.out)
          have := HN.out
          omega
        · have hd := decide_eq_false hneg
          have HN := Aside0.mk hneg
          have hsz : w.heap.size ≤ wr.heap.size := HBl.out.size
          have hpt : (pathText (l0.take k)).length ≤ 22 * k := by
            have := pathText_len (l0.take k) (List.all_eq_true.2 fun y hy => List.all_eq_true.1 HA.out y (List.mem_of_mem_take hy))
            rw [List.length_take] at this
            omega
          have hit : (Lib.itoa x).length ≤ 21 := Lib.itoa_length_le x HX.out.2.1 HX.out.2.2
          have HLEN := Aside0.mk (And.intro hpt hit)
          have hxlo := HX.out.2.1
          have hxhi := HX.out.2.2
          clear hpt hit
          go_wp2_with (first
            | (go_at_call 13; refine (Bld.writeByte w.heap.size w.heap.size _ 47 _ HBd.out ?s1 ?s2).mono ?_; (case s1 => (have := HLEN.out; rw [Lib.byteCells_length]; omega)); (case s2 => exact HBl.out.size); rintro e w1 ⟨rfl, hb1, hl1_, _⟩; have HB1 := Aside0.mk hb1; have HL1 := Aside0.mk (HBl.out.trans hl1_); clear hb1 hl1_)
            | (go_at_call 12; refine (itoa_calls x _ (HG.out.below HL1.out) (by omega) (by omega)).mono ?_; rintro e w2 ⟨rfl, hl2_⟩; have HB2 := Aside0.mk (Bld.isB_below HB1.out hl2_); have HL2 := Aside0.mk (HL1.out.trans (hl2_.mono HL1.out.size)); clear hl2_)
            | (go_at_call 14; refine (Bld.writeString w.heap.size w.heap.size _ (itoaB x) _ HB2.out ?s3 ?s4).mono ?_; (case s3 => (have := HLEN.out; rw [List.length_append, Lib.byteCells_length, List.length_singleton, itoaB_size]; omega)); (case s4 => exact HL2.out.size); rintro e w3 ⟨rfl, hb3, hl3_, _⟩; have HB3 := Aside0.mk hb3; have HL3 := Aside0.mk (HL2.out.trans hl3_); clear hb3 hl3_))
          go_roundg (gk - 1)
          case measure => have := HM.out; have := HM2.out; omega
          case rel => exact ⟨k + 1, by go_num, HM2.out, ⟨by rw [path_next HX.out.1]; exact HB3.out⟩, ⟨HL3.out⟩, ⟨by rw [HX.out.1, List.all_append, HP.out]; have := HN.out; simp; omega⟩, ⟨by have := HM.out; have := HM2.out; omega⟩⟩
      · obtain rfl : k = l0.length := by omega
        have hP := HP.out
        rw [List.take_length] at hP HBd
        have HP2 := Aside0.mk hP
        clear hP
        go_wp2_with (go_at_call 15; refine (Tryd.Builder_String_any_k w.heap.size w.heap.size (pathText l0) _ HBd.out HBl.out.size).mono ?_; rintro e w1 ⟨rfl, _, hl1_, _⟩; have HL1 := Aside0.mk (HBl.out.trans hl1_); clear hl1_)
        go_ret
        refine ⟨ret_str ?_, HL1.out⟩
        rw [← HRES.out, if_pos HP2.out]
end Go.Proofs.YtkkkgmaljenblaaDoor.PS
