/- The table of chapter 16 against the document's rows, by running both; the row of any name. -/
import Derived.Test.YtojjpimnjlmepaaDoorPMx5
import Derived.Test.YtojjpimnjlmepaaDoorHOf
import Derived.Lib.Bytealg
set_option linter.unusedVariables false
namespace Go.Proofs.YtojjpimnjlmepaaDoor.Tab
open Go Go.RowKit Go.Proofs.YtojjpimnjlmepaaDoor.PM Go.Proofs.YtojjpimnjlmepaaDoorW.PrintWords Go.Proofs.YtojjpimnjlmepaaDoorW.PrintLast

theorem w64 {n : Int} (h0 : -9223372036854775808 ≤ n) (h1 : n ≤ 9223372036854775807) : wrap64 n = n := by unfold wrap64; omega
theorem blist_eq (a b : ByteArray) : a = b ↔ a.toList = b.toList := ⟨fun h => h ▸ rfl, fun h => by
  rw [ByteArray.toList_eq, ByteArray.toList_eq] at h
  exact ByteArray.ext (Array.toList_inj.1 h)⟩
theorem rd_S39 {xs : List S39} {i : Nat} {a : S39} (h : xs[i]? = some a) : rd_T39 xs (i : Int) = a := by simp [rd_T39, List.getD_eq_getElem?_getD, h]
theorem rd_S40 {xs : List S40} {i : Nat} {a : S40} (h : xs[i]? = some a) : rd_T40 xs (i : Int) = a := by simp [rd_T40, List.getD_eq_getElem?_getD, h]
theorem rd_S34 {xs : List S34} {i : Nat} {a : S34} (h : xs[i]? = some a) : rd_T34 xs (i : Int) = a := by simp [rd_T34, List.getD_eq_getElem?_getD, h]
theorem rd_B {xs : List ByteArray} {i : Nat} {a : ByteArray} (h : xs[i]? = some a) : rdOf ByteArray.empty xs (i : Int) = a := by simp [rdOf, List.getD_eq_getElem?_getD, h]
theorem drop_at {α : Type} {l : List α} {i : Nat} {x : α} (h : l[i]? = some x) : l.drop i = x :: l.drop (i + 1) := by
  obtain ⟨hl, rfl⟩ := List.getElem?_eq_some_iff.1 h
  exact List.drop_eq_getElem_cons hl

deriving instance DecidableEq for S39
def to39 (x : S40) : S39 := ⟨x.f0, x.f1, x.f2⟩
def rowsL : List S34 := oneRows ++ twoRows
theorem rows_f : beadleref16_Rows.f = some rowsL := by kernel_rfl
theorem rows_len : rowsL.length = 74 := by kernel_rfl
def ofV (y : S34) : ByteArray × ByteArray × List ByteArray × List S39 × Bool := (y.f0, y.f1, y.f2, y.f3.map to39, true)
def rowOkB (y : S34) : Bool := decide (schema_Of.f 60 y.f0 = some (ofV y)) && decide (y.f2.length ≤ 100) && decide (y.f3.length ≤ 50)
set_option maxRecDepth 1000000 in
theorem rows_ok : rowsL.all rowOkB = true := by decide +kernel
def namesB : Bool := match schema_table.f with
  | some T => !T.isEmpty && decide (T.length ≤ 1000) && T.all (fun x => rowsL.any fun y => decide (x.f0 = y.f0))
  | none => false
set_option maxRecDepth 1000000 in
theorem names_ok : namesB = true := by decide +kernel
theorem row_ok {y : S34} (h : y ∈ rowsL) : schema_Of.f 60 y.f0 = some (ofV y) ∧ y.f2.length ≤ 100 ∧ y.f3.length ≤ 50 := by
  have := List.all_eq_true.1 rows_ok y h
  unfold rowOkB at this
  simp only [Bool.and_eq_true, decide_eq_true_eq] at this
  exact ⟨this.1.1, this.1.2, this.2⟩
theorem cb_zero : ∀ a b : List UInt8, Lib.compareBytes a b = 0 → a = b
  | [], [], _ => rfl
  | [], _ :: _, h => by simp [Lib.compareBytes] at h
  | _ :: _, [], h => by simp [Lib.compareBytes] at h
  | a :: x, b :: y, h => by
    rw [Lib.compareBytes] at h
    by_cases h1 : a < b
    · rw [if_pos h1] at h; cases h
    · rw [if_neg h1] at h
      by_cases h2 : b < a
      · rw [if_pos h2] at h; cases h
      · rw [if_neg h2] at h
        obtain rfl : a = b := UInt8.le_antisymm (UInt8.not_lt.1 h2) (UInt8.not_lt.1 h1)
        rw [cb_zero x y h]
def noneV : ByteArray × ByteArray × List ByteArray × List S39 × Bool := (⟨#[]⟩, ⟨#[]⟩, [], [], false)
theorem none_ok {name : ByteArray} (h : ∀ y ∈ rowsL, y.f0 ≠ name) : schema_Of.f 60 name = some noneV := by
  have hT := names_ok
  unfold namesB at hT
  cases e : schema_table.f with
  | none => rw [e] at hT; cases hT
  | some T =>
    rw [e] at hT
    simp only [Bool.and_eq_true, decide_eq_true_eq, List.all_eq_true, List.any_eq_true] at hT
    obtain ⟨⟨h1, h2⟩, h3⟩ := hT
    have hne : T ≠ [] := by rintro rfl; cases h1
    unfold schema_Of.f rowOf
    rw [e, Option.bind_some, if_pos ⟨hne, h2⟩, Option.bind_some]
    cases hb : bsOk T name with
    | false => rfl
    | true =>
      exfalso
      unfold bsOk at hb
      split at hb
      case h_1 x hx =>
        obtain ⟨y, hy, e1⟩ := h3 x (List.mem_of_getElem? hx)
        have := cb_zero _ _ (by simpa [cmpD] using hb)
        exact h y hy (e1.symm.trans (ByteArray.ext (Array.toList_inj.1 this)))
      case h_2 => cases hb
/-- The row of any name, here and in the document. -/
theorem of_l0 (name : ByteArray) : ∀ (d i : Nat), i + d = rowsL.length → ((∃ (j : Nat) (y : S34), rowsL[j]? = some y ∧ y.f0 = name ∧ Ev (fun k => beadleref16_Of.l0 k name rowsL (i : Int)) (j : Int)) ∨ ((∀ y ∈ rowsL.drop i, y.f0 ≠ name) ∧ Ev (fun k => beadleref16_Of.l0 k name rowsL (i : Int)) (-1))) := by
  have hlen := rows_len
  intro d
  induction d with
  | zero =>
    intro i hi
    refine .inr ⟨?_, Ev.step (f := fun _ => some (-1)) (fun k => ?_) (Ev.now _)⟩
    · rw [List.drop_of_length_le (by omega)]
      intro y hy
      cases hy
    · rw [beadleref16_Of.l0, if_neg (by omega)]
  | succ d ih =>
    intro i hi
    obtain ⟨y, hy⟩ : ∃ y, rowsL[i]? = some y := ⟨_, List.getElem?_eq_getElem (by omega)⟩
    by_cases h : y.f0 = name
    · refine .inl ⟨i, y, hy, h, Ev.step (f := fun _ => some (i : Int)) (fun k => ?_) (Ev.now _)⟩
      rw [beadleref16_Of.l0, if_pos (by omega), if_pos (by omega), rd_S34 hy, if_pos ((blist_eq _ _).1 h)]
    · have hs : ∀ k, beadleref16_Of.l0 (k + 1) name rowsL (i : Int) = beadleref16_Of.l0 k name rowsL ((i + 1 : Nat) : Int) := fun k => by
        rw [beadleref16_Of.l0, if_pos (by omega), if_pos (by omega), rd_S34 hy, if_neg (fun e => h ((blist_eq _ _).2 e)), w64 (by omega) (by omega)]
        rfl
      rcases ih (i + 1) (by omega) with ⟨j, z, g1, g2, g3⟩ | ⟨g1, g2⟩
      · exact .inl ⟨j, z, g1, g2, Ev.step hs g3⟩
      · refine .inr ⟨?_, Ev.step hs g2⟩
        rw [drop_at hy]
        intro z hz
        rcases List.mem_cons.1 hz with rfl | hz
        · exact h
        · exact g1 z hz
theorem of_both (name : ByteArray) : (∃ (j : Nat) (y : S34), rowsL[j]? = some y ∧ y.f0 = name ∧ y.f2.length ≤ 100 ∧ y.f3.length ≤ 50 ∧ schema_Of.f 60 name = some (ofV y) ∧ Ev (fun k => beadleref16_Of.f k name) (j : Int)) ∨ (schema_Of.f 60 name = some noneV ∧ Ev (fun k => beadleref16_Of.f k name) (-1)) := by
  rcases of_l0 name rowsL.length 0 (by omega) with ⟨j, y, h1, h2, h3⟩ | ⟨h1, h2⟩
  · obtain ⟨g1, g2, g3⟩ := row_ok (List.mem_of_getElem? h1)
    refine .inl ⟨j, y, h1, h2, g2, g3, h2 ▸ g1, Ev.congr (fun k => ?_) h3⟩
    rw [beadleref16_Of.f, rows_f, Option.bind_some]
    rfl
  · refine .inr ⟨none_ok (by simpa using h1), Ev.congr (fun k => ?_) h2⟩
    rw [beadleref16_Of.f, rows_f, Option.bind_some]
    rfl
end Go.Proofs.YtojjpimnjlmepaaDoor.Tab
