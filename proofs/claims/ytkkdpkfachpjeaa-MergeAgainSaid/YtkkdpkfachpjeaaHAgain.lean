/- Written by a program of this session out of the translation: plain functions of the Go functions here and the contracts that tie them to the code; no condition beside those in each statement. -/
import Derived.Test.YtkkdpkfachpjeaaPSx0
import Derived.Test.YtkkdpkfachpjeaaPSx6
import Derived.Test.YtkkdpkfachpjeaaPSx7
import Derived.Test.YtkkdpkfachpjeaaHSort
import Derived.Test.YtkkdpkfachpjeaaHMerge
import Derived.Test.YtkkdpkfachpjeaaHLits
namespace Go.Proofs.Ytkkdpkfachpjeaa.PS
open Go.RowKit Go.Proofs.YtkkdpkfachpjeaaW.PrintWords Go.Proofs.YtkkdpkfachpjeaaW.PrintLast Go.Proofs.YtkkdpkfachpjeaaW.PrintMore
attribute [local go_sem] max2_int min2_int max_two min_two max_three min_three max_four min_four   -- for this text's walks alone
set_option linter.unusedVariables false
set_option linter.unusedSimpArgs false

attribute [local go_sem high] eqA27
/-! ### beadlelaw06_MergeAgain: function 7 -/
mutual
def beadlelaw06_MergeAgain.j1 : Nat → Int → List (S27) → Option (Bool)
  | 0, _, _ => none
  | k + 1, x1, x5 => (merge_Sort.f x5).bind fun t246 => (if (wrap64 ((t246.length : Int) + 1)) = 0 then (none) else ((merge_Sort.f t246).bind fun t249 => ((merge_Merge.f [t246, t246]).bind fun t252 => (if 0 ≤ (Int.tmod (wrap64 ((wrap64 ((Int.tmod x1 (wrap64 ((t246.length : Int) + 1))) + (t246.length : Int))) + 1)) (wrap64 ((t246.length : Int) + 1))) then (if (Int.tmod (wrap64 ((wrap64 ((Int.tmod x1 (wrap64 ((t246.length : Int) + 1))) + (t246.length : Int))) + 1)) (wrap64 ((t246.length : Int) + 1))) ≤ (t246.length : Int) then ((merge_Merge.f [t246.drop ((Int.tmod (wrap64 ((wrap64 ((Int.tmod x1 (wrap64 ((t246.length : Int) + 1))) + (t246.length : Int))) + 1)) (wrap64 ((t246.length : Int) + 1))) : Int).toNat, t246.take ((Int.tmod (wrap64 ((wrap64 ((Int.tmod x1 (wrap64 ((t246.length : Int) + 1))) + (t246.length : Int))) + 1)) (wrap64 ((t246.length : Int) + 1))) : Int).toNat, t246]).bind fun t263 => (if (t249.length : Int) = (t246.length : Int) then (if (t252.length : Int) = (t246.length : Int) then (beadlelaw06_MergeAgain.j2 k t246 t249 t252 t263 ((t263.length : Int) != (t246.length : Int))) else (beadlelaw06_MergeAgain.j2 k t246 t249 t252 t263 true)) else (beadlelaw06_MergeAgain.j2 k t246 t249 t252 t263 true))) else (none)) else (none)))))
def beadlelaw06_MergeAgain.j2 : Nat → List (S27) → List (S27) → List (S27) → List (S27) → Bool → Option (Bool)
  | 0, _, _, _, _, _ => none
  | k + 1, x7, x8, x9, x10, x91 => if x91 = true then (some false) else (beadlelaw06_MergeAgain.l1 k x7 x8 x9 x10 0)
def beadlelaw06_MergeAgain.l1 : Nat → List (S27) → List (S27) → List (S27) → List (S27) → Int → Option (Bool)
  | 0, _, _, _, _, _ => none
  | k + 1, x7, x8, x9, x10, x11 => if x11 < (x7.length : Int) then (if 0 ≤ x11 then (if x11 < (x8.length : Int) then (if (!(((rd_T27 x8 x11).f0) == ((rd_T27 x7 x11).f0)) || (!(((rd_T27 x8 x11).f1) == ((rd_T27 x7 x11).f1)) || (!((((rd_T27 x8 x11).f2).toList) == (((rd_T27 x7 x11).f2).toList))))) = true then (some false) else (if x11 < (x9.length : Int) then (if (!(((rd_T27 x9 x11).f0) == ((rd_T27 x7 x11).f0)) || (!(((rd_T27 x9 x11).f1) == ((rd_T27 x7 x11).f1)) || (!((((rd_T27 x9 x11).f2).toList) == (((rd_T27 x7 x11).f2).toList))))) = true then (some false) else (if x11 < (x10.length : Int) then (if (!(((rd_T27 x10 x11).f0) == ((rd_T27 x7 x11).f0)) || (!(((rd_T27 x10 x11).f1) == ((rd_T27 x7 x11).f1)) || (!((((rd_T27 x10 x11).f2).toList) == (((rd_T27 x7 x11).f2).toList))))) = true then (some false) else (if x11 > 0 then (if 0 ≤ (wrap64 (x11 - 1)) then (if (wrap64 (x11 - 1)) < (x7.length : Int) then ((merge_Less.f k ((rd_T27 x7 (wrap64 (x11 - 1))).f0) ((rd_T27 x7 (wrap64 (x11 - 1))).f1) ((rd_T27 x7 (wrap64 (x11 - 1))).f2) ((rd_T27 x7 x11).f0) ((rd_T27 x7 x11).f1) ((rd_T27 x7 x11).f2)).bind fun t274 => (if t274 = true then (beadlelaw06_MergeAgain.l1 k x7 x8 x9 x10 (wrap64 (x11 + 1))) else (some false))) else (none)) else (none)) else (beadlelaw06_MergeAgain.l1 k x7 x8 x9 x10 (wrap64 (x11 + 1))))) else (none))) else (none))) else (none)) else (none)) else (some true)
def beadlelaw06_MergeAgain.l0 : Nat → List (S23) → Int → List (S27) → Int → Option (Bool)
  | 0, _, _, _, _ => none
  | k + 1, x0, x1, x5, x6 => if x6 < (x0.length : Int) then (if x6 < 300 then (if 0 ≤ x6 then (if x5.length < 4398046511104 then (beadlelaw06_MergeAgain.l0 k x0 x1 (x5 ++ [(⟨(rd_T23 x0 x6).f0, (rd_T23 x0 x6).f1, (rd_T23 x0 x6).f2⟩ : S27)]) (wrap64 (x6 + 1))) else (none)) else (none)) else (beadlelaw06_MergeAgain.j1 k x1 x5)) else (beadlelaw06_MergeAgain.j1 k x1 x5)
end
def beadlelaw06_MergeAgain.f (k : Nat) (l0 : List (S23)) (a1 : Int) : Option (Bool) := (merge_Name.f 4).bind fun t239 => (if t239.toList = ([117, 110, 101, 120, 112, 101, 99, 116, 101, 100, 45, 110, 117, 108, 108, 45, 99, 104, 97, 114, 97, 99, 116, 101, 114] : List UInt8) then (beadlelaw06_MergeAgain.l0 k l0 a1 ([] : List (S27)) 0) else (some false))
theorem beadlelaw06_MergeAgain.mono_l : ∀ k, (∀ y0 y1, LeO (beadlelaw06_MergeAgain.j1 k y0 y1) (beadlelaw06_MergeAgain.j1 (k + 1) y0 y1)) ∧ (∀ y0 y1 y2 y3 y4, LeO (beadlelaw06_MergeAgain.j2 k y0 y1 y2 y3 y4) (beadlelaw06_MergeAgain.j2 (k + 1) y0 y1 y2 y3 y4)) ∧ (∀ y0 y1 y2 y3 y4, LeO (beadlelaw06_MergeAgain.l1 k y0 y1 y2 y3 y4) (beadlelaw06_MergeAgain.l1 (k + 1) y0 y1 y2 y3 y4)) ∧ (∀ y0 y1 y2 y3, LeO (beadlelaw06_MergeAgain.l0 k y0 y1 y2 y3) (beadlelaw06_MergeAgain.l0 (k + 1) y0 y1 y2 y3))
  | 0 => ⟨fun _ _ r h => by simp [beadlelaw06_MergeAgain.j1] at h, fun _ _ _ _ _ r h => by simp [beadlelaw06_MergeAgain.j2] at h, fun _ _ _ _ _ r h => by simp [beadlelaw06_MergeAgain.l1] at h, fun _ _ _ _ r h => by simp [beadlelaw06_MergeAgain.l0] at h⟩
  | k + 1 => by
    obtain ⟨ih0, ih1, ih2, ih3⟩ := beadlelaw06_MergeAgain.mono_l k
    refine ⟨?_, ?_, ?_, ?_⟩
    · intro y0 y1
      unfold beadlelaw06_MergeAgain.j1
      repeat' first
      | (with_reducible exact ih0 _ _)
      | (with_reducible exact ih1 _ _ _ _ _)
      | (with_reducible exact ih2 _ _ _ _ _)
      | (with_reducible exact ih3 _ _ _ _)
      | (with_reducible exact merge_Less.mono _ _ _ _ _ _ _)
      | (with_reducible exact LeO.refl _)
      | (with_reducible exact LeO.none _)
      | (with_reducible refine LeO.ite ?_ ?_)
      | (with_reducible refine LeO.bind ?_ (fun _ => ?_))
      | exact ih0 _ _
      | exact ih1 _ _ _ _ _
      | exact ih2 _ _ _ _ _
      | exact ih3 _ _ _ _
      | exact merge_Less.mono _ _ _ _ _ _ _
      | exact LeO.none _
      | refine LeO.ite ?_ ?_
      | refine LeO.bind ?_ (fun _ => ?_)
    · intro y0 y1 y2 y3 y4
      unfold beadlelaw06_MergeAgain.j2
      repeat' first
      | (with_reducible exact ih0 _ _)
      | (with_reducible exact ih1 _ _ _ _ _)
      | (with_reducible exact ih2 _ _ _ _ _)
      | (with_reducible exact ih3 _ _ _ _)
      | (with_reducible exact merge_Less.mono _ _ _ _ _ _ _)
      | (with_reducible exact LeO.refl _)
      | (with_reducible exact LeO.none _)
      | (with_reducible refine LeO.ite ?_ ?_)
      | (with_reducible refine LeO.bind ?_ (fun _ => ?_))
      | exact ih0 _ _
      | exact ih1 _ _ _ _ _
      | exact ih2 _ _ _ _ _
      | exact ih3 _ _ _ _
      | exact merge_Less.mono _ _ _ _ _ _ _
      | exact LeO.none _
      | refine LeO.ite ?_ ?_
      | refine LeO.bind ?_ (fun _ => ?_)
    · intro y0 y1 y2 y3 y4
      unfold beadlelaw06_MergeAgain.l1
      repeat' first
      | (with_reducible exact ih0 _ _)
      | (with_reducible exact ih1 _ _ _ _ _)
      | (with_reducible exact ih2 _ _ _ _ _)
      | (with_reducible exact ih3 _ _ _ _)
      | (with_reducible exact merge_Less.mono _ _ _ _ _ _ _)
      | (with_reducible exact LeO.refl _)
      | (with_reducible exact LeO.none _)
      | (with_reducible refine LeO.ite ?_ ?_)
      | (with_reducible refine LeO.bind ?_ (fun _ => ?_))
      | exact ih0 _ _
      | exact ih1 _ _ _ _ _
      | exact ih2 _ _ _ _ _
      | exact ih3 _ _ _ _
      | exact merge_Less.mono _ _ _ _ _ _ _
      | exact LeO.none _
      | refine LeO.ite ?_ ?_
      | refine LeO.bind ?_ (fun _ => ?_)
    · intro y0 y1 y2 y3
      unfold beadlelaw06_MergeAgain.l0
      repeat' first
      | (with_reducible exact ih0 _ _)
      | (with_reducible exact ih1 _ _ _ _ _)
      | (with_reducible exact ih2 _ _ _ _ _)
      | (with_reducible exact ih3 _ _ _ _)
      | (with_reducible exact merge_Less.mono _ _ _ _ _ _ _)
      | (with_reducible exact LeO.refl _)
      | (with_reducible exact LeO.none _)
      | (with_reducible refine LeO.ite ?_ ?_)
      | (with_reducible refine LeO.bind ?_ (fun _ => ?_))
      | exact ih0 _ _
      | exact ih1 _ _ _ _ _
      | exact ih2 _ _ _ _ _
      | exact ih3 _ _ _ _
      | exact merge_Less.mono _ _ _ _ _ _ _
      | exact LeO.none _
      | refine LeO.ite ?_ ?_
      | refine LeO.bind ?_ (fun _ => ?_)
theorem beadlelaw06_MergeAgain.mono : ∀ a0 a1 k, LeO (beadlelaw06_MergeAgain.f k a0 a1) (beadlelaw06_MergeAgain.f (k + 1) a0 a1) := by
  intro a0 a1 k
  obtain ⟨ih0, ih1, ih2, ih3⟩ := beadlelaw06_MergeAgain.mono_l k
  unfold beadlelaw06_MergeAgain.f
  repeat' first
      | (with_reducible exact ih0 _ _)
      | (with_reducible exact ih1 _ _ _ _ _)
      | (with_reducible exact ih2 _ _ _ _ _)
      | (with_reducible exact ih3 _ _ _ _)
      | (with_reducible exact merge_Less.mono _ _ _ _ _ _ _)
      | (with_reducible exact LeO.refl _)
      | (with_reducible exact LeO.none _)
      | (with_reducible refine LeO.ite ?_ ?_)
      | (with_reducible refine LeO.bind ?_ (fun _ => ?_))
      | exact ih0 _ _
      | exact ih1 _ _ _ _ _
      | exact ih2 _ _ _ _ _
      | exact ih3 _ _ _ _
      | exact merge_Less.mono _ _ _ _ _ _ _
      | exact LeO.none _
      | refine LeO.ite ?_ ?_
      | refine LeO.bind ?_ (fun _ => ?_)
def beadlelaw06_MergeAgain.T7 : Bool × List (List Nat × List Nat) := (true, [([], []), ([], []), ([], []), ([1, 2], [1, 2]), ([3], [3]), ([4], [4]), ([], []), ([], []), ([6, 7], [6, 7]), ([8], [8]), ([9], [9]), ([], []), ([], []), ([11, 12], [11, 12]), ([13], [13]), ([14], [14]), ([5, 10, 15], [5, 10, 15]), ([16], [16]), ([0, 17], [0, 17]), ([18, 18, 0, 1, 2, 3, 4, 5, 6, 7, 8, 9, 10, 11, 12, 13, 14, 15, 16, 17, 18], [0, 18])])
def beadlelaw06_MergeAgain.B7 : List Nat := [0, 0, 0, 6, 14, 30, 0, 0, 192, 448, 960, 0, 0, 6144, 14336, 30720, 65534, 131070, 262143, 524287]
theorem beadlelaw06_MergeAgain.tab7 : rtab .any (opsOf Try.f7 7) = beadlelaw06_MergeAgain.T7 := by kernel_rfl
theorem beadlelaw06_MergeAgain.bits7 : waitsOk beadlelaw06_MergeAgain.T7.2 beadlelaw06_MergeAgain.B7 = true := by kernel_rfl
def beadlelaw06_MergeAgain.T10 : Bool × List (List Nat × List Nat) := (true, [([], []), ([0], [0]), ([], []), ([], []), ([2, 3], [2, 3]), ([4, 1], [4]), ([], []), ([], []), ([6, 7], [6, 7]), ([], []), ([], []), ([9, 10], [9, 10]), ([], []), ([8, 11, 12], [8, 11, 12]), ([13, 5], [13]), ([1, 14, 0, 1], [1]), ([5, 15, 0, 1, 2, 3, 4, 5, 15], [5]), ([14, 16, 0, 1, 2, 3, 4, 5, 6, 7, 8, 9, 10, 11, 12, 13, 14, 15, 16], [14])])
def beadlelaw06_MergeAgain.B10 : List Nat := [0, 1, 0, 0, 12, 31, 0, 0, 192, 0, 0, 1536, 0, 8128, 16383, 32767, 65535, 131071]
theorem beadlelaw06_MergeAgain.tab10 : rtab .any (opsOf Try.f7 10) = beadlelaw06_MergeAgain.T10 := by kernel_rfl
theorem beadlelaw06_MergeAgain.bits10 : waitsOk beadlelaw06_MergeAgain.T10.2 beadlelaw06_MergeAgain.B10 = true := by kernel_rfl
def beadlelaw06_MergeAgain.T16 : Bool × List (List Nat × List Nat) := (true, [([], []), ([], []), ([0, 1], [0, 1]), ([2], [2]), ([], []), ([], []), ([4, 5], [4, 5]), ([6], [6]), ([3, 7], [3, 7]), ([8], [8]), ([9], [9]), ([9], [9]), ([10, 11, 9], [9, 10, 11]), ([12, 9], [9, 12]), ([9], [9]), ([9], [9]), ([14, 15, 9], [9, 14, 15]), ([16, 9], [9, 16]), ([13, 17, 9], [9, 13, 17]), ([9, 18], [9, 18]), ([19, 9], [19]), ([20], [20]), ([20], [20]), ([21, 22, 20], [20, 21, 22]), ([23, 20], [20, 23]), ([20], [20]), ([20], [20]), ([25, 26, 20], [20, 25, 26]), ([27, 20], [20, 27]), ([24, 28, 20], [20, 24, 28]), ([20, 29], [20, 29]), ([30, 20], [30]), ([31], [31]), ([32, 31], [31, 32]), ([33, 31, 31], [31, 33]), ([34], [34]), ([34], [34]), ([36, 34], [34, 36]), ([35, 37, 34], [34, 35, 37]), ([38, 34], [34, 38]), ([34], [34]), ([34], [34]), ([40, 41, 34], [34, 40, 41]), ([42, 34], [34, 42]), ([39, 43, 34, 34], [34, 39, 43]), ([44, 34], [34, 44]), ([34, 45, 31], [31, 34, 45]), ([31, 46], [31, 46])])
def beadlelaw06_MergeAgain.B16 : List Nat := [0, 0, 3, 7, 0, 0, 48, 112, 255, 511, 1023, 1023, 4095, 8191, 1023, 1023, 50175, 115711, 262143, 524287, 1048575, 2097151, 2097151, 8388607, 16777215, 2097151, 2097151, 102760447, 236978175, 536870911, 1073741823, 2147483647, 4294967295, 8589934591, 17179869183, 34359738367, 34359738367, 103079215103, 274877906943, 549755813887, 34359738367, 34359738367, 3332894621695, 7730941132799, 17592186044415, 35184372088831, 70368744177663, 140737488355327]
theorem beadlelaw06_MergeAgain.tab16 : rtab .any (opsOf Try.f7 16) = beadlelaw06_MergeAgain.T16 := by kernel_rfl
theorem beadlelaw06_MergeAgain.bits16 : waitsOk beadlelaw06_MergeAgain.T16.2 beadlelaw06_MergeAgain.B16 = true := by kernel_rfl
set_option maxHeartbeats 8000000 in
set_option maxRecDepth 100000 in
theorem beadlelaw06_MergeAgain.calls (k : Nat) (A0 : Option Addr) (c0 : Nat) (l0 : List (S23)) (a1 : Int) (w : World) (hr0 : Kd.C k23 w A0 l0.length l0) (hc0 : l0.length ≤ c0) (h : beadlelaw06_MergeAgain.f k l0 a1 = some true) :
  Calls Try.prog 7 #[.slice A0 l0.length c0, .int .i64 a1] w fun e w' => e = .returned (.bool true) ∧ Below w.heap.size w w' := by
 have hu27 := Try.underlying27
 have HR0 := Aside0.mk hr0
 have HC0 := Aside0.mk hc0
 clear hr0 hc0
 have HB := Aside0.mk (Below.refl w.heap.size w)
 have H : ((merge_Name.f 4).bind fun t239 => (if t239.toList = ([117, 110, 101, 120, 112, 101, 99, 116, 101, 100, 45, 110, 117, 108, 108, 45, 99, 104, 97, 114, 97, 99, 116, 101, 114] : List UInt8) then (beadlelaw06_MergeAgain.l0 k l0 a1 ([] : List (S27)) 0) else (some false))) = some true := h
 clear h
 replace H := Option.bind_eq_some_iff.mp H
 obtain ⟨t239, A30, H⟩ := H
 replace H : (if t239.toList = ([117, 110, 101, 120, 112, 101, 99, 116, 101, 100, 45, 110, 117, 108, 108, 45, 99, 104, 97, 114, 97, 99, 116, 101, 114] : List UInt8) then (beadlelaw06_MergeAgain.l0 k l0 a1 ([] : List (S27)) 0) else (some false)) = some true := H
 have A3 := Aside0.mk A30
 clear A30
 by_cases c4 : t239.toList = ([117, 110, 101, 120, 112, 101, 99, 116, 101, 100, 45, 110, 117, 108, 108, 45, 99, 104, 97, 114, 97, 99, 116, 101, 114] : List UInt8)
 ·
  rw [if_pos c4] at H
  have c4b0 : (t239.toList == ([117, 110, 101, 120, 112, 101, 99, 116, 101, 100, 45, 110, 117, 108, 108, 45, 99, 104, 97, 114, 97, 99, 116, 101, 114] : List UInt8)) = true := beq_iff_eq.mpr c4
  have c4b1 : (t239.toList != ([117, 110, 101, 120, 112, 101, 99, 116, 101, 100, 45, 110, 117, 108, 108, 45, 99, 104, 97, 114, 97, 99, 116, 101, 114] : List UInt8)) = false := bne_eq_false_iff_eq.mpr c4
  clear c4
  have HC5 := Aside0.mk H
  clear H
  go_enter Try.func7, Try.ntmps7
  go_upto_block 0 with (first | ((with_reducible refine gate_callee (f := 10) rfl ?_); refine goesL_ (some 12) rfl rfl Try.func10 (by kernel_rfl) rfl #[.int .i64 4] rfl (by (try simp only [List.map_toArray, List.map_cons, List.map_nil]); first | done | rfl | (simp only [List.length_drop, List.length_take]; rfl)) ?_; (with_reducible refine (merge_Name.calls 4 t239 _ A3.out).mono ?_); rintro e w6 ⟨rfl, hb⟩; refine ⟨_, rfl, ?_⟩; have n0_ := Aside0.mk (below_step (by repeat (first | (with_reducible first | exact HB.out | apply below_alloc | apply pw_below_drewN | apply below_drew1) | exact HB.out)) hb); clear HB; have HB := n0_; clear n0_; (try clear hb); (try clear hb2); (try clear hk); (try clear hi)))
  (try simp only [Act.put, List.setIfInBounds_toArray, List.set_cons_zero, List.set_cons_succ])
  go_cut [5] (fun v5 wc => ∃ (kq : Nat) (x5_4 : List (S27)), Aside0 (beadlelaw06_MergeAgain.j1 kq a1 x5_4 = some true) ∧ Aside0 (kq ≤ k) ∧ Aside0 (Kd.R k27 27 wc w.heap.size (fun _ => True) v5 x5_4) ∧ Aside0 (Below w.heap.size w wc))
  case first =>
   have H := HC5.out
   clear HC5
   have H' := Aside0.mk H
   clear H
   go_wp2
   go_loopg [5, 6] k (fun kq v5 v6 w' => ∃ (x5_1 : List (S27)) (x6_1 : Int), v6 = .int .i64 x6_1 ∧ Aside0 (beadlelaw06_MergeAgain.l0 kq l0 a1 x5_1 x6_1 = some true) ∧ Aside0 (kq ≤ k) ∧ Aside0 (Kd.R k27 27 w' w.heap.size (fun _ => True) v5 x5_1) ∧ Aside0 (Below w.heap.size w w'))
   case atStart => exact ⟨(([] : List (S27))), (0), (by first | rfl | (simp; done) | (simp [*]; done)), H', ⟨Nat.le_refl _⟩, ⟨by first | exact Kd.R_nil _ _ _ _ _ | exact Kd.N_nil _ _ _ _ _ | exact Kd.V_nil _ _ _ _ _ | exact Kd.Q_nil _ _ _ _ _ | exact Kd.S_nil _ _ _ _ _⟩, ⟨by repeat (first | (with_reducible first | exact HB.out | apply below_alloc | apply pw_below_drewN | apply below_drew1) | exact HB.out)⟩⟩
   case round =>
    clear H'
    try clear c1
    try clear p2
    try clear c4
    try clear c4b0
    try clear c4b1
    obtain ⟨x5_1, x6_1, rfl, HA, HK1, HO_5, HB⟩ := hrel
    cases gk with
    | zero => exact absurd HA.out (by simp [beadlelaw06_MergeAgain.l0])
    | succ k1 =>
     have H := HA.out
     clear HA
     simp only [beadlelaw06_MergeAgain.l0] at H
     by_cases c7 : x6_1 < (l0.length : Int)
     ·
      rw [if_pos c7] at H
      have c7b0 : decide (x6_1 < (l0.length : Int)) = true := decide_eq_true c7
      clear c7
      (first | rw [c7b0] | (simp only [i64_w, i32_w]; rw [c7b0]) | skip)
      by_cases c8 : x6_1 < 300
      ·
       rw [if_pos c8] at H
       have c8b0 : decide (x6_1 < 300) = true := decide_eq_true c8
       clear c8
       by_cases c9 : 0 ≤ x6_1
       ·
        rw [if_pos c9] at H
        have c9b0 : decide (0 ≤ x6_1) = true := decide_eq_true c9
        clear c9
        by_cases c10 : x5_1.length < 4398046511104
        ·
         rw [if_pos c10] at H
         have LMc10 := Aside0.mk c10
         clear c10
         obtain ⟨y243, hy243⟩ : ∃ y_ : List (S27), y_ = (x5_1 ++ [(⟨(rd_T23 l0 x6_1).f0, (rd_T23 l0 x6_1).f1, (rd_T23 l0 x6_1).f2⟩ : S27)]) := ⟨_, rfl⟩
         replace H : (beadlelaw06_MergeAgain.l0 k1 l0 a1 y243 (wrap64 (x6_1 + 1))) = some true := by first | (rw [hy243]; with_reducible exact H) | (have H2_ := (Option.bind_some _ _).symm.trans H; rw [hy243]; with_reducible exact H2_) | (have H2_ := (Option.bind_some _ _).symm.trans H; with_reducible exact H2_) | with_reducible exact H | (rw [hy243]; exact H) | exact H
         have Ny243 := Aside0.mk hy243
         clear hy243
         have H' := Aside0.mk H
         clear H
         try go_wp2
         have n0_ := Aside0.mk (Kd.R_drew HO_5.out)
         have n1_ := Aside0.mk (below_drew1 HB.out)
         clear HO_5
         clear HB
         have HO_5 := n0_
         have HB := n1_
         clear n0_ n1_
         have p240 : 0 ≤ (x6_1 : Int) := of_decide_eq_true (by first | (with_reducible assumption) | assumption)
         have q240 : x6_1 < (l0.length : Int) := of_decide_eq_true (by first | (with_reducible assumption) | assumption)
         obtain ⟨ad240, e240, hx240_0, hx240_1, hx240_2⟩ := at_T23 HR0.out x6_1 p240 q240
         have hw240_2 := hx240_2
         have hw240_1 := hx240_1
         have hw240_0 := hx240_0
         cases e240
         replace hx240_0 := (HB.out.cell (World.block_lt_of_cell? w _ hx240_0)).trans hx240_0
         replace hx240_1 := (HB.out.cell (World.block_lt_of_cell? w _ hx240_1)).trans hx240_1
         replace hx240_2 := (HB.out.cell (World.block_lt_of_cell? w _ hx240_2)).trans hx240_2
         replace p240 := eq_true p240
         replace q240 := eq_true q240
         have p241 : 0 ≤ (x6_1 : Int) := of_decide_eq_true (by first | (with_reducible assumption) | assumption)
         have q241 : x6_1 < (l0.length : Int) := of_decide_eq_true (by first | (with_reducible assumption) | assumption)
         obtain ⟨ad241, e241, hx241_0, hx241_1, hx241_2⟩ := at_T23 HR0.out x6_1 p241 q241
         have hw241_2 := hx241_2
         have hw241_1 := hx241_1
         have hw241_0 := hx241_0
         obtain rfl : ad240 = ad241 := (by injection e241)
         replace hx241_0 := (HB.out.cell (World.block_lt_of_cell? w _ hx241_0)).trans hx241_0
         replace hx241_1 := (HB.out.cell (World.block_lt_of_cell? w _ hx241_1)).trans hx241_1
         replace hx241_2 := (HB.out.cell (World.block_lt_of_cell? w _ hx241_2)).trans hx241_2
         replace p241 := eq_true p241
         replace q241 := eq_true q241
         have p242 : 0 ≤ (x6_1 : Int) := of_decide_eq_true (by first | (with_reducible assumption) | assumption)
         have q242 : x6_1 < (l0.length : Int) := of_decide_eq_true (by first | (with_reducible assumption) | assumption)
         obtain ⟨ad242, e242, hx242_0, hx242_1, hx242_2⟩ := at_T23 HR0.out x6_1 p242 q242
         have hw242_2 := hx242_2
         have hw242_1 := hx242_1
         have hw242_0 := hx242_0
         obtain rfl : ad240 = ad242 := (by injection e242)
         replace hx242_0 := (HB.out.cell (World.block_lt_of_cell? w _ hx242_0)).trans hx242_0
         replace hx242_1 := (HB.out.cell (World.block_lt_of_cell? w _ hx242_1)).trans hx242_1
         replace hx242_2 := (HB.out.cell (World.block_lt_of_cell? w _ hx242_2)).trans hx242_2
         replace p242 := eq_true p242
         replace q242 := eq_true q242
         refine start_ (n := 20) (S := fun w' => w'.cell? (ad240.add ((x6_1).toNat * 3)) = some (.int .i64 ((rd_T23 l0 x6_1).f0)) ∧ w'.cell? ⟨(ad240.add ((x6_1).toNat * 3)).block, (ad240.add ((x6_1).toNat * 3)).off + 1, none⟩ = some (.int .i64 ((rd_T23 l0 x6_1).f1)) ∧ w'.cell? ⟨(ad240.add ((x6_1).toNat * 3)).block, (ad240.add ((x6_1).toNat * 3)).off + 2, none⟩ = some (.string ((rd_T23 l0 x6_1).f2)) ∧ w'.cell? (ad240.add ((x6_1).toNat * 3)) = some (.int .i64 ((rd_T23 l0 x6_1).f0)) ∧ w'.cell? ⟨(ad240.add ((x6_1).toNat * 3)).block, (ad240.add ((x6_1).toNat * 3)).off + 1, none⟩ = some (.int .i64 ((rd_T23 l0 x6_1).f1)) ∧ w'.cell? ⟨(ad240.add ((x6_1).toNat * 3)).block, (ad240.add ((x6_1).toNat * 3)).off + 2, none⟩ = some (.string ((rd_T23 l0 x6_1).f2)) ∧ w'.cell? (ad240.add ((x6_1).toNat * 3)) = some (.int .i64 ((rd_T23 l0 x6_1).f0)) ∧ w'.cell? ⟨(ad240.add ((x6_1).toNat * 3)).block, (ad240.add ((x6_1).toNat * 3)).off + 1, none⟩ = some (.int .i64 ((rd_T23 l0 x6_1).f1)) ∧ w'.cell? ⟨(ad240.add ((x6_1).toNat * 3)).block, (ad240.add ((x6_1).toNat * 3)).off + 2, none⟩ = some (.string ((rd_T23 l0 x6_1).f2))) (ds := []) #[false, false, false, false, false, false, false, false, false, false, false, false, false, false, false, false, false, false, false, false] (by kernel_rfl) rfl rfl ⟨((HB.out.cell (World.block_lt_of_cell? w _ hw240_0)).trans hw240_0), ((HB.out.cell (World.block_lt_of_cell? w _ hw240_1)).trans hw240_1), ((HB.out.cell (World.block_lt_of_cell? w _ hw240_2)).trans hw240_2), ((HB.out.cell (World.block_lt_of_cell? w _ hw241_0)).trans hw241_0), ((HB.out.cell (World.block_lt_of_cell? w _ hw241_1)).trans hw241_1), ((HB.out.cell (World.block_lt_of_cell? w _ hw241_2)).trans hw241_2), ((HB.out.cell (World.block_lt_of_cell? w _ hw242_0)).trans hw242_0), ((HB.out.cell (World.block_lt_of_cell? w _ hw242_1)).trans hw242_1), ((HB.out.cell (World.block_lt_of_cell? w _ hw242_2)).trans hw242_2)⟩ (fun hHeld => ?_); refine with_tabW beadlelaw06_MergeAgain.tab7 beadlelaw06_MergeAgain.bits7 (fun HT_ HW_ => ?_)
         generalize wr.drew = w11 at HO_5 HB hx240_0 hx240_1 hx240_2 hx241_0 hx241_1 hx241_2 hx242_0 hx242_1 hx242_2 hHeld ⊢
         refine pure_ (i := 0) (N := some 24) (v := ?_) (a' := ?_) #[true, false, false, false, false, false, false, false, false, false, false, false, false, false, false, false, false, false, false, false] rfl rfl (any_of HT_.out (by kernel_rfl)) (fun _ _ _ h => h) (Or.inl ⟨by rfl, ?_⟩) ?_ ?_
         rotate_left
         ·
          intro w'
          go_simp
          with_reducible rfl
         rotate_left
         ·
          simp only [Act.put, List.setIfInBounds_toArray, List.set_cons_zero, List.set_cons_succ, i64_w, i32_w]
          rfl
         refine pure_ (i := 1) (N := some 25) (v := ?_) (a' := ?_) #[true, true, false, false, false, false, false, false, false, false, false, false, false, false, false, false, false, false, false, false] rfl rfl (any_of HT_.out (by kernel_rfl)) (fun _ _ _ h => h) (Or.inl ⟨by rfl, ?_⟩) ?_ ?_
         rotate_left
         ·
          intro w'
          go_simp
          with_reducible rfl
         rotate_left
         ·
          simp only [Act.put, List.setIfInBounds_toArray, List.set_cons_zero, List.set_cons_succ, i64_w, i32_w]
          rfl
         refine pure_ (i := 2) (N := some 26) (v := ?_) (a' := ?_) #[true, true, true, false, false, false, false, false, false, false, false, false, false, false, false, false, false, false, false, false] rfl rfl (any_of HT_.out (by kernel_rfl)) (fun _ _ _ h => h) (Or.inl ⟨by rfl, ?_⟩) ?_ ?_
         rotate_left
         ·
          intro w'
          go_simp
          with_reducible rfl
         rotate_left
         ·
          simp only [Act.put, List.setIfInBounds_toArray, List.set_cons_zero, List.set_cons_succ, i64_w, i32_w]
          rfl
         refine pure_ (i := 3) (N := some 27) (v := ?_) (a' := ?_) #[true, true, true, true, false, false, false, false, false, false, false, false, false, false, false, false, false, false, false, false] rfl rfl (any_of HT_.out (by kernel_rfl)) (fun _ _ _ h => h) (Or.inl ⟨by rfl, ?_⟩) ?_ ?_
         rotate_left
         ·
          intro w'
          go_simp
          with_reducible rfl
         rotate_left
         ·
          simp only [Act.put, List.setIfInBounds_toArray, List.set_cons_zero, List.set_cons_succ, i64_w, i32_w]
          rfl
         refine pure_ (i := 4) (N := some 28) (v := ?_) (a' := ?_) #[true, true, true, true, true, false, false, false, false, false, false, false, false, false, false, false, false, false, false, false] rfl rfl (any_of HT_.out (by kernel_rfl)) (fun _ _ _ h => h) (Or.inl ⟨by rfl, ?_⟩) ?_ ?_
         rotate_left
         ·
          intro w'
          go_simp
          with_reducible rfl
         rotate_left
         ·
          simp only [Act.put, List.setIfInBounds_toArray, List.set_cons_zero, List.set_cons_succ, i64_w, i32_w]
          rfl
         refine pure_ (i := 6) (N := some 30) (v := ?_) (a' := ?_) #[true, true, true, true, true, false, true, false, false, false, false, false, false, false, false, false, false, false, false, false] rfl rfl (any_of HT_.out (by kernel_rfl)) (fun _ _ _ h => h) (Or.inl ⟨by rfl, ?_⟩) ?_ ?_
         rotate_left
         ·
          intro w'
          go_simp
          with_reducible rfl
         rotate_left
         ·
          simp only [Act.put, List.setIfInBounds_toArray, List.set_cons_zero, List.set_cons_succ, i64_w, i32_w]
          rfl
         refine pure_ (i := 7) (N := some 31) (v := ?_) (a' := ?_) #[true, true, true, true, true, false, true, true, false, false, false, false, false, false, false, false, false, false, false, false] rfl rfl (any_of HT_.out (by kernel_rfl)) (fun _ _ _ h => h) (Or.inl ⟨by rfl, ?_⟩) ?_ ?_
         rotate_left
         ·
          intro w'
          go_simp
          with_reducible rfl
         rotate_left
         ·
          simp only [Act.put, List.setIfInBounds_toArray, List.set_cons_zero, List.set_cons_succ, i64_w, i32_w]
          rfl
         refine pure_ (i := 8) (N := some 32) (v := ?_) (a' := ?_) #[true, true, true, true, true, false, true, true, true, false, false, false, false, false, false, false, false, false, false, false] rfl rfl (any_of HT_.out (by kernel_rfl)) (fun _ _ _ h => h) (Or.inl ⟨by rfl, ?_⟩) ?_ ?_
         rotate_left
         ·
          intro w'
          go_simp
          with_reducible rfl
         rotate_left
         ·
          simp only [Act.put, List.setIfInBounds_toArray, List.set_cons_zero, List.set_cons_succ, i64_w, i32_w]
          rfl
         refine pure_ (i := 9) (N := some 33) (v := ?_) (a' := ?_) #[true, true, true, true, true, false, true, true, true, true, false, false, false, false, false, false, false, false, false, false] rfl rfl (any_of HT_.out (by kernel_rfl)) (fun _ _ _ h => h) (Or.inl ⟨by rfl, ?_⟩) ?_ ?_
         rotate_left
         ·
          intro w'
          go_simp
          with_reducible rfl
         rotate_left
         ·
          simp only [Act.put, List.setIfInBounds_toArray, List.set_cons_zero, List.set_cons_succ, i64_w, i32_w]
          rfl
         refine pure_ (i := 11) (N := some 35) (v := ?_) (a' := ?_) #[true, true, true, true, true, false, true, true, true, true, false, true, false, false, false, false, false, false, false, false] rfl rfl (any_of HT_.out (by kernel_rfl)) (fun _ _ _ h => h) (Or.inl ⟨by rfl, ?_⟩) ?_ ?_
         rotate_left
         ·
          intro w'
          go_simp
          with_reducible rfl
         rotate_left
         ·
          simp only [Act.put, List.setIfInBounds_toArray, List.set_cons_zero, List.set_cons_succ, i64_w, i32_w]
          rfl
         refine pure_ (i := 12) (N := some 36) (v := ?_) (a' := ?_) #[true, true, true, true, true, false, true, true, true, true, false, true, true, false, false, false, false, false, false, false] rfl rfl (any_of HT_.out (by kernel_rfl)) (fun _ _ _ h => h) (Or.inl ⟨by rfl, ?_⟩) ?_ ?_
         rotate_left
         ·
          intro w'
          go_simp
          with_reducible rfl
         rotate_left
         ·
          simp only [Act.put, List.setIfInBounds_toArray, List.set_cons_zero, List.set_cons_succ, i64_w, i32_w]
          rfl
         refine pure_ (i := 13) (N := some 37) (v := ?_) (a' := ?_) #[true, true, true, true, true, false, true, true, true, true, false, true, true, true, false, false, false, false, false, false] rfl rfl (any_of HT_.out (by kernel_rfl)) (fun _ _ _ h => h) (Or.inl ⟨by rfl, ?_⟩) ?_ ?_
         rotate_left
         ·
          intro w'
          go_simp
          with_reducible rfl
         rotate_left
         ·
          simp only [Act.put, List.setIfInBounds_toArray, List.set_cons_zero, List.set_cons_succ, i64_w, i32_w]
          rfl
         refine pure_ (i := 14) (N := some 38) (v := ?_) (a' := ?_) #[true, true, true, true, true, false, true, true, true, true, false, true, true, true, true, false, false, false, false, false] rfl rfl (any_of HT_.out (by kernel_rfl)) (fun _ _ _ h => h) (Or.inl ⟨by rfl, ?_⟩) ?_ ?_
         rotate_left
         ·
          intro w'
          go_simp
          with_reducible rfl
         rotate_left
         ·
          simp only [Act.put, List.setIfInBounds_toArray, List.set_cons_zero, List.set_cons_succ, i64_w, i32_w]
          rfl
         refine take_ (i := 5) (N := some 29) (v := ?_) (a' := ?_) #[true, true, true, true, true, true, true, true, true, true, false, true, true, true, true, false, false, false, false, false] rfl rfl (take_ofW HT_.out HW_.out (by kernel_rfl)) (fun _ _ _ h => h) (Or.inl ⟨by rfl, ?_⟩) hHeld ?_ ?_
         rotate_left
         ·
          rintro w' ⟨s0, s1, s2, s3, s4, s5, s6, s7, s8⟩
          go_simp
          with_reducible rfl
         rotate_left
         ·
          simp only [Act.put, List.setIfInBounds_toArray, List.set_cons_zero, List.set_cons_succ, i64_w, i32_w]
          rfl
         refine take_ (i := 10) (N := some 34) (v := ?_) (a' := ?_) #[true, true, true, true, true, true, true, true, true, true, true, true, true, true, true, false, false, false, false, false] rfl rfl (take_ofW HT_.out HW_.out (by kernel_rfl)) (fun _ _ _ h => h) (Or.inl ⟨by rfl, ?_⟩) hHeld ?_ ?_
         rotate_left
         ·
          rintro w' ⟨s0, s1, s2, s3, s4, s5, s6, s7, s8⟩
          go_simp
          with_reducible rfl
         rotate_left
         ·
          simp only [Act.put, List.setIfInBounds_toArray, List.set_cons_zero, List.set_cons_succ, i64_w, i32_w]
          rfl
         refine take_ (i := 15) (N := some 39) (v := ?_) (a' := ?_) #[true, true, true, true, true, true, true, true, true, true, true, true, true, true, true, true, false, false, false, false] rfl rfl (take_ofW HT_.out HW_.out (by kernel_rfl)) (fun _ _ _ h => h) (Or.inl ⟨by rfl, ?_⟩) hHeld ?_ ?_
         rotate_left
         ·
          rintro w' ⟨s0, s1, s2, s3, s4, s5, s6, s7, s8⟩
          go_simp
          with_reducible rfl
         rotate_left
         ·
          simp only [Act.put, List.setIfInBounds_toArray, List.set_cons_zero, List.set_cons_succ, i64_w, i32_w]
          rfl
         refine pure_ (i := 16) (N := some 40) (v := ?_) (a' := ?_) #[true, true, true, true, true, true, true, true, true, true, true, true, true, true, true, true, true, false, false, false] rfl rfl (any_of HT_.out (by kernel_rfl)) (fun _ _ _ h => h) (Or.inl ⟨by rfl, ?_⟩) ?_ ?_
         rotate_left
         ·
          intro w'
          go_simp
          with_reducible rfl
         rotate_left
         ·
          simp only [Act.put, List.setIfInBounds_toArray, List.set_cons_zero, List.set_cons_succ, i64_w, i32_w]
          rfl
         refine one_ (i := 17) (N := some 41) #[true, true, true, true, true, true, true, true, true, true, true, true, true, true, true, true, true, true, false, false] rfl rfl (one_of HT_.out (by kernel_rfl)) (by decide) (fun K hK => ?_)
         refine value_ (w1 := ?_) (v := ?_) (by rfl) rfl ?_ ?_
         rotate_left 2
         ·
          go_simp
          constructor
          ·
           rfl
          ·
           rfl
         refine hK.out _ _ ⟨(World.cell?_alloc_lt _ _ _ (World.block_lt_of_cell? _ _ (((HB.out.cell (World.block_lt_of_cell? w _ hw240_0)).trans hw240_0)))).trans (((HB.out.cell (World.block_lt_of_cell? w _ hw240_0)).trans hw240_0)), (World.cell?_alloc_lt _ _ _ (World.block_lt_of_cell? _ _ (((HB.out.cell (World.block_lt_of_cell? w _ hw240_1)).trans hw240_1)))).trans (((HB.out.cell (World.block_lt_of_cell? w _ hw240_1)).trans hw240_1)), (World.cell?_alloc_lt _ _ _ (World.block_lt_of_cell? _ _ (((HB.out.cell (World.block_lt_of_cell? w _ hw240_2)).trans hw240_2)))).trans (((HB.out.cell (World.block_lt_of_cell? w _ hw240_2)).trans hw240_2)), (World.cell?_alloc_lt _ _ _ (World.block_lt_of_cell? _ _ (((HB.out.cell (World.block_lt_of_cell? w _ hw241_0)).trans hw241_0)))).trans (((HB.out.cell (World.block_lt_of_cell? w _ hw241_0)).trans hw241_0)), (World.cell?_alloc_lt _ _ _ (World.block_lt_of_cell? _ _ (((HB.out.cell (World.block_lt_of_cell? w _ hw241_1)).trans hw241_1)))).trans (((HB.out.cell (World.block_lt_of_cell? w _ hw241_1)).trans hw241_1)), (World.cell?_alloc_lt _ _ _ (World.block_lt_of_cell? _ _ (((HB.out.cell (World.block_lt_of_cell? w _ hw241_2)).trans hw241_2)))).trans (((HB.out.cell (World.block_lt_of_cell? w _ hw241_2)).trans hw241_2)), (World.cell?_alloc_lt _ _ _ (World.block_lt_of_cell? _ _ (((HB.out.cell (World.block_lt_of_cell? w _ hw242_0)).trans hw242_0)))).trans (((HB.out.cell (World.block_lt_of_cell? w _ hw242_0)).trans hw242_0)), (World.cell?_alloc_lt _ _ _ (World.block_lt_of_cell? _ _ (((HB.out.cell (World.block_lt_of_cell? w _ hw242_1)).trans hw242_1)))).trans (((HB.out.cell (World.block_lt_of_cell? w _ hw242_1)).trans hw242_1)), (World.cell?_alloc_lt _ _ _ (World.block_lt_of_cell? _ _ (((HB.out.cell (World.block_lt_of_cell? w _ hw242_2)).trans hw242_2)))).trans (((HB.out.cell (World.block_lt_of_cell? w _ hw242_2)).trans hw242_2))⟩ (fun hHeld => ?_)
         clear hK K
         refine norm_ (a' := ?_) ?_ ?_
         rotate_left
         ·
          show Act.put _ (some 41) _ = _
          simp only [Act.put, List.setIfInBounds_toArray, List.set_cons_zero, List.set_cons_succ, i64_w, i32_w]
          rfl
         refine one_ (i := 18) (N := some 42) #[true, true, true, true, true, true, true, true, true, true, true, true, true, true, true, true, true, true, true, false] rfl rfl (one_of HT_.out (by kernel_rfl)) (by decide) (fun K hK => ?_)
         refine Kd.R_append_step k27 (w0 := w) w.heap.size (by rfl) (.tmp 24) (.tmp 41) 38 27 (.agg #[(.int .i64 0), (.int .i64 0), (.string ⟨#[]⟩)]) 32 rfl Try.underlying38 info27 rfl (by decide) (by omega) u5 x5_1 (⟨(rd_T23 l0 x6_1).f0, (rd_T23 l0 x6_1).f1, (rd_T23 l0 x6_1).f2⟩ : S27) [.int .i64 ((rd_T23 l0 x6_1).f0), .int .i64 ((rd_T23 l0 x6_1).f1), .string ((rd_T23 l0 x6_1).f2)] (fun _ => True) (fun _ => False) rfl rfl ?aP (fun _ hk => hk.elim) ?aF ?aO ?aB ?aS ?aL ?_
         (case aP => exact k27_mkM _ _ _ (⟨(rd_T23 l0 x6_1).f0, (rd_T23 l0 x6_1).f1, (rd_T23 l0 x6_1).f2⟩ : S27))
         (case aB => exact (by repeat (first | (with_reducible first | exact HB.out | apply below_alloc | apply pw_below_drewN | apply below_drew1) | exact HB.out)))
         (case aF => exact (fun _ _ => trivial))
         (case aO => exact (by (with_reducible repeat (first | apply Kd.R_alloc | apply Kd.R_drewN | apply Kd.R_drew)); exact HO_5.out))
         (case aS => exact (below_size (by repeat (first | (with_reducible first | exact HB.out | apply below_alloc | apply pw_below_drewN | apply below_drew1) | exact HB.out))))
         (case aL => have := LMc10.out; omega)
         intro v244 w12 ho hb hg hat
         rw [← Ny243.out] at ho
         have n0_ := Aside0.mk (hb)
         have n1_ := Aside0.mk (ho)
         clear HB
         clear HO_5
         have HB := n0_
         have HO245 := n1_
         clear n0_ n1_
         clear ho hb hg hat
         refine hK.out _ _ ⟨((HB.out.cell (World.block_lt_of_cell? w _ hw240_0)).trans hw240_0), ((HB.out.cell (World.block_lt_of_cell? w _ hw240_1)).trans hw240_1), ((HB.out.cell (World.block_lt_of_cell? w _ hw240_2)).trans hw240_2), ((HB.out.cell (World.block_lt_of_cell? w _ hw241_0)).trans hw241_0), ((HB.out.cell (World.block_lt_of_cell? w _ hw241_1)).trans hw241_1), ((HB.out.cell (World.block_lt_of_cell? w _ hw241_2)).trans hw241_2), ((HB.out.cell (World.block_lt_of_cell? w _ hw242_0)).trans hw242_0), ((HB.out.cell (World.block_lt_of_cell? w _ hw242_1)).trans hw242_1), ((HB.out.cell (World.block_lt_of_cell? w _ hw242_2)).trans hw242_2)⟩ (fun hHeld => ?_)
         clear hK K
         refine norm_ (a' := ?_) ?_ ?_
         rotate_left
         ·
          show Act.put _ (some 42) _ = _
          simp only [Act.put, List.setIfInBounds_toArray, List.set_cons_zero, List.set_cons_succ, i64_w, i32_w]
          rfl
         refine pure_ (i := 19) (N := some 5) (v := ?_) (a' := ?_) #[true, true, true, true, true, true, true, true, true, true, true, true, true, true, true, true, true, true, true, true] rfl rfl (any_of HT_.out (by kernel_rfl)) (fun _ _ _ h => h) (Or.inl ⟨by rfl, ?_⟩) ?_ ?_
         rotate_left
         ·
          intro w'
          go_simp
          with_reducible rfl
         rotate_left
         ·
          simp only [Act.put, List.setIfInBounds_toArray, List.set_cons_zero, List.set_cons_succ, i64_w, i32_w]
          rfl
         refine done_ (done_of HT_.out (by kernel_rfl)) ?_
         try go_wp2
         go_roundg k1
         case measure => have := HK1.out; omega
         case rel => exact ⟨(y243), (wrap64 (x6_1 + 1)), (by first | rfl | (simp; done) | (simp [*]; done)), H', ⟨by have := HK1.out; omega⟩, ⟨by (with_reducible repeat (first | apply Kd.R_alloc | apply Kd.R_drewN | apply Kd.R_drew)); exact HO245.out⟩, ⟨by repeat (first | (with_reducible first | exact HB.out | apply below_alloc | apply pw_below_drewN | apply below_drew1) | exact HB.out)⟩⟩
        ·
         rw [if_neg c10] at H
         exact absurd H (by simp)
       ·
        rw [if_neg c9] at H
        exact absurd H (by simp)
      ·
       rw [if_neg c8] at H
       have c8b0 : decide (x6_1 < 300) = false := decide_eq_false c8
       clear c8
       have H' := Aside0.mk H
       clear H
       go_wp2
       go_meet
       case rel => exact ⟨_, (x5_1), H', ⟨by have := HK1.out; first | omega | exact Nat.le_refl _⟩, ⟨by (with_reducible repeat (first | apply Kd.R_alloc | apply Kd.R_drewN | apply Kd.R_drew)); exact HO_5.out⟩, ⟨by repeat (first | (with_reducible first | exact HB.out | apply below_alloc | apply pw_below_drewN | apply below_drew1) | exact HB.out)⟩⟩
     ·
      rw [if_neg c7] at H
      have c7b0 : decide (x6_1 < (l0.length : Int)) = false := decide_eq_false c7
      clear c7
      (first | rw [c7b0] | (simp only [i64_w, i32_w]; rw [c7b0]) | skip)
      have H' := Aside0.mk H
      clear H
      go_wp2
      go_meet
      case rel => exact ⟨_, (x5_1), H', ⟨by have := HK1.out; first | omega | exact Nat.le_refl _⟩, ⟨by (with_reducible repeat (first | apply Kd.R_alloc | apply Kd.R_drewN | apply Kd.R_drew)); exact HO_5.out⟩, ⟨by repeat (first | (with_reducible first | exact HB.out | apply below_alloc | apply pw_below_drewN | apply below_drew1) | exact HB.out)⟩⟩
  case rest =>
   clear HC5
   try clear c1
   try clear p2
   try clear q2
   try clear hx2
   try clear c4
   try clear c4b0
   try clear c4b1
   try clear p6
   try clear c7
   try clear c7b0
   try clear c8
   try clear c8b0
   try clear c9
   try clear c9b0
   try clear c10
   try clear hx240_0
   try clear hx240_1
   try clear hx240_2
   try clear hx241_0
   try clear hx241_1
   try clear hx241_2
   try clear hx242_0
   try clear hx242_1
   try clear hx242_2
   try clear p2
   try clear p240
   try clear p241
   try clear p242
   try clear q240
   try clear q241
   try clear q242
   obtain ⟨kq, x5_4, HA, HJ4, HO_5, HB⟩ := hcut
   cases kq with
   | zero => exact absurd HA.out (by simp [beadlelaw06_MergeAgain.j1])
   | succ kj4 =>
    have H := HA.out
    clear HA
    simp only [beadlelaw06_MergeAgain.j1] at H
    replace H := Option.bind_eq_some_iff.mp H
    obtain ⟨t246, A130, H⟩ := H
    replace H : (if (wrap64 ((t246.length : Int) + 1)) = 0 then (none) else ((merge_Sort.f t246).bind fun t249 => ((merge_Merge.f [t246, t246]).bind fun t252 => (if 0 ≤ (Int.tmod (wrap64 ((wrap64 ((Int.tmod a1 (wrap64 ((t246.length : Int) + 1))) + (t246.length : Int))) + 1)) (wrap64 ((t246.length : Int) + 1))) then (if (Int.tmod (wrap64 ((wrap64 ((Int.tmod a1 (wrap64 ((t246.length : Int) + 1))) + (t246.length : Int))) + 1)) (wrap64 ((t246.length : Int) + 1))) ≤ (t246.length : Int) then ((merge_Merge.f [t246.drop ((Int.tmod (wrap64 ((wrap64 ((Int.tmod a1 (wrap64 ((t246.length : Int) + 1))) + (t246.length : Int))) + 1)) (wrap64 ((t246.length : Int) + 1))) : Int).toNat, t246.take ((Int.tmod (wrap64 ((wrap64 ((Int.tmod a1 (wrap64 ((t246.length : Int) + 1))) + (t246.length : Int))) + 1)) (wrap64 ((t246.length : Int) + 1))) : Int).toNat, t246]).bind fun t263 => (if (t249.length : Int) = (t246.length : Int) then (if (t252.length : Int) = (t246.length : Int) then (beadlelaw06_MergeAgain.j2 kj4 t246 t249 t252 t263 ((t263.length : Int) != (t246.length : Int))) else (beadlelaw06_MergeAgain.j2 kj4 t246 t249 t252 t263 true)) else (beadlelaw06_MergeAgain.j2 kj4 t246 t249 t252 t263 true))) else (none)) else (none))))) = some true := H
    have A13 := Aside0.mk A130
    clear A130
    by_cases c14 : (wrap64 ((t246.length : Int) + 1)) = 0
    ·
     rw [if_pos c14] at H
     exact absurd H (by simp)
    ·
     rw [if_neg c14] at H
     have c14b0 : ((wrap64 ((t246.length : Int) + 1)) == 0) = false := beq_eq_false_iff_ne.mpr c14
     have c14b1 : ((wrap64 ((t246.length : Int) + 1)) != 0) = true := bne_iff_ne.mpr c14
     replace H := Option.bind_eq_some_iff.mp H
     obtain ⟨t249, A150, H⟩ := H
     replace H : ((merge_Merge.f [t246, t246]).bind fun t252 => (if 0 ≤ (Int.tmod (wrap64 ((wrap64 ((Int.tmod a1 (wrap64 ((t246.length : Int) + 1))) + (t246.length : Int))) + 1)) (wrap64 ((t246.length : Int) + 1))) then (if (Int.tmod (wrap64 ((wrap64 ((Int.tmod a1 (wrap64 ((t246.length : Int) + 1))) + (t246.length : Int))) + 1)) (wrap64 ((t246.length : Int) + 1))) ≤ (t246.length : Int) then ((merge_Merge.f [t246.drop ((Int.tmod (wrap64 ((wrap64 ((Int.tmod a1 (wrap64 ((t246.length : Int) + 1))) + (t246.length : Int))) + 1)) (wrap64 ((t246.length : Int) + 1))) : Int).toNat, t246.take ((Int.tmod (wrap64 ((wrap64 ((Int.tmod a1 (wrap64 ((t246.length : Int) + 1))) + (t246.length : Int))) + 1)) (wrap64 ((t246.length : Int) + 1))) : Int).toNat, t246]).bind fun t263 => (if (t249.length : Int) = (t246.length : Int) then (if (t252.length : Int) = (t246.length : Int) then (beadlelaw06_MergeAgain.j2 kj4 t246 t249 t252 t263 ((t263.length : Int) != (t246.length : Int))) else (beadlelaw06_MergeAgain.j2 kj4 t246 t249 t252 t263 true)) else (beadlelaw06_MergeAgain.j2 kj4 t246 t249 t252 t263 true))) else (none)) else (none))) = some true := H
     have A15 := Aside0.mk A150
     clear A150
     replace H := Option.bind_eq_some_iff.mp H
     obtain ⟨t252, A160, H⟩ := H
     replace H : (if 0 ≤ (Int.tmod (wrap64 ((wrap64 ((Int.tmod a1 (wrap64 ((t246.length : Int) + 1))) + (t246.length : Int))) + 1)) (wrap64 ((t246.length : Int) + 1))) then (if (Int.tmod (wrap64 ((wrap64 ((Int.tmod a1 (wrap64 ((t246.length : Int) + 1))) + (t246.length : Int))) + 1)) (wrap64 ((t246.length : Int) + 1))) ≤ (t246.length : Int) then ((merge_Merge.f [t246.drop ((Int.tmod (wrap64 ((wrap64 ((Int.tmod a1 (wrap64 ((t246.length : Int) + 1))) + (t246.length : Int))) + 1)) (wrap64 ((t246.length : Int) + 1))) : Int).toNat, t246.take ((Int.tmod (wrap64 ((wrap64 ((Int.tmod a1 (wrap64 ((t246.length : Int) + 1))) + (t246.length : Int))) + 1)) (wrap64 ((t246.length : Int) + 1))) : Int).toNat, t246]).bind fun t263 => (if (t249.length : Int) = (t246.length : Int) then (if (t252.length : Int) = (t246.length : Int) then (beadlelaw06_MergeAgain.j2 kj4 t246 t249 t252 t263 ((t263.length : Int) != (t246.length : Int))) else (beadlelaw06_MergeAgain.j2 kj4 t246 t249 t252 t263 true)) else (beadlelaw06_MergeAgain.j2 kj4 t246 t249 t252 t263 true))) else (none)) else (none)) = some true := H
     have A16 := Aside0.mk A160
     clear A160
     obtain ⟨ji17, hji17⟩ : ∃ j_ : Int, (Int.tmod (wrap64 ((wrap64 ((Int.tmod a1 (wrap64 ((t246.length : Int) + 1))) + (t246.length : Int))) + 1)) (wrap64 ((t246.length : Int) + 1))) = j_ := ⟨_, rfl⟩
     replace H : (if 0 ≤ (ji17) then (if (ji17) ≤ (t246.length : Int) then ((merge_Merge.f [t246.drop ((ji17) : Int).toNat, t246.take ((ji17) : Int).toNat, t246]).bind fun t263 => (if (t249.length : Int) = (t246.length : Int) then (if (t252.length : Int) = (t246.length : Int) then (beadlelaw06_MergeAgain.j2 kj4 t246 t249 t252 t263 ((t263.length : Int) != (t246.length : Int))) else (beadlelaw06_MergeAgain.j2 kj4 t246 t249 t252 t263 true)) else (beadlelaw06_MergeAgain.j2 kj4 t246 t249 t252 t263 true))) else (none)) else (none)) = some true := by first | (rw [hji17] at H; exact H) | (simp only [hji17] at H ⊢; exact H)
     (try rw [hji17] at A13)
     (try rw [hji17] at A15)
     (try rw [hji17] at A16)
     by_cases c18 : 0 ≤ (ji17)
     ·
      rw [if_pos c18] at H
      have c18b0 := eq_true c18
      have c18b1 : decide (0 ≤ (ji17)) = true := decide_eq_true c18
      clear c18
      by_cases c19 : (ji17) ≤ (t246.length : Int)
      ·
       rw [if_pos c19] at H
       have c19b0 := eq_true c19
       have c19b1 : decide ((ji17) ≤ (t246.length : Int)) = true := decide_eq_true c19
       clear c19
       obtain ⟨y255, hy255⟩ : ∃ y_ : List (S27), y_ = (t246.drop ((ji17) : Int).toNat) := ⟨_, rfl⟩
       replace H : ((merge_Merge.f [y255, t246.take ((ji17) : Int).toNat, t246]).bind fun t263 => (if (t249.length : Int) = (t246.length : Int) then (if (t252.length : Int) = (t246.length : Int) then (beadlelaw06_MergeAgain.j2 kj4 t246 t249 t252 t263 ((t263.length : Int) != (t246.length : Int))) else (beadlelaw06_MergeAgain.j2 kj4 t246 t249 t252 t263 true)) else (beadlelaw06_MergeAgain.j2 kj4 t246 t249 t252 t263 true))) = some true := by first | (rw [hy255]; with_reducible exact H) | (have H2_ := (Option.bind_some _ _).symm.trans H; rw [hy255]; with_reducible exact H2_) | (have H2_ := (Option.bind_some _ _).symm.trans H; with_reducible exact H2_) | with_reducible exact H | (rw [hy255]; exact H) | exact H
       have Ny255 := Aside0.mk hy255
       clear hy255
       have c20b0 := eq_true (of_decide_eq_true (by first | (with_reducible assumption) | assumption) : 0 ≤ (ji17))
       have c21b0 := eq_true (of_decide_eq_true (by first | (with_reducible assumption) | assumption) : (ji17) ≤ (t246.length : Int))
       obtain ⟨y259, hy259⟩ : ∃ y_ : List (S27), y_ = (t246.take ((ji17) : Int).toNat) := ⟨_, rfl⟩
       replace H : ((merge_Merge.f [y255, y259, t246]).bind fun t263 => (if (t249.length : Int) = (t246.length : Int) then (if (t252.length : Int) = (t246.length : Int) then (beadlelaw06_MergeAgain.j2 kj4 t246 t249 t252 t263 ((t263.length : Int) != (t246.length : Int))) else (beadlelaw06_MergeAgain.j2 kj4 t246 t249 t252 t263 true)) else (beadlelaw06_MergeAgain.j2 kj4 t246 t249 t252 t263 true))) = some true := by first | (rw [hy259]; with_reducible exact H) | (have H2_ := (Option.bind_some _ _).symm.trans H; rw [hy259]; with_reducible exact H2_) | (have H2_ := (Option.bind_some _ _).symm.trans H; with_reducible exact H2_) | with_reducible exact H | (rw [hy259]; exact H) | exact H
       have Ny259 := Aside0.mk hy259
       clear hy259
       replace H := Option.bind_eq_some_iff.mp H
       obtain ⟨t263, A220, H⟩ := H
       replace H : (if (t249.length : Int) = (t246.length : Int) then (if (t252.length : Int) = (t246.length : Int) then (beadlelaw06_MergeAgain.j2 kj4 t246 t249 t252 t263 ((t263.length : Int) != (t246.length : Int))) else (beadlelaw06_MergeAgain.j2 kj4 t246 t249 t252 t263 true)) else (beadlelaw06_MergeAgain.j2 kj4 t246 t249 t252 t263 true)) = some true := H
       have A22 := Aside0.mk A220
       clear A220
       have HC23 := Aside0.mk H
       clear H
       obtain ⟨Ao24, co24, eo24⟩ := Kd.R_slice HO_5.out
       subst eo24
       try go_wp2_with (first | ((with_reducible refine gate_callee (f := 13) rfl ?_); refine goesL_ (some 44) rfl rfl Try.func13 (by kernel_rfl) rfl #[.slice Ao24 x5_4.length co24] rfl (by (try simp only [List.map_toArray, List.map_cons, List.map_nil]); first | done | rfl | (simp only [List.length_drop, List.length_take]; rfl)) ?_; (with_reducible refine (merge_Sort.calls _ _ x5_4 t246 _ ?side1 ?side2 A13.out).mono ?_); (case side1 => repeat (first | exact (Kd.R_reads' HO_5.out).2.2 | (with_reducible refine Kd.C_alloc ?_ _) | (with_reducible refine Kd.C_drewN ?_ _) | (with_reducible refine Kd.C_drew ?_))); (case side2 => exact (Kd.R_reads' HO_5.out).2.1); rintro e w25 ⟨v247, rfl, ho0, hb⟩; refine ⟨_, rfl, ?_⟩; have n0_ := Aside0.mk (Kd.R_elder' (by (with_reducible repeat (first | apply Kd.R_alloc | apply Kd.R_drewN | apply Kd.R_drew)); exact HO_5.out) (Kd.R_base ho0) hb); have n1_ := Aside0.mk (Kd.R_lower (Kd.R_new' ho0 (Kd.R_lt (by (with_reducible repeat (first | apply Kd.R_alloc | apply Kd.R_drewN | apply Kd.R_drew)); exact HO_5.out))) (below_size (by repeat (first | (with_reducible first | exact HB.out | apply below_alloc | apply pw_below_drewN | apply below_drew1) | exact HB.out)))); have n2_ := Aside0.mk (below_step (by repeat (first | (with_reducible first | exact HB.out | apply below_alloc | apply pw_below_drewN | apply below_drew1) | exact HB.out)) hb); clear HO_5; clear HB; have HO_5 := n0_; have HO248 := n1_; have HB := n2_; clear n0_ n1_ n2_; (try clear hb); (try clear hb2); (try clear hk); (try clear hi); (try clear ho0); obtain ⟨Ao26, co26, eo26⟩ := Kd.R_slice HO248.out; subst eo26))
       have q28 : ji17 ≤ (t246.length : Int) := of_decide_eq_true c19b1
       have q028 : (0 : Int) ≤ ji17 := of_decide_eq_true c18b1
       obtain ⟨i028, hi028, _, hsz28, _⟩ := info_parts info27
       have hroom28 : t246.length ≤ co26 := (Kd.R_reads' HO248.out).2.1
       have hcut28 := cut_from (P := Try.prog) 38 27 .i64 Try.underlying38 hi028 3 hsz28 Ao26 t246.length co26 ji17 q028 q28
       obtain ⟨A28, hA28⟩ : ∃ A1, A1 = (if co26 = (ji17 : Int).toNat then Ao26 else (Ao26 : Option Addr).map (·.add ((ji17 : Int).toNat * 3))) := ⟨_, rfl⟩
       obtain ⟨c28, hc28⟩ : ∃ c1, c1 = co26 - (ji17 : Int).toNat := ⟨_, rfl⟩
       have hy28 : y255.length = t246.length - (ji17 : Int).toNat := (by rw [Ny255.out, List.length_drop] <;> omega)
       have hy29 : y259.length = (ji17 : Int).toNat := (by rw [Ny259.out, List.length_take]; omega)
       have hcut29 := cut_to (P := Try.prog) 38 27 .i64 Try.underlying38 hi028 Ao26 t246.length co26 ji17 q028 q28 hroom28
       rw [← hy28, ← hA28, ← hc28] at hcut28
       rw [← hy29] at hcut29
       have HC258 := Aside0.mk (show y255.length ≤ c28 from by rw [hy28, hc28]; exact Nat.sub_le_sub_right hroom28 _)
       have HC262 := Aside0.mk (show y259.length ≤ co26 from by omega)
       have HCa := Aside0.mk hroom28
       have hA258 : Kd.C k27 w25 A28 y255.length y255 := by
        have h := Kd.C_drop (m := (ji17 : Int).toNat) (c := co26) (Kd.R_reads' HO248.out).2.2 (by omega) hroom28
        rw [show (t246).drop (ji17 : Int).toNat = y255 from Ny255.out.symm] at h
        rw [hA28]
        exact h
       have hA262 : Kd.C k27 w25 Ao26 y259.length y259 := by
        have h := Kd.C_take (m := (ji17 : Int).toNat) (Kd.R_reads' HO248.out).2.2 (by omega)
        rw [← Ny259.out] at h
        exact h
       have HR258 := Aside0.mk hA258
       have HR262 := Aside0.mk hA262
       clear hA258 hA262 hroom28 hi028 hsz28 hc28 hA28 hy28 hy29
       replace q28 := eq_true q28
       replace q028 := eq_true q028
       go_cut [8, 9, 10] (fun v8 v9 v10 wc => Aside0 (Kd.R k27 27 wc w.heap.size (fun _ => True) (.slice Ao26 t246.length co26) t246) ∧ Aside0 (Kd.R k27 27 wc w.heap.size (fun _ => True) v8 t249) ∧ Aside0 (Kd.R k27 27 wc w.heap.size (fun _ => True) v9 t252) ∧ Aside0 (Kd.R k27 27 wc w.heap.size (fun _ => True) v10 t263) ∧ Aside0 (Kd.C k27 wc A28 y255.length y255) ∧ Aside0 (Kd.C k27 wc Ao26 y259.length y259) ∧ Aside0 (Below w.heap.size w wc))
       case first =>
        clear HC23 HO_5
        have n_ := Aside0.mk (Kd.R_mono (Kd.R_drew HO248.out) (fun _ _ => trivial))
        clear HO248
        have HO248 := n_
        clear n_
        have n_ := Aside0.mk (Kd.C_drew HR258.out)
        clear HR258
        have HR258 := n_
        clear n_
        have n_ := Aside0.mk (Kd.C_drew HR262.out)
        clear HR262
        have HR262 := n_
        clear n_
        have n_ := Aside0.mk (below_drew1 HB.out)
        clear HB
        have HB := n_
        clear n_
        refine start_ (n := 18) (S := fun w' => True) (ds := []) #[false, false, false, false, false, false, false, false, false, false, false, false, false, false, false, false, false, false] (by kernel_rfl) rfl rfl trivial (fun hHeld => ?_); refine with_tabW beadlelaw06_MergeAgain.tab10 beadlelaw06_MergeAgain.bits10 (fun HT_ HW_ => ?_)
        generalize w25.drew = w27 at HO248 HB HR258 HR262 hHeld ⊢
        refine pure_ (i := 0) (N := some 58) (v := ?_) (a' := ?_) #[true, false, false, false, false, false, false, false, false, false, false, false, false, false, false, false, false, false] rfl rfl (any_of HT_.out (by kernel_rfl)) (fun _ _ _ h => h) (Or.inl ⟨by rfl, ?_⟩) ?_ ?_
        rotate_left
        ·
         intro w'
         go_simp
         with_reducible rfl
        rotate_left
        ·
         simp only [Act.put, List.setIfInBounds_toArray, List.set_cons_zero, List.set_cons_succ, i64_w, i32_w]
         rfl
        refine pure_ (i := 2) (N := some 60) (v := ?_) (a' := ?_) #[true, false, true, false, false, false, false, false, false, false, false, false, false, false, false, false, false, false] rfl rfl (any_of HT_.out (by kernel_rfl)) (fun _ _ _ h => h) (Or.inl ⟨by rfl, ?_⟩) ?_ ?_
        rotate_left
        ·
         intro w'
         go_simp
         with_reducible rfl
        rotate_left
        ·
         simp only [Act.put, List.setIfInBounds_toArray, List.set_cons_zero, List.set_cons_succ, i64_w, i32_w]
         rfl
        refine pure_ (i := 3) (N := some 61) (v := ?_) (a' := ?_) #[true, false, true, true, false, false, false, false, false, false, false, false, false, false, false, false, false, false] rfl rfl (any_of HT_.out (by kernel_rfl)) (fun _ _ _ h => h) (Or.inl ⟨by rfl, ?_⟩) ?_ ?_
        rotate_left
        ·
         intro w'
         go_simp
         with_reducible rfl
        rotate_left
        ·
         simp only [Act.put, List.setIfInBounds_toArray, List.set_cons_zero, List.set_cons_succ, i64_w, i32_w]
         rfl
        refine pure_ (i := 6) (N := some 64) (v := ?_) (a' := ?_) #[true, false, true, true, false, false, true, false, false, false, false, false, false, false, false, false, false, false] rfl rfl (any_of HT_.out (by kernel_rfl)) (fun _ _ _ h => h) (Or.inl ⟨by rfl, ?_⟩) ?_ ?_
        rotate_left
        ·
         intro w'
         go_simp
         with_reducible rfl
        rotate_left
        ·
         simp only [Act.put, List.setIfInBounds_toArray, List.set_cons_zero, List.set_cons_succ, i64_w, i32_w]
         rfl
        refine pure_ (i := 7) (N := some 65) (v := ?_) (a' := ?_) #[true, false, true, true, false, false, true, true, false, false, false, false, false, false, false, false, false, false] rfl rfl (any_of HT_.out (by kernel_rfl)) (fun _ _ _ h => h) (Or.inl ⟨by rfl, ?_⟩) ?_ ?_
        rotate_left
        ·
         intro w'
         go_simp
         with_reducible rfl
        rotate_left
        ·
         simp only [Act.put, List.setIfInBounds_toArray, List.set_cons_zero, List.set_cons_succ, i64_w, i32_w]
         rfl
        refine pure_ (i := 8) (N := some 66) (v := ?_) (a' := ?_) #[true, false, true, true, false, false, true, true, true, false, false, false, false, false, false, false, false, false] rfl rfl (any_of HT_.out (by kernel_rfl)) (fun _ _ _ h => h) (Or.inl ⟨by rfl, ?_⟩) ?_ ?_
        rotate_left
        ·
         intro w'
         go_simp
         with_reducible rfl
        rotate_left
        ·
         simp only [Act.put, List.setIfInBounds_toArray, List.set_cons_zero, List.set_cons_succ, i64_w, i32_w]
         rfl
        refine pure_ (i := 9) (N := some 67) (v := ?_) (a' := ?_) #[true, false, true, true, false, false, true, true, true, true, false, false, false, false, false, false, false, false] rfl rfl (any_of HT_.out (by kernel_rfl)) (fun _ _ _ h => h) (Or.inl ⟨by rfl, ?_⟩) ?_ ?_
        rotate_left
        ·
         intro w'
         go_simp
         with_reducible rfl
        rotate_left
        ·
         simp only [Act.put, List.setIfInBounds_toArray, List.set_cons_zero, List.set_cons_succ, i64_w, i32_w]
         rfl
        refine pure_ (i := 10) (N := some 68) (v := ?_) (a' := ?_) #[true, false, true, true, false, false, true, true, true, true, true, false, false, false, false, false, false, false] rfl rfl (any_of HT_.out (by kernel_rfl)) (fun _ _ _ h => h) (Or.inl ⟨by rfl, ?_⟩) ?_ ?_
        rotate_left
        ·
         intro w'
         go_simp
         with_reducible rfl
        rotate_left
        ·
         simp only [Act.put, List.setIfInBounds_toArray, List.set_cons_zero, List.set_cons_succ, i64_w, i32_w]
         rfl
        refine pure_ (i := 11) (N := some 69) (v := ?_) (a' := ?_) #[true, false, true, true, false, false, true, true, true, true, true, true, false, false, false, false, false, false] rfl rfl (any_of HT_.out (by kernel_rfl)) (fun _ _ _ h => h) (Or.inl ⟨by rfl, ?_⟩) ?_ ?_
        rotate_left
        ·
         intro w'
         go_simp
         with_reducible rfl
        rotate_left
        ·
         simp only [Act.put, List.setIfInBounds_toArray, List.set_cons_zero, List.set_cons_succ, i64_w, i32_w]
         rfl
        refine pure_ (i := 12) (N := some 70) (v := ?_) (a' := ?_) #[true, false, true, true, false, false, true, true, true, true, true, true, true, false, false, false, false, false] rfl rfl (any_of HT_.out (by kernel_rfl)) (fun _ _ _ h => h) (Or.inl ⟨by rfl, ?_⟩) ?_ ?_
        rotate_left
        ·
         intro w'
         go_simp
         with_reducible rfl
        rotate_left
        ·
         simp only [Act.put, List.setIfInBounds_toArray, List.set_cons_zero, List.set_cons_succ, i64_w, i32_w]
         rfl
        refine three_ (i := 1) (j := 4) (k := 13) (Ni := some 59) (Nj := some 62) (Nk := some 71) #[true, true, true, true, false, false, true, true, true, true, true, true, true, false, false, false, false, false] #[true, false, true, true, true, false, true, true, true, true, true, true, true, false, false, false, false, false] #[true, false, true, true, false, false, true, true, true, true, true, true, true, true, false, false, false, false] rfl rfl rfl rfl rfl rfl (three_of HT_.out (by kernel_rfl)) (by decide) (by decide) (by decide) (fun K hK => ?_) (fun K hK => ?_) (fun K hK => ?_)
        ·
         refine goes_ Try.func13 (by kernel_rfl) rfl #[.slice Ao26 t246.length co26] (by rfl) rfl rfl (by (try simp only [List.map_toArray, List.map_cons, List.map_nil]); first | done | rfl) ?_
         refine (merge_Sort.calls _ _ t246 t249 _ (Kd.R_reads' HO248.out).2.2 HCa.out A15.out).mono ?_
         rintro e w41 ⟨v250, rfl, ho0, hb⟩
         refine ⟨_, rfl, ?_⟩
         have HO251 := Aside0.mk (Kd.R_lower ho0 (below_size HB.out))
         clear ho0
         have n_HO248 := Aside0.mk (Kd.R_below HO248.out hb)
         have n_HR258 := Aside0.mk (Kd.C_below HR258.out hb)
         have n_HR262 := Aside0.mk (Kd.C_below HR262.out hb)
         have n_HB := Aside0.mk (below_step HB.out hb)
         clear HO248 HR258 HR262 HB hb
         have HO248 := n_HO248
         have HR258 := n_HR258
         have HR262 := n_HR262
         have HB := n_HB
         clear n_HO248 n_HR258 n_HR262 n_HB
         refine hK.out _ _ trivial (fun hHeld => ?_)
         clear hK K
         refine norm_ (a' := ?_) ?_ ?_
         rotate_left
         ·
          show Act.put _ (some 59) _ = _
          simp only [Act.put, List.setIfInBounds_toArray, List.set_cons_zero, List.set_cons_succ, i64_w, i32_w]
          rfl
         refine two_ (i := 4) (j := 13) (Ni := some 62) (Nj := some 71) #[true, true, true, true, true, false, true, true, true, true, true, true, true, false, false, false, false, false] #[true, true, true, true, false, false, true, true, true, true, true, true, true, true, false, false, false, false] rfl rfl rfl rfl (two_of HT_.out (by kernel_rfl)) (by decide) (by decide) (fun K hK => ?_) (fun K hK => ?_)
         ·
          refine value_ (w1 := ?_) (v := ?_) (by rfl) rfl ?_ ?_
          rotate_left 2
          ·
           go_simp
           constructor
           ·
            rfl
           ·
            rfl
          refine hK.out _ _ trivial (fun hHeld => ?_)
          clear hK K
          have HL62 := Aside0.mk (lit2 HCa.out (Kd.R_reads' HO248.out).2.2 HCa.out (Kd.R_reads' HO248.out).2.2)
          have hb : Below w41.heap.size w41 (w41.alloc (.cells #[.slice Ao26 t246.length co26, .slice Ao26 t246.length co26] 38 (0, 0))) := below_alloc (Below.refl _ _) _
          generalize w41.alloc (.cells #[.slice Ao26 t246.length co26, .slice Ao26 t246.length co26] 38 (0, 0)) = w42 at hb HL62 hHeld ⊢
          have n_HO248 := Aside0.mk (Kd.R_below HO248.out hb)
          have n_HR258 := Aside0.mk (Kd.C_below HR258.out hb)
          have n_HR262 := Aside0.mk (Kd.C_below HR262.out hb)
          have n_HO251 := Aside0.mk (Kd.R_below HO251.out hb)
          have n_HB := Aside0.mk (below_step HB.out hb)
          clear HO248 HR258 HR262 HO251 HB hb
          have HO248 := n_HO248
          have HR258 := n_HR258
          have HR262 := n_HR262
          have HO251 := n_HO251
          have HB := n_HB
          clear n_HO248 n_HR258 n_HR262 n_HO251 n_HB
          refine norm_ (a' := ?_) ?_ ?_
          rotate_left
          ·
           show Act.put _ (some 62) _ = _
           simp only [Act.put, List.setIfInBounds_toArray, List.set_cons_zero, List.set_cons_succ, i64_w, i32_w]
           rfl
          refine two_ (i := 5) (j := 13) (Ni := some 63) (Nj := some 71) #[true, true, true, true, true, true, true, true, true, true, true, true, true, false, false, false, false, false] #[true, true, true, true, true, false, true, true, true, true, true, true, true, true, false, false, false, false] rfl rfl rfl rfl (two_of HT_.out (by kernel_rfl)) (by decide) (by decide) (fun K hK => ?_) (fun K hK => ?_)
          ·
           refine goes_ Try.func17 (by kernel_rfl) rfl #[.slice (some ⟨w41.heap.size, 0, none⟩) 2 2] (by rfl) rfl rfl (by (try simp only [List.map_toArray, List.map_cons, List.map_nil]); first | done | rfl) ?_
           refine (merge_Merge.calls _ _ [t246, t246] t252 _ HL62.out (Nat.le_refl _) A16.out).mono ?_
           rintro e w43 ⟨v253, rfl, ho0, hb⟩
           refine ⟨_, rfl, ?_⟩
           have HO254 := Aside0.mk (Kd.R_lower ho0 (below_size HB.out))
           clear ho0
           have n_HO248 := Aside0.mk (Kd.R_below HO248.out hb)
           have n_HR258 := Aside0.mk (Kd.C_below HR258.out hb)
           have n_HR262 := Aside0.mk (Kd.C_below HR262.out hb)
           have n_HO251 := Aside0.mk (Kd.R_below HO251.out hb)
           have n_HL62 := Aside0.mk (Kd.C_below HL62.out hb)
           have n_HB := Aside0.mk (below_step HB.out hb)
           clear HO248 HR258 HR262 HO251 HL62 HB hb
           have HO248 := n_HO248
           have HR258 := n_HR258
           have HR262 := n_HR262
           have HO251 := n_HO251
           have HL62 := n_HL62
           have HB := n_HB
           clear n_HO248 n_HR258 n_HR262 n_HO251 n_HL62 n_HB
           refine hK.out _ _ trivial (fun hHeld => ?_)
           clear hK K
           refine norm_ (a' := ?_) ?_ ?_
           rotate_left
           ·
            show Act.put _ (some 63) _ = _
            simp only [Act.put, List.setIfInBounds_toArray, List.set_cons_zero, List.set_cons_succ, i64_w, i32_w]
            rfl
           refine one_ (i := 13) (N := some 71) #[true, true, true, true, true, true, true, true, true, true, true, true, true, true, false, false, false, false] rfl rfl (one_of HT_.out (by kernel_rfl)) (by decide) (fun K hK => ?_)
           refine value_ (w1 := ?_) (v := ?_) (by rfl) rfl ?_ ?_
           rotate_left 2
           ·
            go_simp
            constructor
            ·
             rfl
            ·
             rfl
           refine hK.out _ _ trivial (fun hHeld => ?_)
           clear hK K
           have HL71 := Aside0.mk (lit3 HC258.out HR258.out HC262.out HR262.out HCa.out (Kd.R_reads' HO248.out).2.2)
           have hb : Below w43.heap.size w43 (w43.alloc (.cells #[.slice A28 y255.length c28, .slice Ao26 y259.length co26, .slice Ao26 t246.length co26] 38 (0, 0))) := below_alloc (Below.refl _ _) _
           generalize w43.alloc (.cells #[.slice A28 y255.length c28, .slice Ao26 y259.length co26, .slice Ao26 t246.length co26] 38 (0, 0)) = w44 at hb HL71 hHeld ⊢
           have n_HO248 := Aside0.mk (Kd.R_below HO248.out hb)
           have n_HR258 := Aside0.mk (Kd.C_below HR258.out hb)
           have n_HR262 := Aside0.mk (Kd.C_below HR262.out hb)
           have n_HO251 := Aside0.mk (Kd.R_below HO251.out hb)
           have n_HL62 := Aside0.mk (Kd.C_below HL62.out hb)
           have n_HO254 := Aside0.mk (Kd.R_below HO254.out hb)
           have n_HB := Aside0.mk (below_step HB.out hb)
           clear HO248 HR258 HR262 HO251 HL62 HO254 HB hb
           have HO248 := n_HO248
           have HR258 := n_HR258
           have HR262 := n_HR262
           have HO251 := n_HO251
           have HL62 := n_HL62
           have HO254 := n_HO254
           have HB := n_HB
           clear n_HO248 n_HR258 n_HR262 n_HO251 n_HL62 n_HO254 n_HB
           refine norm_ (a' := ?_) ?_ ?_
           rotate_left
           ·
            show Act.put _ (some 71) _ = _
            simp only [Act.put, List.setIfInBounds_toArray, List.set_cons_zero, List.set_cons_succ, i64_w, i32_w]
            rfl
           refine one_ (i := 14) (N := some 72) #[true, true, true, true, true, true, true, true, true, true, true, true, true, true, true, false, false, false] rfl rfl (one_of HT_.out (by kernel_rfl)) (by decide) (fun K hK => ?_)
           refine goes_ Try.func17 (by kernel_rfl) rfl #[.slice (some ⟨w43.heap.size, 0, none⟩) 3 3] (by rfl) rfl rfl (by (try simp only [List.map_toArray, List.map_cons, List.map_nil]); first | done | rfl) ?_
           refine (merge_Merge.calls _ _ [y255, y259, t246] t263 _ HL71.out (Nat.le_refl _) A22.out).mono ?_
           rintro e w45 ⟨v264, rfl, ho0, hb⟩
           refine ⟨_, rfl, ?_⟩
           have HO265 := Aside0.mk (Kd.R_lower ho0 (below_size HB.out))
           clear ho0
           have n_HO248 := Aside0.mk (Kd.R_below HO248.out hb)
           have n_HR258 := Aside0.mk (Kd.C_below HR258.out hb)
           have n_HR262 := Aside0.mk (Kd.C_below HR262.out hb)
           have n_HO251 := Aside0.mk (Kd.R_below HO251.out hb)
           have n_HL62 := Aside0.mk (Kd.C_below HL62.out hb)
           have n_HO254 := Aside0.mk (Kd.R_below HO254.out hb)
           have n_HL71 := Aside0.mk (Kd.C_below HL71.out hb)
           have n_HB := Aside0.mk (below_step HB.out hb)
           clear HO248 HR258 HR262 HO251 HL62 HO254 HL71 HB hb
           have HO248 := n_HO248
           have HR258 := n_HR258
           have HR262 := n_HR262
           have HO251 := n_HO251
           have HL62 := n_HL62
           have HO254 := n_HO254
           have HL71 := n_HL71
           have HB := n_HB
           clear n_HO248 n_HR258 n_HR262 n_HO251 n_HL62 n_HO254 n_HL71 n_HB
           refine hK.out _ _ trivial (fun hHeld => ?_)
           clear hK K
           refine norm_ (a' := ?_) ?_ ?_
           rotate_left
           ·
            show Act.put _ (some 72) _ = _
            simp only [Act.put, List.setIfInBounds_toArray, List.set_cons_zero, List.set_cons_succ, i64_w, i32_w]
            rfl
           refine pure_ (i := 15) (N := some 8) (v := ?_) (a' := ?_) #[true, true, true, true, true, true, true, true, true, true, true, true, true, true, true, true, false, false] rfl rfl (any_of HT_.out (by kernel_rfl)) (fun _ _ _ h => h) (Or.inl ⟨by rfl, ?_⟩) ?_ ?_
           rotate_left
           ·
            intro w'
            go_simp
            with_reducible rfl
           rotate_left
           ·
            simp only [Act.put, List.setIfInBounds_toArray, List.set_cons_zero, List.set_cons_succ, i64_w, i32_w]
            rfl
           refine pure_ (i := 16) (N := some 9) (v := ?_) (a' := ?_) #[true, true, true, true, true, true, true, true, true, true, true, true, true, true, true, true, true, false] rfl rfl (any_of HT_.out (by kernel_rfl)) (fun _ _ _ h => h) (Or.inl ⟨by rfl, ?_⟩) ?_ ?_
           rotate_left
           ·
            intro w'
            go_simp
            with_reducible rfl
           rotate_left
           ·
            simp only [Act.put, List.setIfInBounds_toArray, List.set_cons_zero, List.set_cons_succ, i64_w, i32_w]
            rfl
           refine pure_ (i := 17) (N := some 10) (v := ?_) (a' := ?_) #[true, true, true, true, true, true, true, true, true, true, true, true, true, true, true, true, true, true] rfl rfl (any_of HT_.out (by kernel_rfl)) (fun _ _ _ h => h) (Or.inl ⟨by rfl, ?_⟩) ?_ ?_
           rotate_left
           ·
            intro w'
            go_simp
            with_reducible rfl
           rotate_left
           ·
            simp only [Act.put, List.setIfInBounds_toArray, List.set_cons_zero, List.set_cons_succ, i64_w, i32_w]
            rfl
           refine done_ (done_of HT_.out (by kernel_rfl)) ?_
           try go_wp2
           go_meet
           case rel => exact ⟨HO248, HO251, HO254, HO265, HR258, HR262, HB⟩
          ·
           refine value_ (w1 := ?_) (v := ?_) (by rfl) rfl ?_ ?_
           rotate_left 2
           ·
            go_simp
            constructor
            ·
             rfl
            ·
             rfl
           refine hK.out _ _ trivial (fun hHeld => ?_)
           clear hK K
           have HL71 := Aside0.mk (lit3 HC258.out HR258.out HC262.out HR262.out HCa.out (Kd.R_reads' HO248.out).2.2)
           have hb : Below w42.heap.size w42 (w42.alloc (.cells #[.slice A28 y255.length c28, .slice Ao26 y259.length co26, .slice Ao26 t246.length co26] 38 (0, 0))) := below_alloc (Below.refl _ _) _
           generalize w42.alloc (.cells #[.slice A28 y255.length c28, .slice Ao26 y259.length co26, .slice Ao26 t246.length co26] 38 (0, 0)) = w46 at hb HL71 hHeld ⊢
           have n_HO248 := Aside0.mk (Kd.R_below HO248.out hb)
           have n_HR258 := Aside0.mk (Kd.C_below HR258.out hb)
           have n_HR262 := Aside0.mk (Kd.C_below HR262.out hb)
           have n_HO251 := Aside0.mk (Kd.R_below HO251.out hb)
           have n_HL62 := Aside0.mk (Kd.C_below HL62.out hb)
           have n_HB := Aside0.mk (below_step HB.out hb)
           clear HO248 HR258 HR262 HO251 HL62 HB hb
           have HO248 := n_HO248
           have HR258 := n_HR258
           have HR262 := n_HR262
           have HO251 := n_HO251
           have HL62 := n_HL62
           have HB := n_HB
           clear n_HO248 n_HR258 n_HR262 n_HO251 n_HL62 n_HB
           refine norm_ (a' := ?_) ?_ ?_
           rotate_left
           ·
            show Act.put _ (some 71) _ = _
            simp only [Act.put, List.setIfInBounds_toArray, List.set_cons_zero, List.set_cons_succ, i64_w, i32_w]
            rfl
           refine one_ (i := 5) (N := some 63) #[true, true, true, true, true, true, true, true, true, true, true, true, true, true, false, false, false, false] rfl rfl (one_of HT_.out (by kernel_rfl)) (by decide) (fun K hK => ?_)
           refine goes_ Try.func17 (by kernel_rfl) rfl #[.slice (some ⟨w41.heap.size, 0, none⟩) 2 2] (by rfl) rfl rfl (by (try simp only [List.map_toArray, List.map_cons, List.map_nil]); first | done | rfl) ?_
           refine (merge_Merge.calls _ _ [t246, t246] t252 _ HL62.out (Nat.le_refl _) A16.out).mono ?_
           rintro e w47 ⟨v253, rfl, ho0, hb⟩
           refine ⟨_, rfl, ?_⟩
           have HO254 := Aside0.mk (Kd.R_lower ho0 (below_size HB.out))
           clear ho0
           have n_HO248 := Aside0.mk (Kd.R_below HO248.out hb)
           have n_HR258 := Aside0.mk (Kd.C_below HR258.out hb)
           have n_HR262 := Aside0.mk (Kd.C_below HR262.out hb)
           have n_HO251 := Aside0.mk (Kd.R_below HO251.out hb)
           have n_HL62 := Aside0.mk (Kd.C_below HL62.out hb)
           have n_HL71 := Aside0.mk (Kd.C_below HL71.out hb)
           have n_HB := Aside0.mk (below_step HB.out hb)
           clear HO248 HR258 HR262 HO251 HL62 HL71 HB hb
           have HO248 := n_HO248
           have HR258 := n_HR258
           have HR262 := n_HR262
           have HO251 := n_HO251
           have HL62 := n_HL62
           have HL71 := n_HL71
           have HB := n_HB
           clear n_HO248 n_HR258 n_HR262 n_HO251 n_HL62 n_HL71 n_HB
           refine hK.out _ _ trivial (fun hHeld => ?_)
           clear hK K
           refine norm_ (a' := ?_) ?_ ?_
           rotate_left
           ·
            show Act.put _ (some 63) _ = _
            simp only [Act.put, List.setIfInBounds_toArray, List.set_cons_zero, List.set_cons_succ, i64_w, i32_w]
            rfl
           refine one_ (i := 14) (N := some 72) #[true, true, true, true, true, true, true, true, true, true, true, true, true, true, true, false, false, false] rfl rfl (one_of HT_.out (by kernel_rfl)) (by decide) (fun K hK => ?_)
           refine goes_ Try.func17 (by kernel_rfl) rfl #[.slice (some ⟨w42.heap.size, 0, none⟩) 3 3] (by rfl) rfl rfl (by (try simp only [List.map_toArray, List.map_cons, List.map_nil]); first | done | rfl) ?_
           refine (merge_Merge.calls _ _ [y255, y259, t246] t263 _ HL71.out (Nat.le_refl _) A22.out).mono ?_
           rintro e w48 ⟨v264, rfl, ho0, hb⟩
           refine ⟨_, rfl, ?_⟩
           have HO265 := Aside0.mk (Kd.R_lower ho0 (below_size HB.out))
           clear ho0
           have n_HO248 := Aside0.mk (Kd.R_below HO248.out hb)
           have n_HR258 := Aside0.mk (Kd.C_below HR258.out hb)
           have n_HR262 := Aside0.mk (Kd.C_below HR262.out hb)
           have n_HO251 := Aside0.mk (Kd.R_below HO251.out hb)
           have n_HL62 := Aside0.mk (Kd.C_below HL62.out hb)
           have n_HL71 := Aside0.mk (Kd.C_below HL71.out hb)
           have n_HO254 := Aside0.mk (Kd.R_below HO254.out hb)
           have n_HB := Aside0.mk (below_step HB.out hb)
           clear HO248 HR258 HR262 HO251 HL62 HL71 HO254 HB hb
           have HO248 := n_HO248
           have HR258 := n_HR258
           have HR262 := n_HR262
           have HO251 := n_HO251
           have HL62 := n_HL62
           have HL71 := n_HL71
           have HO254 := n_HO254
           have HB := n_HB
           clear n_HO248 n_HR258 n_HR262 n_HO251 n_HL62 n_HL71 n_HO254 n_HB
           refine hK.out _ _ trivial (fun hHeld => ?_)
           clear hK K
           refine norm_ (a' := ?_) ?_ ?_
           rotate_left
           ·
            show Act.put _ (some 72) _ = _
            simp only [Act.put, List.setIfInBounds_toArray, List.set_cons_zero, List.set_cons_succ, i64_w, i32_w]
            rfl
           refine pure_ (i := 15) (N := some 8) (v := ?_) (a' := ?_) #[true, true, true, true, true, true, true, true, true, true, true, true, true, true, true, true, false, false] rfl rfl (any_of HT_.out (by kernel_rfl)) (fun _ _ _ h => h) (Or.inl ⟨by rfl, ?_⟩) ?_ ?_
           rotate_left
           ·
            intro w'
            go_simp
            with_reducible rfl
           rotate_left
           ·
            simp only [Act.put, List.setIfInBounds_toArray, List.set_cons_zero, List.set_cons_succ, i64_w, i32_w]
            rfl
           refine pure_ (i := 16) (N := some 9) (v := ?_) (a' := ?_) #[true, true, true, true, true, true, true, true, true, true, true, true, true, true, true, true, true, false] rfl rfl (any_of HT_.out (by kernel_rfl)) (fun _ _ _ h => h) (Or.inl ⟨by rfl, ?_⟩) ?_ ?_
           rotate_left
           ·
            intro w'
            go_simp
            with_reducible rfl
           rotate_left
           ·
            simp only [Act.put, List.setIfInBounds_toArray, List.set_cons_zero, List.set_cons_succ, i64_w, i32_w]
            rfl
           refine pure_ (i := 17) (N := some 10) (v := ?_) (a' := ?_) #[true, true, true, true, true, true, true, true, true, true, true, true, true, true, true, true, true, true] rfl rfl (any_of HT_.out (by kernel_rfl)) (fun _ _ _ h => h) (Or.inl ⟨by rfl, ?_⟩) ?_ ?_
           rotate_left
           ·
            intro w'
            go_simp
            with_reducible rfl
           rotate_left
           ·
            simp only [Act.put, List.setIfInBounds_toArray, List.set_cons_zero, List.set_cons_succ, i64_w, i32_w]
            rfl
           refine done_ (done_of HT_.out (by kernel_rfl)) ?_
           try go_wp2
           go_meet
           case rel => exact ⟨HO248, HO251, HO254, HO265, HR258, HR262, HB⟩
         ·
          refine value_ (w1 := ?_) (v := ?_) (by rfl) rfl ?_ ?_
          rotate_left 2
          ·
           go_simp
           constructor
           ·
            rfl
           ·
            rfl
          refine hK.out _ _ trivial (fun hHeld => ?_)
          clear hK K
          have HL71 := Aside0.mk (lit3 HC258.out HR258.out HC262.out HR262.out HCa.out (Kd.R_reads' HO248.out).2.2)
          have hb : Below w41.heap.size w41 (w41.alloc (.cells #[.slice A28 y255.length c28, .slice Ao26 y259.length co26, .slice Ao26 t246.length co26] 38 (0, 0))) := below_alloc (Below.refl _ _) _
          generalize w41.alloc (.cells #[.slice A28 y255.length c28, .slice Ao26 y259.length co26, .slice Ao26 t246.length co26] 38 (0, 0)) = w49 at hb HL71 hHeld ⊢
          have n_HO248 := Aside0.mk (Kd.R_below HO248.out hb)
          have n_HR258 := Aside0.mk (Kd.C_below HR258.out hb)
          have n_HR262 := Aside0.mk (Kd.C_below HR262.out hb)
          have n_HO251 := Aside0.mk (Kd.R_below HO251.out hb)
          have n_HB := Aside0.mk (below_step HB.out hb)
          clear HO248 HR258 HR262 HO251 HB hb
          have HO248 := n_HO248
          have HR258 := n_HR258
          have HR262 := n_HR262
          have HO251 := n_HO251
          have HB := n_HB
          clear n_HO248 n_HR258 n_HR262 n_HO251 n_HB
          refine norm_ (a' := ?_) ?_ ?_
          rotate_left
          ·
           show Act.put _ (some 71) _ = _
           simp only [Act.put, List.setIfInBounds_toArray, List.set_cons_zero, List.set_cons_succ, i64_w, i32_w]
           rfl
          refine one_ (i := 4) (N := some 62) #[true, true, true, true, true, false, true, true, true, true, true, true, true, true, false, false, false, false] rfl rfl (one_of HT_.out (by kernel_rfl)) (by decide) (fun K hK => ?_)
          refine value_ (w1 := ?_) (v := ?_) (by rfl) rfl ?_ ?_
          rotate_left 2
          ·
           go_simp
           constructor
           ·
            rfl
           ·
            rfl
          refine hK.out _ _ trivial (fun hHeld => ?_)
          clear hK K
          have HL62 := Aside0.mk (lit2 HCa.out (Kd.R_reads' HO248.out).2.2 HCa.out (Kd.R_reads' HO248.out).2.2)
          have hb : Below w49.heap.size w49 (w49.alloc (.cells #[.slice Ao26 t246.length co26, .slice Ao26 t246.length co26] 38 (0, 0))) := below_alloc (Below.refl _ _) _
          generalize w49.alloc (.cells #[.slice Ao26 t246.length co26, .slice Ao26 t246.length co26] 38 (0, 0)) = w50 at hb HL62 hHeld ⊢
          have n_HO248 := Aside0.mk (Kd.R_below HO248.out hb)
          have n_HR258 := Aside0.mk (Kd.C_below HR258.out hb)
          have n_HR262 := Aside0.mk (Kd.C_below HR262.out hb)
          have n_HO251 := Aside0.mk (Kd.R_below HO251.out hb)
          have n_HL71 := Aside0.mk (Kd.C_below HL71.out hb)
          have n_HB := Aside0.mk (below_step HB.out hb)
          clear HO248 HR258 HR262 HO251 HL71 HB hb
          have HO248 := n_HO248
          have HR258 := n_HR258
          have HR262 := n_HR262
          have HO251 := n_HO251
          have HL71 := n_HL71
          have HB := n_HB
          clear n_HO248 n_HR258 n_HR262 n_HO251 n_HL71 n_HB
          refine norm_ (a' := ?_) ?_ ?_
          rotate_left
          ·
           show Act.put _ (some 62) _ = _
           simp only [Act.put, List.setIfInBounds_toArray, List.set_cons_zero, List.set_cons_succ, i64_w, i32_w]
           rfl
          refine one_ (i := 5) (N := some 63) #[true, true, true, true, true, true, true, true, true, true, true, true, true, true, false, false, false, false] rfl rfl (one_of HT_.out (by kernel_rfl)) (by decide) (fun K hK => ?_)
          refine goes_ Try.func17 (by kernel_rfl) rfl #[.slice (some ⟨w49.heap.size, 0, none⟩) 2 2] (by rfl) rfl rfl (by (try simp only [List.map_toArray, List.map_cons, List.map_nil]); first | done | rfl) ?_
          refine (merge_Merge.calls _ _ [t246, t246] t252 _ HL62.out (Nat.le_refl _) A16.out).mono ?_
          rintro e w51 ⟨v253, rfl, ho0, hb⟩
          refine ⟨_, rfl, ?_⟩
          have HO254 := Aside0.mk (Kd.R_lower ho0 (below_size HB.out))
          clear ho0
          have n_HO248 := Aside0.mk (Kd.R_below HO248.out hb)
          have n_HR258 := Aside0.mk (Kd.C_below HR258.out hb)
          have n_HR262 := Aside0.mk (Kd.C_below HR262.out hb)
          have n_HO251 := Aside0.mk (Kd.R_below HO251.out hb)
          have n_HL71 := Aside0.mk (Kd.C_below HL71.out hb)
          have n_HL62 := Aside0.mk (Kd.C_below HL62.out hb)
          have n_HB := Aside0.mk (below_step HB.out hb)
          clear HO248 HR258 HR262 HO251 HL71 HL62 HB hb
          have HO248 := n_HO248
          have HR258 := n_HR258
          have HR262 := n_HR262
          have HO251 := n_HO251
          have HL71 := n_HL71
          have HL62 := n_HL62
          have HB := n_HB
          clear n_HO248 n_HR258 n_HR262 n_HO251 n_HL71 n_HL62 n_HB
          refine hK.out _ _ trivial (fun hHeld => ?_)
          clear hK K
          refine norm_ (a' := ?_) ?_ ?_
          rotate_left
          ·
           show Act.put _ (some 63) _ = _
           simp only [Act.put, List.setIfInBounds_toArray, List.set_cons_zero, List.set_cons_succ, i64_w, i32_w]
           rfl
          refine one_ (i := 14) (N := some 72) #[true, true, true, true, true, true, true, true, true, true, true, true, true, true, true, false, false, false] rfl rfl (one_of HT_.out (by kernel_rfl)) (by decide) (fun K hK => ?_)
          refine goes_ Try.func17 (by kernel_rfl) rfl #[.slice (some ⟨w41.heap.size, 0, none⟩) 3 3] (by rfl) rfl rfl (by (try simp only [List.map_toArray, List.map_cons, List.map_nil]); first | done | rfl) ?_
          refine (merge_Merge.calls _ _ [y255, y259, t246] t263 _ HL71.out (Nat.le_refl _) A22.out).mono ?_
          rintro e w52 ⟨v264, rfl, ho0, hb⟩
          refine ⟨_, rfl, ?_⟩
          have HO265 := Aside0.mk (Kd.R_lower ho0 (below_size HB.out))
          clear ho0
          have n_HO248 := Aside0.mk (Kd.R_below HO248.out hb)
          have n_HR258 := Aside0.mk (Kd.C_below HR258.out hb)
          have n_HR262 := Aside0.mk (Kd.C_below HR262.out hb)
          have n_HO251 := Aside0.mk (Kd.R_below HO251.out hb)
          have n_HL71 := Aside0.mk (Kd.C_below HL71.out hb)
          have n_HL62 := Aside0.mk (Kd.C_below HL62.out hb)
          have n_HO254 := Aside0.mk (Kd.R_below HO254.out hb)
          have n_HB := Aside0.mk (below_step HB.out hb)
          clear HO248 HR258 HR262 HO251 HL71 HL62 HO254 HB hb
          have HO248 := n_HO248
          have HR258 := n_HR258
          have HR262 := n_HR262
          have HO251 := n_HO251
          have HL71 := n_HL71
          have HL62 := n_HL62
          have HO254 := n_HO254
          have HB := n_HB
          clear n_HO248 n_HR258 n_HR262 n_HO251 n_HL71 n_HL62 n_HO254 n_HB
          refine hK.out _ _ trivial (fun hHeld => ?_)
          clear hK K
          refine norm_ (a' := ?_) ?_ ?_
          rotate_left
          ·
           show Act.put _ (some 72) _ = _
           simp only [Act.put, List.setIfInBounds_toArray, List.set_cons_zero, List.set_cons_succ, i64_w, i32_w]
           rfl
          refine pure_ (i := 15) (N := some 8) (v := ?_) (a' := ?_) #[true, true, true, true, true, true, true, true, true, true, true, true, true, true, true, true, false, false] rfl rfl (any_of HT_.out (by kernel_rfl)) (fun _ _ _ h => h) (Or.inl ⟨by rfl, ?_⟩) ?_ ?_
          rotate_left
          ·
           intro w'
           go_simp
           with_reducible rfl
          rotate_left
          ·
           simp only [Act.put, List.setIfInBounds_toArray, List.set_cons_zero, List.set_cons_succ, i64_w, i32_w]
           rfl
          refine pure_ (i := 16) (N := some 9) (v := ?_) (a' := ?_) #[true, true, true, true, true, true, true, true, true, true, true, true, true, true, true, true, true, false] rfl rfl (any_of HT_.out (by kernel_rfl)) (fun _ _ _ h => h) (Or.inl ⟨by rfl, ?_⟩) ?_ ?_
          rotate_left
          ·
           intro w'
           go_simp
           with_reducible rfl
          rotate_left
          ·
           simp only [Act.put, List.setIfInBounds_toArray, List.set_cons_zero, List.set_cons_succ, i64_w, i32_w]
           rfl
          refine pure_ (i := 17) (N := some 10) (v := ?_) (a' := ?_) #[true, true, true, true, true, true, true, true, true, true, true, true, true, true, true, true, true, true] rfl rfl (any_of HT_.out (by kernel_rfl)) (fun _ _ _ h => h) (Or.inl ⟨by rfl, ?_⟩) ?_ ?_
          rotate_left
          ·
           intro w'
           go_simp
           with_reducible rfl
          rotate_left
          ·
           simp only [Act.put, List.setIfInBounds_toArray, List.set_cons_zero, List.set_cons_succ, i64_w, i32_w]
           rfl
          refine done_ (done_of HT_.out (by kernel_rfl)) ?_
          try go_wp2
          go_meet
          case rel => exact ⟨HO248, HO251, HO254, HO265, HR258, HR262, HB⟩
        ·
         refine value_ (w1 := ?_) (v := ?_) (by rfl) rfl ?_ ?_
         rotate_left 2
         ·
          go_simp
          constructor
          ·
           rfl
          ·
           rfl
         refine hK.out _ _ trivial (fun hHeld => ?_)
         clear hK K
         have HL62 := Aside0.mk (lit2 HCa.out (Kd.R_reads' HO248.out).2.2 HCa.out (Kd.R_reads' HO248.out).2.2)
         have hb : Below w27.heap.size w27 (w27.alloc (.cells #[.slice Ao26 t246.length co26, .slice Ao26 t246.length co26] 38 (0, 0))) := below_alloc (Below.refl _ _) _
         generalize w27.alloc (.cells #[.slice Ao26 t246.length co26, .slice Ao26 t246.length co26] 38 (0, 0)) = w53 at hb HL62 hHeld ⊢
         have n_HO248 := Aside0.mk (Kd.R_below HO248.out hb)
         have n_HR258 := Aside0.mk (Kd.C_below HR258.out hb)
         have n_HR262 := Aside0.mk (Kd.C_below HR262.out hb)
         have n_HB := Aside0.mk (below_step HB.out hb)
         clear HO248 HR258 HR262 HB hb
         have HO248 := n_HO248
         have HR258 := n_HR258
         have HR262 := n_HR262
         have HB := n_HB
         clear n_HO248 n_HR258 n_HR262 n_HB
         refine norm_ (a' := ?_) ?_ ?_
         rotate_left
         ·
          show Act.put _ (some 62) _ = _
          simp only [Act.put, List.setIfInBounds_toArray, List.set_cons_zero, List.set_cons_succ, i64_w, i32_w]
          rfl
         refine two_ (i := 1) (j := 13) (Ni := some 59) (Nj := some 71) #[true, true, true, true, true, false, true, true, true, true, true, true, true, false, false, false, false, false] #[true, false, true, true, true, false, true, true, true, true, true, true, true, true, false, false, false, false] rfl rfl rfl rfl (two_of HT_.out (by kernel_rfl)) (by decide) (by decide) (fun K hK => ?_) (fun K hK => ?_)
         ·
          refine goes_ Try.func13 (by kernel_rfl) rfl #[.slice Ao26 t246.length co26] (by rfl) rfl rfl (by (try simp only [List.map_toArray, List.map_cons, List.map_nil]); first | done | rfl) ?_
          refine (merge_Sort.calls _ _ t246 t249 _ (Kd.R_reads' HO248.out).2.2 HCa.out A15.out).mono ?_
          rintro e w54 ⟨v250, rfl, ho0, hb⟩
          refine ⟨_, rfl, ?_⟩
          have HO251 := Aside0.mk (Kd.R_lower ho0 (below_size HB.out))
          clear ho0
          have n_HO248 := Aside0.mk (Kd.R_below HO248.out hb)
          have n_HR258 := Aside0.mk (Kd.C_below HR258.out hb)
          have n_HR262 := Aside0.mk (Kd.C_below HR262.out hb)
          have n_HL62 := Aside0.mk (Kd.C_below HL62.out hb)
          have n_HB := Aside0.mk (below_step HB.out hb)
          clear HO248 HR258 HR262 HL62 HB hb
          have HO248 := n_HO248
          have HR258 := n_HR258
          have HR262 := n_HR262
          have HL62 := n_HL62
          have HB := n_HB
          clear n_HO248 n_HR258 n_HR262 n_HL62 n_HB
          refine hK.out _ _ trivial (fun hHeld => ?_)
          clear hK K
          refine norm_ (a' := ?_) ?_ ?_
          rotate_left
          ·
           show Act.put _ (some 59) _ = _
           simp only [Act.put, List.setIfInBounds_toArray, List.set_cons_zero, List.set_cons_succ, i64_w, i32_w]
           rfl
          refine two_ (i := 5) (j := 13) (Ni := some 63) (Nj := some 71) #[true, true, true, true, true, true, true, true, true, true, true, true, true, false, false, false, false, false] #[true, true, true, true, true, false, true, true, true, true, true, true, true, true, false, false, false, false] rfl rfl rfl rfl (two_of HT_.out (by kernel_rfl)) (by decide) (by decide) (fun K hK => ?_) (fun K hK => ?_)
          ·
           refine goes_ Try.func17 (by kernel_rfl) rfl #[.slice (some ⟨w27.heap.size, 0, none⟩) 2 2] (by rfl) rfl rfl (by (try simp only [List.map_toArray, List.map_cons, List.map_nil]); first | done | rfl) ?_
           refine (merge_Merge.calls _ _ [t246, t246] t252 _ HL62.out (Nat.le_refl _) A16.out).mono ?_
           rintro e w55 ⟨v253, rfl, ho0, hb⟩
           refine ⟨_, rfl, ?_⟩
           have HO254 := Aside0.mk (Kd.R_lower ho0 (below_size HB.out))
           clear ho0
           have n_HO248 := Aside0.mk (Kd.R_below HO248.out hb)
           have n_HR258 := Aside0.mk (Kd.C_below HR258.out hb)
           have n_HR262 := Aside0.mk (Kd.C_below HR262.out hb)
           have n_HL62 := Aside0.mk (Kd.C_below HL62.out hb)
           have n_HO251 := Aside0.mk (Kd.R_below HO251.out hb)
           have n_HB := Aside0.mk (below_step HB.out hb)
           clear HO248 HR258 HR262 HL62 HO251 HB hb
           have HO248 := n_HO248
           have HR258 := n_HR258
           have HR262 := n_HR262
           have HL62 := n_HL62
           have HO251 := n_HO251
           have HB := n_HB
           clear n_HO248 n_HR258 n_HR262 n_HL62 n_HO251 n_HB
           refine hK.out _ _ trivial (fun hHeld => ?_)
           clear hK K
           refine norm_ (a' := ?_) ?_ ?_
           rotate_left
           ·
            show Act.put _ (some 63) _ = _
            simp only [Act.put, List.setIfInBounds_toArray, List.set_cons_zero, List.set_cons_succ, i64_w, i32_w]
            rfl
           refine one_ (i := 13) (N := some 71) #[true, true, true, true, true, true, true, true, true, true, true, true, true, true, false, false, false, false] rfl rfl (one_of HT_.out (by kernel_rfl)) (by decide) (fun K hK => ?_)
           refine value_ (w1 := ?_) (v := ?_) (by rfl) rfl ?_ ?_
           rotate_left 2
           ·
            go_simp
            constructor
            ·
             rfl
            ·
             rfl
           refine hK.out _ _ trivial (fun hHeld => ?_)
           clear hK K
           have HL71 := Aside0.mk (lit3 HC258.out HR258.out HC262.out HR262.out HCa.out (Kd.R_reads' HO248.out).2.2)
           have hb : Below w55.heap.size w55 (w55.alloc (.cells #[.slice A28 y255.length c28, .slice Ao26 y259.length co26, .slice Ao26 t246.length co26] 38 (0, 0))) := below_alloc (Below.refl _ _) _
           generalize w55.alloc (.cells #[.slice A28 y255.length c28, .slice Ao26 y259.length co26, .slice Ao26 t246.length co26] 38 (0, 0)) = w56 at hb HL71 hHeld ⊢
           have n_HO248 := Aside0.mk (Kd.R_below HO248.out hb)
           have n_HR258 := Aside0.mk (Kd.C_below HR258.out hb)
           have n_HR262 := Aside0.mk (Kd.C_below HR262.out hb)
           have n_HL62 := Aside0.mk (Kd.C_below HL62.out hb)
           have n_HO251 := Aside0.mk (Kd.R_below HO251.out hb)
           have n_HO254 := Aside0.mk (Kd.R_below HO254.out hb)
           have n_HB := Aside0.mk (below_step HB.out hb)
           clear HO248 HR258 HR262 HL62 HO251 HO254 HB hb
           have HO248 := n_HO248
           have HR258 := n_HR258
           have HR262 := n_HR262
           have HL62 := n_HL62
           have HO251 := n_HO251
           have HO254 := n_HO254
           have HB := n_HB
           clear n_HO248 n_HR258 n_HR262 n_HL62 n_HO251 n_HO254 n_HB
           refine norm_ (a' := ?_) ?_ ?_
           rotate_left
           ·
            show Act.put _ (some 71) _ = _
            simp only [Act.put, List.setIfInBounds_toArray, List.set_cons_zero, List.set_cons_succ, i64_w, i32_w]
            rfl
           refine one_ (i := 14) (N := some 72) #[true, true, true, true, true, true, true, true, true, true, true, true, true, true, true, false, false, false] rfl rfl (one_of HT_.out (by kernel_rfl)) (by decide) (fun K hK => ?_)
           refine goes_ Try.func17 (by kernel_rfl) rfl #[.slice (some ⟨w55.heap.size, 0, none⟩) 3 3] (by rfl) rfl rfl (by (try simp only [List.map_toArray, List.map_cons, List.map_nil]); first | done | rfl) ?_
           refine (merge_Merge.calls _ _ [y255, y259, t246] t263 _ HL71.out (Nat.le_refl _) A22.out).mono ?_
           rintro e w57 ⟨v264, rfl, ho0, hb⟩
           refine ⟨_, rfl, ?_⟩
           have HO265 := Aside0.mk (Kd.R_lower ho0 (below_size HB.out))
           clear ho0
           have n_HO248 := Aside0.mk (Kd.R_below HO248.out hb)
           have n_HR258 := Aside0.mk (Kd.C_below HR258.out hb)
           have n_HR262 := Aside0.mk (Kd.C_below HR262.out hb)
           have n_HL62 := Aside0.mk (Kd.C_below HL62.out hb)
           have n_HO251 := Aside0.mk (Kd.R_below HO251.out hb)
           have n_HO254 := Aside0.mk (Kd.R_below HO254.out hb)
           have n_HL71 := Aside0.mk (Kd.C_below HL71.out hb)
           have n_HB := Aside0.mk (below_step HB.out hb)
           clear HO248 HR258 HR262 HL62 HO251 HO254 HL71 HB hb
           have HO248 := n_HO248
           have HR258 := n_HR258
           have HR262 := n_HR262
           have HL62 := n_HL62
           have HO251 := n_HO251
           have HO254 := n_HO254
           have HL71 := n_HL71
           have HB := n_HB
           clear n_HO248 n_HR258 n_HR262 n_HL62 n_HO251 n_HO254 n_HL71 n_HB
           refine hK.out _ _ trivial (fun hHeld => ?_)
           clear hK K
           refine norm_ (a' := ?_) ?_ ?_
           rotate_left
           ·
            show Act.put _ (some 72) _ = _
            simp only [Act.put, List.setIfInBounds_toArray, List.set_cons_zero, List.set_cons_succ, i64_w, i32_w]
            rfl
           refine pure_ (i := 15) (N := some 8) (v := ?_) (a' := ?_) #[true, true, true, true, true, true, true, true, true, true, true, true, true, true, true, true, false, false] rfl rfl (any_of HT_.out (by kernel_rfl)) (fun _ _ _ h => h) (Or.inl ⟨by rfl, ?_⟩) ?_ ?_
           rotate_left
           ·
            intro w'
            go_simp
            with_reducible rfl
           rotate_left
           ·
            simp only [Act.put, List.setIfInBounds_toArray, List.set_cons_zero, List.set_cons_succ, i64_w, i32_w]
            rfl
           refine pure_ (i := 16) (N := some 9) (v := ?_) (a' := ?_) #[true, true, true, true, true, true, true, true, true, true, true, true, true, true, true, true, true, false] rfl rfl (any_of HT_.out (by kernel_rfl)) (fun _ _ _ h => h) (Or.inl ⟨by rfl, ?_⟩) ?_ ?_
           rotate_left
           ·
            intro w'
            go_simp
            with_reducible rfl
           rotate_left
           ·
            simp only [Act.put, List.setIfInBounds_toArray, List.set_cons_zero, List.set_cons_succ, i64_w, i32_w]
            rfl
           refine pure_ (i := 17) (N := some 10) (v := ?_) (a' := ?_) #[true, true, true, true, true, true, true, true, true, true, true, true, true, true, true, true, true, true] rfl rfl (any_of HT_.out (by kernel_rfl)) (fun _ _ _ h => h) (Or.inl ⟨by rfl, ?_⟩) ?_ ?_
           rotate_left
           ·
            intro w'
            go_simp
            with_reducible rfl
           rotate_left
           ·
            simp only [Act.put, List.setIfInBounds_toArray, List.set_cons_zero, List.set_cons_succ, i64_w, i32_w]
            rfl
           refine done_ (done_of HT_.out (by kernel_rfl)) ?_
           try go_wp2
           go_meet
           case rel => exact ⟨HO248, HO251, HO254, HO265, HR258, HR262, HB⟩
          ·
           refine value_ (w1 := ?_) (v := ?_) (by rfl) rfl ?_ ?_
           rotate_left 2
           ·
            go_simp
            constructor
            ·
             rfl
            ·
             rfl
           refine hK.out _ _ trivial (fun hHeld => ?_)
           clear hK K
           have HL71 := Aside0.mk (lit3 HC258.out HR258.out HC262.out HR262.out HCa.out (Kd.R_reads' HO248.out).2.2)
           have hb : Below w54.heap.size w54 (w54.alloc (.cells #[.slice A28 y255.length c28, .slice Ao26 y259.length co26, .slice Ao26 t246.length co26] 38 (0, 0))) := below_alloc (Below.refl _ _) _
           generalize w54.alloc (.cells #[.slice A28 y255.length c28, .slice Ao26 y259.length co26, .slice Ao26 t246.length co26] 38 (0, 0)) = w58 at hb HL71 hHeld ⊢
           have n_HO248 := Aside0.mk (Kd.R_below HO248.out hb)
           have n_HR258 := Aside0.mk (Kd.C_below HR258.out hb)
           have n_HR262 := Aside0.mk (Kd.C_below HR262.out hb)
           have n_HL62 := Aside0.mk (Kd.C_below HL62.out hb)
           have n_HO251 := Aside0.mk (Kd.R_below HO251.out hb)
           have n_HB := Aside0.mk (below_step HB.out hb)
           clear HO248 HR258 HR262 HL62 HO251 HB hb
           have HO248 := n_HO248
           have HR258 := n_HR258
           have HR262 := n_HR262
           have HL62 := n_HL62
           have HO251 := n_HO251
           have HB := n_HB
           clear n_HO248 n_HR258 n_HR262 n_HL62 n_HO251 n_HB
           refine norm_ (a' := ?_) ?_ ?_
           rotate_left
           ·
            show Act.put _ (some 71) _ = _
            simp only [Act.put, List.setIfInBounds_toArray, List.set_cons_zero, List.set_cons_succ, i64_w, i32_w]
            rfl
           refine one_ (i := 5) (N := some 63) #[true, true, true, true, true, true, true, true, true, true, true, true, true, true, false, false, false, false] rfl rfl (one_of HT_.out (by kernel_rfl)) (by decide) (fun K hK => ?_)
           refine goes_ Try.func17 (by kernel_rfl) rfl #[.slice (some ⟨w27.heap.size, 0, none⟩) 2 2] (by rfl) rfl rfl (by (try simp only [List.map_toArray, List.map_cons, List.map_nil]); first | done | rfl) ?_
           refine (merge_Merge.calls _ _ [t246, t246] t252 _ HL62.out (Nat.le_refl _) A16.out).mono ?_
           rintro e w59 ⟨v253, rfl, ho0, hb⟩
           refine ⟨_, rfl, ?_⟩
           have HO254 := Aside0.mk (Kd.R_lower ho0 (below_size HB.out))
           clear ho0
           have n_HO248 := Aside0.mk (Kd.R_below HO248.out hb)
           have n_HR258 := Aside0.mk (Kd.C_below HR258.out hb)
           have n_HR262 := Aside0.mk (Kd.C_below HR262.out hb)
           have n_HL62 := Aside0.mk (Kd.C_below HL62.out hb)
           have n_HO251 := Aside0.mk (Kd.R_below HO251.out hb)
           have n_HL71 := Aside0.mk (Kd.C_below HL71.out hb)
           have n_HB := Aside0.mk (below_step HB.out hb)
           clear HO248 HR258 HR262 HL62 HO251 HL71 HB hb
           have HO248 := n_HO248
           have HR258 := n_HR258
           have HR262 := n_HR262
           have HL62 := n_HL62
           have HO251 := n_HO251
           have HL71 := n_HL71
           have HB := n_HB
           clear n_HO248 n_HR258 n_HR262 n_HL62 n_HO251 n_HL71 n_HB
           refine hK.out _ _ trivial (fun hHeld => ?_)
           clear hK K
           refine norm_ (a' := ?_) ?_ ?_
           rotate_left
           ·
            show Act.put _ (some 63) _ = _
            simp only [Act.put, List.setIfInBounds_toArray, List.set_cons_zero, List.set_cons_succ, i64_w, i32_w]
            rfl
           refine one_ (i := 14) (N := some 72) #[true, true, true, true, true, true, true, true, true, true, true, true, true, true, true, false, false, false] rfl rfl (one_of HT_.out (by kernel_rfl)) (by decide) (fun K hK => ?_)
           refine goes_ Try.func17 (by kernel_rfl) rfl #[.slice (some ⟨w54.heap.size, 0, none⟩) 3 3] (by rfl) rfl rfl (by (try simp only [List.map_toArray, List.map_cons, List.map_nil]); first | done | rfl) ?_
           refine (merge_Merge.calls _ _ [y255, y259, t246] t263 _ HL71.out (Nat.le_refl _) A22.out).mono ?_
           rintro e w60 ⟨v264, rfl, ho0, hb⟩
           refine ⟨_, rfl, ?_⟩
           have HO265 := Aside0.mk (Kd.R_lower ho0 (below_size HB.out))
           clear ho0
           have n_HO248 := Aside0.mk (Kd.R_below HO248.out hb)
           have n_HR258 := Aside0.mk (Kd.C_below HR258.out hb)
           have n_HR262 := Aside0.mk (Kd.C_below HR262.out hb)
           have n_HL62 := Aside0.mk (Kd.C_below HL62.out hb)
           have n_HO251 := Aside0.mk (Kd.R_below HO251.out hb)
           have n_HL71 := Aside0.mk (Kd.C_below HL71.out hb)
           have n_HO254 := Aside0.mk (Kd.R_below HO254.out hb)
           have n_HB := Aside0.mk (below_step HB.out hb)
           clear HO248 HR258 HR262 HL62 HO251 HL71 HO254 HB hb
           have HO248 := n_HO248
           have HR258 := n_HR258
           have HR262 := n_HR262
           have HL62 := n_HL62
           have HO251 := n_HO251
           have HL71 := n_HL71
           have HO254 := n_HO254
           have HB := n_HB
           clear n_HO248 n_HR258 n_HR262 n_HL62 n_HO251 n_HL71 n_HO254 n_HB
           refine hK.out _ _ trivial (fun hHeld => ?_)
           clear hK K
           refine norm_ (a' := ?_) ?_ ?_
           rotate_left
           ·
            show Act.put _ (some 72) _ = _
            simp only [Act.put, List.setIfInBounds_toArray, List.set_cons_zero, List.set_cons_succ, i64_w, i32_w]
            rfl
           refine pure_ (i := 15) (N := some 8) (v := ?_) (a' := ?_) #[true, true, true, true, true, true, true, true, true, true, true, true, true, true, true, true, false, false] rfl rfl (any_of HT_.out (by kernel_rfl)) (fun _ _ _ h => h) (Or.inl ⟨by rfl, ?_⟩) ?_ ?_
           rotate_left
           ·
            intro w'
            go_simp
            with_reducible rfl
           rotate_left
           ·
            simp only [Act.put, List.setIfInBounds_toArray, List.set_cons_zero, List.set_cons_succ, i64_w, i32_w]
            rfl
           refine pure_ (i := 16) (N := some 9) (v := ?_) (a' := ?_) #[true, true, true, true, true, true, true, true, true, true, true, true, true, true, true, true, true, false] rfl rfl (any_of HT_.out (by kernel_rfl)) (fun _ _ _ h => h) (Or.inl ⟨by rfl, ?_⟩) ?_ ?_
           rotate_left
           ·
            intro w'
            go_simp
            with_reducible rfl
           rotate_left
           ·
            simp only [Act.put, List.setIfInBounds_toArray, List.set_cons_zero, List.set_cons_succ, i64_w, i32_w]
            rfl
           refine pure_ (i := 17) (N := some 10) (v := ?_) (a' := ?_) #[true, true, true, true, true, true, true, true, true, true, true, true, true, true, true, true, true, true] rfl rfl (any_of HT_.out (by kernel_rfl)) (fun _ _ _ h => h) (Or.inl ⟨by rfl, ?_⟩) ?_ ?_
           rotate_left
           ·
            intro w'
            go_simp
            with_reducible rfl
           rotate_left
           ·
            simp only [Act.put, List.setIfInBounds_toArray, List.set_cons_zero, List.set_cons_succ, i64_w, i32_w]
            rfl
           refine done_ (done_of HT_.out (by kernel_rfl)) ?_
           try go_wp2
           go_meet
           case rel => exact ⟨HO248, HO251, HO254, HO265, HR258, HR262, HB⟩
         ·
          refine value_ (w1 := ?_) (v := ?_) (by rfl) rfl ?_ ?_
          rotate_left 2
          ·
           go_simp
           constructor
           ·
            rfl
           ·
            rfl
          refine hK.out _ _ trivial (fun hHeld => ?_)
          clear hK K
          have HL71 := Aside0.mk (lit3 HC258.out HR258.out HC262.out HR262.out HCa.out (Kd.R_reads' HO248.out).2.2)
          have hb : Below w53.heap.size w53 (w53.alloc (.cells #[.slice A28 y255.length c28, .slice Ao26 y259.length co26, .slice Ao26 t246.length co26] 38 (0, 0))) := below_alloc (Below.refl _ _) _
          generalize w53.alloc (.cells #[.slice A28 y255.length c28, .slice Ao26 y259.length co26, .slice Ao26 t246.length co26] 38 (0, 0)) = w61 at hb HL71 hHeld ⊢
          have n_HO248 := Aside0.mk (Kd.R_below HO248.out hb)
          have n_HR258 := Aside0.mk (Kd.C_below HR258.out hb)
          have n_HR262 := Aside0.mk (Kd.C_below HR262.out hb)
          have n_HL62 := Aside0.mk (Kd.C_below HL62.out hb)
          have n_HB := Aside0.mk (below_step HB.out hb)
          clear HO248 HR258 HR262 HL62 HB hb
          have HO248 := n_HO248
          have HR258 := n_HR258
          have HR262 := n_HR262
          have HL62 := n_HL62
          have HB := n_HB
          clear n_HO248 n_HR258 n_HR262 n_HL62 n_HB
          refine norm_ (a' := ?_) ?_ ?_
          rotate_left
          ·
           show Act.put _ (some 71) _ = _
           simp only [Act.put, List.setIfInBounds_toArray, List.set_cons_zero, List.set_cons_succ, i64_w, i32_w]
           rfl
          refine one_ (i := 1) (N := some 59) #[true, true, true, true, true, false, true, true, true, true, true, true, true, true, false, false, false, false] rfl rfl (one_of HT_.out (by kernel_rfl)) (by decide) (fun K hK => ?_)
          refine goes_ Try.func13 (by kernel_rfl) rfl #[.slice Ao26 t246.length co26] (by rfl) rfl rfl (by (try simp only [List.map_toArray, List.map_cons, List.map_nil]); first | done | rfl) ?_
          refine (merge_Sort.calls _ _ t246 t249 _ (Kd.R_reads' HO248.out).2.2 HCa.out A15.out).mono ?_
          rintro e w62 ⟨v250, rfl, ho0, hb⟩
          refine ⟨_, rfl, ?_⟩
          have HO251 := Aside0.mk (Kd.R_lower ho0 (below_size HB.out))
          clear ho0
          have n_HO248 := Aside0.mk (Kd.R_below HO248.out hb)
          have n_HR258 := Aside0.mk (Kd.C_below HR258.out hb)
          have n_HR262 := Aside0.mk (Kd.C_below HR262.out hb)
          have n_HL62 := Aside0.mk (Kd.C_below HL62.out hb)
          have n_HL71 := Aside0.mk (Kd.C_below HL71.out hb)
          have n_HB := Aside0.mk (below_step HB.out hb)
          clear HO248 HR258 HR262 HL62 HL71 HB hb
          have HO248 := n_HO248
          have HR258 := n_HR258
          have HR262 := n_HR262
          have HL62 := n_HL62
          have HL71 := n_HL71
          have HB := n_HB
          clear n_HO248 n_HR258 n_HR262 n_HL62 n_HL71 n_HB
          refine hK.out _ _ trivial (fun hHeld => ?_)
          clear hK K
          refine norm_ (a' := ?_) ?_ ?_
          rotate_left
          ·
           show Act.put _ (some 59) _ = _
           simp only [Act.put, List.setIfInBounds_toArray, List.set_cons_zero, List.set_cons_succ, i64_w, i32_w]
           rfl
          refine one_ (i := 5) (N := some 63) #[true, true, true, true, true, true, true, true, true, true, true, true, true, true, false, false, false, false] rfl rfl (one_of HT_.out (by kernel_rfl)) (by decide) (fun K hK => ?_)
          refine goes_ Try.func17 (by kernel_rfl) rfl #[.slice (some ⟨w27.heap.size, 0, none⟩) 2 2] (by rfl) rfl rfl (by (try simp only [List.map_toArray, List.map_cons, List.map_nil]); first | done | rfl) ?_
          refine (merge_Merge.calls _ _ [t246, t246] t252 _ HL62.out (Nat.le_refl _) A16.out).mono ?_
          rintro e w63 ⟨v253, rfl, ho0, hb⟩
          refine ⟨_, rfl, ?_⟩
          have HO254 := Aside0.mk (Kd.R_lower ho0 (below_size HB.out))
          clear ho0
          have n_HO248 := Aside0.mk (Kd.R_below HO248.out hb)
          have n_HR258 := Aside0.mk (Kd.C_below HR258.out hb)
          have n_HR262 := Aside0.mk (Kd.C_below HR262.out hb)
          have n_HL62 := Aside0.mk (Kd.C_below HL62.out hb)
          have n_HL71 := Aside0.mk (Kd.C_below HL71.out hb)
          have n_HO251 := Aside0.mk (Kd.R_below HO251.out hb)
          have n_HB := Aside0.mk (below_step HB.out hb)
          clear HO248 HR258 HR262 HL62 HL71 HO251 HB hb
          have HO248 := n_HO248
          have HR258 := n_HR258
          have HR262 := n_HR262
          have HL62 := n_HL62
          have HL71 := n_HL71
          have HO251 := n_HO251
          have HB := n_HB
          clear n_HO248 n_HR258 n_HR262 n_HL62 n_HL71 n_HO251 n_HB
          refine hK.out _ _ trivial (fun hHeld => ?_)
          clear hK K
          refine norm_ (a' := ?_) ?_ ?_
          rotate_left
          ·
           show Act.put _ (some 63) _ = _
           simp only [Act.put, List.setIfInBounds_toArray, List.set_cons_zero, List.set_cons_succ, i64_w, i32_w]
           rfl
          refine one_ (i := 14) (N := some 72) #[true, true, true, true, true, true, true, true, true, true, true, true, true, true, true, false, false, false] rfl rfl (one_of HT_.out (by kernel_rfl)) (by decide) (fun K hK => ?_)
          refine goes_ Try.func17 (by kernel_rfl) rfl #[.slice (some ⟨w53.heap.size, 0, none⟩) 3 3] (by rfl) rfl rfl (by (try simp only [List.map_toArray, List.map_cons, List.map_nil]); first | done | rfl) ?_
          refine (merge_Merge.calls _ _ [y255, y259, t246] t263 _ HL71.out (Nat.le_refl _) A22.out).mono ?_
          rintro e w64 ⟨v264, rfl, ho0, hb⟩
          refine ⟨_, rfl, ?_⟩
          have HO265 := Aside0.mk (Kd.R_lower ho0 (below_size HB.out))
          clear ho0
          have n_HO248 := Aside0.mk (Kd.R_below HO248.out hb)
          have n_HR258 := Aside0.mk (Kd.C_below HR258.out hb)
          have n_HR262 := Aside0.mk (Kd.C_below HR262.out hb)
          have n_HL62 := Aside0.mk (Kd.C_below HL62.out hb)
          have n_HL71 := Aside0.mk (Kd.C_below HL71.out hb)
          have n_HO251 := Aside0.mk (Kd.R_below HO251.out hb)
          have n_HO254 := Aside0.mk (Kd.R_below HO254.out hb)
          have n_HB := Aside0.mk (below_step HB.out hb)
          clear HO248 HR258 HR262 HL62 HL71 HO251 HO254 HB hb
          have HO248 := n_HO248
          have HR258 := n_HR258
          have HR262 := n_HR262
          have HL62 := n_HL62
          have HL71 := n_HL71
          have HO251 := n_HO251
          have HO254 := n_HO254
          have HB := n_HB
          clear n_HO248 n_HR258 n_HR262 n_HL62 n_HL71 n_HO251 n_HO254 n_HB
          refine hK.out _ _ trivial (fun hHeld => ?_)
          clear hK K
          refine norm_ (a' := ?_) ?_ ?_
          rotate_left
          ·
           show Act.put _ (some 72) _ = _
           simp only [Act.put, List.setIfInBounds_toArray, List.set_cons_zero, List.set_cons_succ, i64_w, i32_w]
           rfl
          refine pure_ (i := 15) (N := some 8) (v := ?_) (a' := ?_) #[true, true, true, true, true, true, true, true, true, true, true, true, true, true, true, true, false, false] rfl rfl (any_of HT_.out (by kernel_rfl)) (fun _ _ _ h => h) (Or.inl ⟨by rfl, ?_⟩) ?_ ?_
          rotate_left
          ·
           intro w'
           go_simp
           with_reducible rfl
          rotate_left
          ·
           simp only [Act.put, List.setIfInBounds_toArray, List.set_cons_zero, List.set_cons_succ, i64_w, i32_w]
           rfl
          refine pure_ (i := 16) (N := some 9) (v := ?_) (a' := ?_) #[true, true, true, true, true, true, true, true, true, true, true, true, true, true, true, true, true, false] rfl rfl (any_of HT_.out (by kernel_rfl)) (fun _ _ _ h => h) (Or.inl ⟨by rfl, ?_⟩) ?_ ?_
          rotate_left
          ·
           intro w'
           go_simp
           with_reducible rfl
          rotate_left
          ·
           simp only [Act.put, List.setIfInBounds_toArray, List.set_cons_zero, List.set_cons_succ, i64_w, i32_w]
           rfl
          refine pure_ (i := 17) (N := some 10) (v := ?_) (a' := ?_) #[true, true, true, true, true, true, true, true, true, true, true, true, true, true, true, true, true, true] rfl rfl (any_of HT_.out (by kernel_rfl)) (fun _ _ _ h => h) (Or.inl ⟨by rfl, ?_⟩) ?_ ?_
          rotate_left
          ·
           intro w'
           go_simp
           with_reducible rfl
          rotate_left
          ·
           simp only [Act.put, List.setIfInBounds_toArray, List.set_cons_zero, List.set_cons_succ, i64_w, i32_w]
           rfl
          refine done_ (done_of HT_.out (by kernel_rfl)) ?_
          try go_wp2
          go_meet
          case rel => exact ⟨HO248, HO251, HO254, HO265, HR258, HR262, HB⟩
        ·
         refine value_ (w1 := ?_) (v := ?_) (by rfl) rfl ?_ ?_
         rotate_left 2
         ·
          go_simp
          constructor
          ·
           rfl
          ·
           rfl
         refine hK.out _ _ trivial (fun hHeld => ?_)
         clear hK K
         have HL71 := Aside0.mk (lit3 HC258.out HR258.out HC262.out HR262.out HCa.out (Kd.R_reads' HO248.out).2.2)
         have hb : Below w27.heap.size w27 (w27.alloc (.cells #[.slice A28 y255.length c28, .slice Ao26 y259.length co26, .slice Ao26 t246.length co26] 38 (0, 0))) := below_alloc (Below.refl _ _) _
         generalize w27.alloc (.cells #[.slice A28 y255.length c28, .slice Ao26 y259.length co26, .slice Ao26 t246.length co26] 38 (0, 0)) = w65 at hb HL71 hHeld ⊢
         have n_HO248 := Aside0.mk (Kd.R_below HO248.out hb)
         have n_HR258 := Aside0.mk (Kd.C_below HR258.out hb)
         have n_HR262 := Aside0.mk (Kd.C_below HR262.out hb)
         have n_HB := Aside0.mk (below_step HB.out hb)
         clear HO248 HR258 HR262 HB hb
         have HO248 := n_HO248
         have HR258 := n_HR258
         have HR262 := n_HR262
         have HB := n_HB
         clear n_HO248 n_HR258 n_HR262 n_HB
         refine norm_ (a' := ?_) ?_ ?_
         rotate_left
         ·
          show Act.put _ (some 71) _ = _
          simp only [Act.put, List.setIfInBounds_toArray, List.set_cons_zero, List.set_cons_succ, i64_w, i32_w]
          rfl
         refine two_ (i := 1) (j := 4) (Ni := some 59) (Nj := some 62) #[true, true, true, true, false, false, true, true, true, true, true, true, true, true, false, false, false, false] #[true, false, true, true, true, false, true, true, true, true, true, true, true, true, false, false, false, false] rfl rfl rfl rfl (two_of HT_.out (by kernel_rfl)) (by decide) (by decide) (fun K hK => ?_) (fun K hK => ?_)
         ·
          refine goes_ Try.func13 (by kernel_rfl) rfl #[.slice Ao26 t246.length co26] (by rfl) rfl rfl (by (try simp only [List.map_toArray, List.map_cons, List.map_nil]); first | done | rfl) ?_
          refine (merge_Sort.calls _ _ t246 t249 _ (Kd.R_reads' HO248.out).2.2 HCa.out A15.out).mono ?_
          rintro e w66 ⟨v250, rfl, ho0, hb⟩
          refine ⟨_, rfl, ?_⟩
          have HO251 := Aside0.mk (Kd.R_lower ho0 (below_size HB.out))
          clear ho0
          have n_HO248 := Aside0.mk (Kd.R_below HO248.out hb)
          have n_HR258 := Aside0.mk (Kd.C_below HR258.out hb)
          have n_HR262 := Aside0.mk (Kd.C_below HR262.out hb)
          have n_HL71 := Aside0.mk (Kd.C_below HL71.out hb)
          have n_HB := Aside0.mk (below_step HB.out hb)
          clear HO248 HR258 HR262 HL71 HB hb
          have HO248 := n_HO248
          have HR258 := n_HR258
          have HR262 := n_HR262
          have HL71 := n_HL71
          have HB := n_HB
          clear n_HO248 n_HR258 n_HR262 n_HL71 n_HB
          refine hK.out _ _ trivial (fun hHeld => ?_)
          clear hK K
          refine norm_ (a' := ?_) ?_ ?_
          rotate_left
          ·
           show Act.put _ (some 59) _ = _
           simp only [Act.put, List.setIfInBounds_toArray, List.set_cons_zero, List.set_cons_succ, i64_w, i32_w]
           rfl
          refine one_ (i := 4) (N := some 62) #[true, true, true, true, true, false, true, true, true, true, true, true, true, true, false, false, false, false] rfl rfl (one_of HT_.out (by kernel_rfl)) (by decide) (fun K hK => ?_)
          refine value_ (w1 := ?_) (v := ?_) (by rfl) rfl ?_ ?_
          rotate_left 2
          ·
           go_simp
           constructor
           ·
            rfl
           ·
            rfl
          refine hK.out _ _ trivial (fun hHeld => ?_)
          clear hK K
          have HL62 := Aside0.mk (lit2 HCa.out (Kd.R_reads' HO248.out).2.2 HCa.out (Kd.R_reads' HO248.out).2.2)
          have hb : Below w66.heap.size w66 (w66.alloc (.cells #[.slice Ao26 t246.length co26, .slice Ao26 t246.length co26] 38 (0, 0))) := below_alloc (Below.refl _ _) _
          generalize w66.alloc (.cells #[.slice Ao26 t246.length co26, .slice Ao26 t246.length co26] 38 (0, 0)) = w67 at hb HL62 hHeld ⊢
          have n_HO248 := Aside0.mk (Kd.R_below HO248.out hb)
          have n_HR258 := Aside0.mk (Kd.C_below HR258.out hb)
          have n_HR262 := Aside0.mk (Kd.C_below HR262.out hb)
          have n_HL71 := Aside0.mk (Kd.C_below HL71.out hb)
          have n_HO251 := Aside0.mk (Kd.R_below HO251.out hb)
          have n_HB := Aside0.mk (below_step HB.out hb)
          clear HO248 HR258 HR262 HL71 HO251 HB hb
          have HO248 := n_HO248
          have HR258 := n_HR258
          have HR262 := n_HR262
          have HL71 := n_HL71
          have HO251 := n_HO251
          have HB := n_HB
          clear n_HO248 n_HR258 n_HR262 n_HL71 n_HO251 n_HB
          refine norm_ (a' := ?_) ?_ ?_
          rotate_left
          ·
           show Act.put _ (some 62) _ = _
           simp only [Act.put, List.setIfInBounds_toArray, List.set_cons_zero, List.set_cons_succ, i64_w, i32_w]
           rfl
          refine one_ (i := 5) (N := some 63) #[true, true, true, true, true, true, true, true, true, true, true, true, true, true, false, false, false, false] rfl rfl (one_of HT_.out (by kernel_rfl)) (by decide) (fun K hK => ?_)
          refine goes_ Try.func17 (by kernel_rfl) rfl #[.slice (some ⟨w66.heap.size, 0, none⟩) 2 2] (by rfl) rfl rfl (by (try simp only [List.map_toArray, List.map_cons, List.map_nil]); first | done | rfl) ?_
          refine (merge_Merge.calls _ _ [t246, t246] t252 _ HL62.out (Nat.le_refl _) A16.out).mono ?_
          rintro e w68 ⟨v253, rfl, ho0, hb⟩
          refine ⟨_, rfl, ?_⟩
          have HO254 := Aside0.mk (Kd.R_lower ho0 (below_size HB.out))
          clear ho0
          have n_HO248 := Aside0.mk (Kd.R_below HO248.out hb)
          have n_HR258 := Aside0.mk (Kd.C_below HR258.out hb)
          have n_HR262 := Aside0.mk (Kd.C_below HR262.out hb)
          have n_HL71 := Aside0.mk (Kd.C_below HL71.out hb)
          have n_HO251 := Aside0.mk (Kd.R_below HO251.out hb)
          have n_HL62 := Aside0.mk (Kd.C_below HL62.out hb)
          have n_HB := Aside0.mk (below_step HB.out hb)
          clear HO248 HR258 HR262 HL71 HO251 HL62 HB hb
          have HO248 := n_HO248
          have HR258 := n_HR258
          have HR262 := n_HR262
          have HL71 := n_HL71
          have HO251 := n_HO251
          have HL62 := n_HL62
          have HB := n_HB
          clear n_HO248 n_HR258 n_HR262 n_HL71 n_HO251 n_HL62 n_HB
          refine hK.out _ _ trivial (fun hHeld => ?_)
          clear hK K
          refine norm_ (a' := ?_) ?_ ?_
          rotate_left
          ·
           show Act.put _ (some 63) _ = _
           simp only [Act.put, List.setIfInBounds_toArray, List.set_cons_zero, List.set_cons_succ, i64_w, i32_w]
           rfl
          refine one_ (i := 14) (N := some 72) #[true, true, true, true, true, true, true, true, true, true, true, true, true, true, true, false, false, false] rfl rfl (one_of HT_.out (by kernel_rfl)) (by decide) (fun K hK => ?_)
          refine goes_ Try.func17 (by kernel_rfl) rfl #[.slice (some ⟨w27.heap.size, 0, none⟩) 3 3] (by rfl) rfl rfl (by (try simp only [List.map_toArray, List.map_cons, List.map_nil]); first | done | rfl) ?_
          refine (merge_Merge.calls _ _ [y255, y259, t246] t263 _ HL71.out (Nat.le_refl _) A22.out).mono ?_
          rintro e w69 ⟨v264, rfl, ho0, hb⟩
          refine ⟨_, rfl, ?_⟩
          have HO265 := Aside0.mk (Kd.R_lower ho0 (below_size HB.out))
          clear ho0
          have n_HO248 := Aside0.mk (Kd.R_below HO248.out hb)
          have n_HR258 := Aside0.mk (Kd.C_below HR258.out hb)
          have n_HR262 := Aside0.mk (Kd.C_below HR262.out hb)
          have n_HL71 := Aside0.mk (Kd.C_below HL71.out hb)
          have n_HO251 := Aside0.mk (Kd.R_below HO251.out hb)
          have n_HL62 := Aside0.mk (Kd.C_below HL62.out hb)
          have n_HO254 := Aside0.mk (Kd.R_below HO254.out hb)
          have n_HB := Aside0.mk (below_step HB.out hb)
          clear HO248 HR258 HR262 HL71 HO251 HL62 HO254 HB hb
          have HO248 := n_HO248
          have HR258 := n_HR258
          have HR262 := n_HR262
          have HL71 := n_HL71
          have HO251 := n_HO251
          have HL62 := n_HL62
          have HO254 := n_HO254
          have HB := n_HB
          clear n_HO248 n_HR258 n_HR262 n_HL71 n_HO251 n_HL62 n_HO254 n_HB
          refine hK.out _ _ trivial (fun hHeld => ?_)
          clear hK K
          refine norm_ (a' := ?_) ?_ ?_
          rotate_left
          ·
           show Act.put _ (some 72) _ = _
           simp only [Act.put, List.setIfInBounds_toArray, List.set_cons_zero, List.set_cons_succ, i64_w, i32_w]
           rfl
          refine pure_ (i := 15) (N := some 8) (v := ?_) (a' := ?_) #[true, true, true, true, true, true, true, true, true, true, true, true, true, true, true, true, false, false] rfl rfl (any_of HT_.out (by kernel_rfl)) (fun _ _ _ h => h) (Or.inl ⟨by rfl, ?_⟩) ?_ ?_
          rotate_left
          ·
           intro w'
           go_simp
           with_reducible rfl
          rotate_left
          ·
           simp only [Act.put, List.setIfInBounds_toArray, List.set_cons_zero, List.set_cons_succ, i64_w, i32_w]
           rfl
          refine pure_ (i := 16) (N := some 9) (v := ?_) (a' := ?_) #[true, true, true, true, true, true, true, true, true, true, true, true, true, true, true, true, true, false] rfl rfl (any_of HT_.out (by kernel_rfl)) (fun _ _ _ h => h) (Or.inl ⟨by rfl, ?_⟩) ?_ ?_
          rotate_left
          ·
           intro w'
           go_simp
           with_reducible rfl
          rotate_left
          ·
           simp only [Act.put, List.setIfInBounds_toArray, List.set_cons_zero, List.set_cons_succ, i64_w, i32_w]
           rfl
          refine pure_ (i := 17) (N := some 10) (v := ?_) (a' := ?_) #[true, true, true, true, true, true, true, true, true, true, true, true, true, true, true, true, true, true] rfl rfl (any_of HT_.out (by kernel_rfl)) (fun _ _ _ h => h) (Or.inl ⟨by rfl, ?_⟩) ?_ ?_
          rotate_left
          ·
           intro w'
           go_simp
           with_reducible rfl
          rotate_left
          ·
           simp only [Act.put, List.setIfInBounds_toArray, List.set_cons_zero, List.set_cons_succ, i64_w, i32_w]
           rfl
          refine done_ (done_of HT_.out (by kernel_rfl)) ?_
          try go_wp2
          go_meet
          case rel => exact ⟨HO248, HO251, HO254, HO265, HR258, HR262, HB⟩
         ·
          refine value_ (w1 := ?_) (v := ?_) (by rfl) rfl ?_ ?_
          rotate_left 2
          ·
           go_simp
           constructor
           ·
            rfl
           ·
            rfl
          refine hK.out _ _ trivial (fun hHeld => ?_)
          clear hK K
          have HL62 := Aside0.mk (lit2 HCa.out (Kd.R_reads' HO248.out).2.2 HCa.out (Kd.R_reads' HO248.out).2.2)
          have hb : Below w65.heap.size w65 (w65.alloc (.cells #[.slice Ao26 t246.length co26, .slice Ao26 t246.length co26] 38 (0, 0))) := below_alloc (Below.refl _ _) _
          generalize w65.alloc (.cells #[.slice Ao26 t246.length co26, .slice Ao26 t246.length co26] 38 (0, 0)) = w70 at hb HL62 hHeld ⊢
          have n_HO248 := Aside0.mk (Kd.R_below HO248.out hb)
          have n_HR258 := Aside0.mk (Kd.C_below HR258.out hb)
          have n_HR262 := Aside0.mk (Kd.C_below HR262.out hb)
          have n_HL71 := Aside0.mk (Kd.C_below HL71.out hb)
          have n_HB := Aside0.mk (below_step HB.out hb)
          clear HO248 HR258 HR262 HL71 HB hb
          have HO248 := n_HO248
          have HR258 := n_HR258
          have HR262 := n_HR262
          have HL71 := n_HL71
          have HB := n_HB
          clear n_HO248 n_HR258 n_HR262 n_HL71 n_HB
          refine norm_ (a' := ?_) ?_ ?_
          rotate_left
          ·
           show Act.put _ (some 62) _ = _
           simp only [Act.put, List.setIfInBounds_toArray, List.set_cons_zero, List.set_cons_succ, i64_w, i32_w]
           rfl
          refine one_ (i := 1) (N := some 59) #[true, true, true, true, true, false, true, true, true, true, true, true, true, true, false, false, false, false] rfl rfl (one_of HT_.out (by kernel_rfl)) (by decide) (fun K hK => ?_)
          refine goes_ Try.func13 (by kernel_rfl) rfl #[.slice Ao26 t246.length co26] (by rfl) rfl rfl (by (try simp only [List.map_toArray, List.map_cons, List.map_nil]); first | done | rfl) ?_
          refine (merge_Sort.calls _ _ t246 t249 _ (Kd.R_reads' HO248.out).2.2 HCa.out A15.out).mono ?_
          rintro e w71 ⟨v250, rfl, ho0, hb⟩
          refine ⟨_, rfl, ?_⟩
          have HO251 := Aside0.mk (Kd.R_lower ho0 (below_size HB.out))
          clear ho0
          have n_HO248 := Aside0.mk (Kd.R_below HO248.out hb)
          have n_HR258 := Aside0.mk (Kd.C_below HR258.out hb)
          have n_HR262 := Aside0.mk (Kd.C_below HR262.out hb)
          have n_HL71 := Aside0.mk (Kd.C_below HL71.out hb)
          have n_HL62 := Aside0.mk (Kd.C_below HL62.out hb)
          have n_HB := Aside0.mk (below_step HB.out hb)
          clear HO248 HR258 HR262 HL71 HL62 HB hb
          have HO248 := n_HO248
          have HR258 := n_HR258
          have HR262 := n_HR262
          have HL71 := n_HL71
          have HL62 := n_HL62
          have HB := n_HB
          clear n_HO248 n_HR258 n_HR262 n_HL71 n_HL62 n_HB
          refine hK.out _ _ trivial (fun hHeld => ?_)
          clear hK K
          refine norm_ (a' := ?_) ?_ ?_
          rotate_left
          ·
           show Act.put _ (some 59) _ = _
           simp only [Act.put, List.setIfInBounds_toArray, List.set_cons_zero, List.set_cons_succ, i64_w, i32_w]
           rfl
          refine one_ (i := 5) (N := some 63) #[true, true, true, true, true, true, true, true, true, true, true, true, true, true, false, false, false, false] rfl rfl (one_of HT_.out (by kernel_rfl)) (by decide) (fun K hK => ?_)
          refine goes_ Try.func17 (by kernel_rfl) rfl #[.slice (some ⟨w65.heap.size, 0, none⟩) 2 2] (by rfl) rfl rfl (by (try simp only [List.map_toArray, List.map_cons, List.map_nil]); first | done | rfl) ?_
          refine (merge_Merge.calls _ _ [t246, t246] t252 _ HL62.out (Nat.le_refl _) A16.out).mono ?_
          rintro e w72 ⟨v253, rfl, ho0, hb⟩
          refine ⟨_, rfl, ?_⟩
          have HO254 := Aside0.mk (Kd.R_lower ho0 (below_size HB.out))
          clear ho0
          have n_HO248 := Aside0.mk (Kd.R_below HO248.out hb)
          have n_HR258 := Aside0.mk (Kd.C_below HR258.out hb)
          have n_HR262 := Aside0.mk (Kd.C_below HR262.out hb)
          have n_HL71 := Aside0.mk (Kd.C_below HL71.out hb)
          have n_HL62 := Aside0.mk (Kd.C_below HL62.out hb)
          have n_HO251 := Aside0.mk (Kd.R_below HO251.out hb)
          have n_HB := Aside0.mk (below_step HB.out hb)
          clear HO248 HR258 HR262 HL71 HL62 HO251 HB hb
          have HO248 := n_HO248
          have HR258 := n_HR258
          have HR262 := n_HR262
          have HL71 := n_HL71
          have HL62 := n_HL62
          have HO251 := n_HO251
          have HB := n_HB
          clear n_HO248 n_HR258 n_HR262 n_HL71 n_HL62 n_HO251 n_HB
          refine hK.out _ _ trivial (fun hHeld => ?_)
          clear hK K
          refine norm_ (a' := ?_) ?_ ?_
          rotate_left
          ·
           show Act.put _ (some 63) _ = _
           simp only [Act.put, List.setIfInBounds_toArray, List.set_cons_zero, List.set_cons_succ, i64_w, i32_w]
           rfl
          refine one_ (i := 14) (N := some 72) #[true, true, true, true, true, true, true, true, true, true, true, true, true, true, true, false, false, false] rfl rfl (one_of HT_.out (by kernel_rfl)) (by decide) (fun K hK => ?_)
          refine goes_ Try.func17 (by kernel_rfl) rfl #[.slice (some ⟨w27.heap.size, 0, none⟩) 3 3] (by rfl) rfl rfl (by (try simp only [List.map_toArray, List.map_cons, List.map_nil]); first | done | rfl) ?_
          refine (merge_Merge.calls _ _ [y255, y259, t246] t263 _ HL71.out (Nat.le_refl _) A22.out).mono ?_
          rintro e w73 ⟨v264, rfl, ho0, hb⟩
          refine ⟨_, rfl, ?_⟩
          have HO265 := Aside0.mk (Kd.R_lower ho0 (below_size HB.out))
          clear ho0
          have n_HO248 := Aside0.mk (Kd.R_below HO248.out hb)
          have n_HR258 := Aside0.mk (Kd.C_below HR258.out hb)
          have n_HR262 := Aside0.mk (Kd.C_below HR262.out hb)
          have n_HL71 := Aside0.mk (Kd.C_below HL71.out hb)
          have n_HL62 := Aside0.mk (Kd.C_below HL62.out hb)
          have n_HO251 := Aside0.mk (Kd.R_below HO251.out hb)
          have n_HO254 := Aside0.mk (Kd.R_below HO254.out hb)
          have n_HB := Aside0.mk (below_step HB.out hb)
          clear HO248 HR258 HR262 HL71 HL62 HO251 HO254 HB hb
          have HO248 := n_HO248
          have HR258 := n_HR258
          have HR262 := n_HR262
          have HL71 := n_HL71
          have HL62 := n_HL62
          have HO251 := n_HO251
          have HO254 := n_HO254
          have HB := n_HB
          clear n_HO248 n_HR258 n_HR262 n_HL71 n_HL62 n_HO251 n_HO254 n_HB
          refine hK.out _ _ trivial (fun hHeld => ?_)
          clear hK K
          refine norm_ (a' := ?_) ?_ ?_
          rotate_left
          ·
           show Act.put _ (some 72) _ = _
           simp only [Act.put, List.setIfInBounds_toArray, List.set_cons_zero, List.set_cons_succ, i64_w, i32_w]
           rfl
          refine pure_ (i := 15) (N := some 8) (v := ?_) (a' := ?_) #[true, true, true, true, true, true, true, true, true, true, true, true, true, true, true, true, false, false] rfl rfl (any_of HT_.out (by kernel_rfl)) (fun _ _ _ h => h) (Or.inl ⟨by rfl, ?_⟩) ?_ ?_
          rotate_left
          ·
           intro w'
           go_simp
           with_reducible rfl
          rotate_left
          ·
           simp only [Act.put, List.setIfInBounds_toArray, List.set_cons_zero, List.set_cons_succ, i64_w, i32_w]
           rfl
          refine pure_ (i := 16) (N := some 9) (v := ?_) (a' := ?_) #[true, true, true, true, true, true, true, true, true, true, true, true, true, true, true, true, true, false] rfl rfl (any_of HT_.out (by kernel_rfl)) (fun _ _ _ h => h) (Or.inl ⟨by rfl, ?_⟩) ?_ ?_
          rotate_left
          ·
           intro w'
           go_simp
           with_reducible rfl
          rotate_left
          ·
           simp only [Act.put, List.setIfInBounds_toArray, List.set_cons_zero, List.set_cons_succ, i64_w, i32_w]
           rfl
          refine pure_ (i := 17) (N := some 10) (v := ?_) (a' := ?_) #[true, true, true, true, true, true, true, true, true, true, true, true, true, true, true, true, true, true] rfl rfl (any_of HT_.out (by kernel_rfl)) (fun _ _ _ h => h) (Or.inl ⟨by rfl, ?_⟩) ?_ ?_
          rotate_left
          ·
           intro w'
           go_simp
           with_reducible rfl
          rotate_left
          ·
           simp only [Act.put, List.setIfInBounds_toArray, List.set_cons_zero, List.set_cons_succ, i64_w, i32_w]
           rfl
          refine done_ (done_of HT_.out (by kernel_rfl)) ?_
          try go_wp2
          go_meet
          case rel => exact ⟨HO248, HO251, HO254, HO265, HR258, HR262, HB⟩
       case rest =>
        obtain ⟨HO248, HO251, HO254, HO265, HR258, HR262, HB⟩ := hcut
        go_upto_region 11 with (fail)
        go_cut [91] (fun v91 wc => ∃ (kq : Nat) (x91_22 : Bool), v91 = .bool x91_22 ∧ Aside0 (beadlelaw06_MergeAgain.j2 kq t246 t249 t252 t263 x91_22 = some true) ∧ Aside0 (kq ≤ kj4) ∧ Aside0 (Kd.R k27 27 wc w.heap.size (fun _ => True) (.slice Ao26 t246.length co26) t246) ∧ Aside0 (Kd.R k27 27 wc w.heap.size (fun _ => True) u8 t249) ∧ Aside0 (Kd.R k27 27 wc w.heap.size (fun _ => True) u9 t252) ∧ Aside0 (Kd.R k27 27 wc w.heap.size (fun _ => True) u10 t263) ∧ Aside0 (Kd.C k27 wc A28 y255.length y255) ∧ Aside0 (Kd.C k27 wc Ao26 y259.length y259) ∧ Aside0 (Below w.heap.size w wc))
        case first =>
         have H := HC23.out
         clear HC23
         by_cases c33 : (t249.length : Int) = (t246.length : Int)
         ·
          rw [if_pos c33] at H
          have c33b0 : ((t249.length : Int) == (t246.length : Int)) = true := beq_iff_eq.mpr c33
          have c33b1 : ((t249.length : Int) != (t246.length : Int)) = false := bne_eq_false_iff_eq.mpr c33
          have c33b2 : (t249.length == t246.length) = true := by first | simpa using c33 | (simp at c33 ⊢; omega)
          clear c33
          (first | rw [c33b0] | (simp only [i64_w, i32_w]; rw [c33b0]) | skip)
          by_cases c34 : (t252.length : Int) = (t246.length : Int)
          ·
           rw [if_pos c34] at H
           have c34b0 : ((t252.length : Int) == (t246.length : Int)) = true := beq_iff_eq.mpr c34
           have c34b1 : ((t252.length : Int) != (t246.length : Int)) = false := bne_eq_false_iff_eq.mpr c34
           have c34b2 : (t252.length == t246.length) = true := by first | simpa using c34 | (simp at c34 ⊢; omega)
           clear c34
           have H' := Aside0.mk H
           clear H
           obtain ⟨Ao35, co35, eo35⟩ := Kd.R_slice HO251.out
           subst eo35
           obtain ⟨Ao36, co36, eo36⟩ := Kd.R_slice HO254.out
           subst eo36
           obtain ⟨Ao37, co37, eo37⟩ := Kd.R_slice HO265.out
           subst eo37
           go_wp2
           go_meet
           case rel => exact ⟨_, (((t263.length : Int) != (t246.length : Int))), (by first | rfl | (simp; done) | (simp [*]; done)), H', ⟨by have := HJ4.out; first | omega | exact Nat.le_refl _⟩, ⟨by (with_reducible repeat (first | apply Kd.R_alloc | apply Kd.R_drewN | apply Kd.R_drew)); exact Kd.R_mono HO248.out (fun _ _ => trivial)⟩, ⟨by (with_reducible repeat (first | apply Kd.R_alloc | apply Kd.R_drewN | apply Kd.R_drew)); exact Kd.R_mono HO251.out (fun _ _ => trivial)⟩, ⟨by (with_reducible repeat (first | apply Kd.R_alloc | apply Kd.R_drewN | apply Kd.R_drew)); exact Kd.R_mono HO254.out (fun _ _ => trivial)⟩, ⟨by (with_reducible repeat (first | apply Kd.R_alloc | apply Kd.R_drewN | apply Kd.R_drew)); exact Kd.R_mono HO265.out (fun _ _ => trivial)⟩, ⟨by repeat (first | (with_reducible exact HR258.out) | (with_reducible refine Kd.C_alloc ?_ _) | (with_reducible refine Kd.C_drewN ?_ _) | (with_reducible refine Kd.C_drew ?_) | exact HR258.out)⟩, ⟨by repeat (first | (with_reducible exact HR262.out) | (with_reducible refine Kd.C_alloc ?_ _) | (with_reducible refine Kd.C_drewN ?_ _) | (with_reducible refine Kd.C_drew ?_) | exact HR262.out)⟩, ⟨by repeat (first | (with_reducible first | exact HB.out | apply below_alloc | apply pw_below_drewN | apply below_drew1) | exact HB.out)⟩⟩
          ·
           rw [if_neg c34] at H
           have c34b0 : ((t252.length : Int) == (t246.length : Int)) = false := beq_eq_false_iff_ne.mpr c34
           have c34b1 : ((t252.length : Int) != (t246.length : Int)) = true := bne_iff_ne.mpr c34
           have c34b2 : (t252.length == t246.length) = false := by first | simpa using c34 | (simp at c34 ⊢; omega)
           have H' := Aside0.mk H
           clear H
           obtain ⟨Ao38, co38, eo38⟩ := Kd.R_slice HO251.out
           subst eo38
           obtain ⟨Ao39, co39, eo39⟩ := Kd.R_slice HO254.out
           subst eo39
           go_wp2
           go_meet
           case rel => exact ⟨_, (true), (by first | rfl | (simp; done) | (simp [*]; done)), H', ⟨by have := HJ4.out; first | omega | exact Nat.le_refl _⟩, ⟨by (with_reducible repeat (first | apply Kd.R_alloc | apply Kd.R_drewN | apply Kd.R_drew)); exact Kd.R_mono HO248.out (fun _ _ => trivial)⟩, ⟨by (with_reducible repeat (first | apply Kd.R_alloc | apply Kd.R_drewN | apply Kd.R_drew)); exact Kd.R_mono HO251.out (fun _ _ => trivial)⟩, ⟨by (with_reducible repeat (first | apply Kd.R_alloc | apply Kd.R_drewN | apply Kd.R_drew)); exact Kd.R_mono HO254.out (fun _ _ => trivial)⟩, ⟨by (with_reducible repeat (first | apply Kd.R_alloc | apply Kd.R_drewN | apply Kd.R_drew)); exact Kd.R_mono HO265.out (fun _ _ => trivial)⟩, ⟨by repeat (first | (with_reducible exact HR258.out) | (with_reducible refine Kd.C_alloc ?_ _) | (with_reducible refine Kd.C_drewN ?_ _) | (with_reducible refine Kd.C_drew ?_) | exact HR258.out)⟩, ⟨by repeat (first | (with_reducible exact HR262.out) | (with_reducible refine Kd.C_alloc ?_ _) | (with_reducible refine Kd.C_drewN ?_ _) | (with_reducible refine Kd.C_drew ?_) | exact HR262.out)⟩, ⟨by repeat (first | (with_reducible first | exact HB.out | apply below_alloc | apply pw_below_drewN | apply below_drew1) | exact HB.out)⟩⟩
         ·
          rw [if_neg c33] at H
          have c33b0 : ((t249.length : Int) == (t246.length : Int)) = false := beq_eq_false_iff_ne.mpr c33
          have c33b1 : ((t249.length : Int) != (t246.length : Int)) = true := bne_iff_ne.mpr c33
          have c33b2 : (t249.length == t246.length) = false := by first | simpa using c33 | (simp at c33 ⊢; omega)
          (first | rw [c33b0] | (simp only [i64_w, i32_w]; rw [c33b0]) | skip)
          have H' := Aside0.mk H
          clear H
          obtain ⟨Ao40, co40, eo40⟩ := Kd.R_slice HO251.out
          subst eo40
          go_wp2
          go_meet
          case rel => exact ⟨_, (true), (by first | rfl | (simp; done) | (simp [*]; done)), H', ⟨by have := HJ4.out; first | omega | exact Nat.le_refl _⟩, ⟨by (with_reducible repeat (first | apply Kd.R_alloc | apply Kd.R_drewN | apply Kd.R_drew)); exact Kd.R_mono HO248.out (fun _ _ => trivial)⟩, ⟨by (with_reducible repeat (first | apply Kd.R_alloc | apply Kd.R_drewN | apply Kd.R_drew)); exact Kd.R_mono HO251.out (fun _ _ => trivial)⟩, ⟨by (with_reducible repeat (first | apply Kd.R_alloc | apply Kd.R_drewN | apply Kd.R_drew)); exact Kd.R_mono HO254.out (fun _ _ => trivial)⟩, ⟨by (with_reducible repeat (first | apply Kd.R_alloc | apply Kd.R_drewN | apply Kd.R_drew)); exact Kd.R_mono HO265.out (fun _ _ => trivial)⟩, ⟨by repeat (first | (with_reducible exact HR258.out) | (with_reducible refine Kd.C_alloc ?_ _) | (with_reducible refine Kd.C_drewN ?_ _) | (with_reducible refine Kd.C_drew ?_) | exact HR258.out)⟩, ⟨by repeat (first | (with_reducible exact HR262.out) | (with_reducible refine Kd.C_alloc ?_ _) | (with_reducible refine Kd.C_drewN ?_ _) | (with_reducible refine Kd.C_drew ?_) | exact HR262.out)⟩, ⟨by repeat (first | (with_reducible first | exact HB.out | apply below_alloc | apply pw_below_drewN | apply below_drew1) | exact HB.out)⟩⟩
        case rest =>
         clear HC23
         try clear c1
         try clear c2
         try clear p2
         try clear q2
         try clear hx2
         try clear c3
         try clear c4
         try clear c4b0
         try clear c4b1
         try clear p6
         try clear c7
         try clear c7b0
         try clear c8
         try clear c8b0
         try clear c9
         try clear c9b0
         try clear c10
         try clear c13
         try clear c14
         try clear c14b0
         try clear c14b1
         try clear c18
         try clear c18b0
         try clear c18b1
         try clear c19
         try clear c19b0
         try clear c19b1
         try clear c20
         try clear c20b0
         try clear c21
         try clear c21b0
         try clear p24
         try clear q24
         try clear hx24
         try clear c28
         try clear q28
         try clear q29
         try clear c33
         try clear c33b0
         try clear c33b1
         try clear c33b2
         try clear c34
         try clear c34b0
         try clear c34b1
         try clear c34b2
         try clear hx240_0
         try clear hx240_1
         try clear hx240_2
         try clear hx241_0
         try clear hx241_1
         try clear hx241_2
         try clear hx242_0
         try clear hx242_1
         try clear hx242_2
         try clear p2
         try clear p240
         try clear p241
         try clear p242
         try clear p6
         try clear q028
         try clear q2
         try clear q240
         try clear q241
         try clear q242
         try clear q28
         try clear q29
         obtain ⟨kq, x91_22, rfl, HA, HJ22, HO_7, HO_8, HO_9, HO_10, HR258, HR262, HB⟩ := hcut
         cases kq with
         | zero => exact absurd HA.out (by simp [beadlelaw06_MergeAgain.j2])
         | succ kj22 =>
          have H := HA.out
          clear HA
          simp only [beadlelaw06_MergeAgain.j2] at H
          by_cases c41 : x91_22 = true
          ·
           subst c41
           have H1 : (some false) = some true := by rw [if_pos rfl] at H; exact H
           clear H
           have H := H1
           clear H1
           exact absurd (Option.some.inj H) (by decide)
          ·
           replace c41 := Bool.eq_false_iff.mpr c41
           subst c41
           have H1 : (beadlelaw06_MergeAgain.l1 kj22 t246 t249 t252 t263 0) = some true := by rw [if_neg (show ¬ (false = true) by decide)] at H; exact H
           clear H
           have H := H1
           clear H1
           have H' := Aside0.mk H
           clear H
           go_wp2
           go_loopg [11] kj22 (fun kq v11 w' => ∃ (x11_3 : Int), v11 = .int .i64 x11_3 ∧ Aside0 (beadlelaw06_MergeAgain.l1 kq t246 t249 t252 t263 x11_3 = some true) ∧ Aside0 (kq ≤ kj22) ∧ Aside0 (Kd.R k27 27 w' w.heap.size (fun _ => True) (.slice Ao26 t246.length co26) t246) ∧ Aside0 (Kd.R k27 27 w' w.heap.size (fun _ => True) u8 t249) ∧ Aside0 (Kd.R k27 27 w' w.heap.size (fun _ => True) u9 t252) ∧ Aside0 (Kd.R k27 27 w' w.heap.size (fun _ => True) u10 t263) ∧ Aside0 (Kd.C k27 w' A28 y255.length y255) ∧ Aside0 (Kd.C k27 w' Ao26 y259.length y259) ∧ Aside0 (Below w.heap.size w w'))
           case atStart => exact ⟨(0), (by first | rfl | (simp; done) | (simp [*]; done)), H', ⟨Nat.le_refl _⟩, ⟨by (with_reducible repeat (first | apply Kd.R_alloc | apply Kd.R_drewN | apply Kd.R_drew)); exact HO_7.out⟩, ⟨by (with_reducible repeat (first | apply Kd.R_alloc | apply Kd.R_drewN | apply Kd.R_drew)); exact HO_8.out⟩, ⟨by (with_reducible repeat (first | apply Kd.R_alloc | apply Kd.R_drewN | apply Kd.R_drew)); exact HO_9.out⟩, ⟨by (with_reducible repeat (first | apply Kd.R_alloc | apply Kd.R_drewN | apply Kd.R_drew)); exact HO_10.out⟩, ⟨by repeat (first | (with_reducible exact HR258.out) | (with_reducible refine Kd.C_alloc ?_ _) | (with_reducible refine Kd.C_drewN ?_ _) | (with_reducible refine Kd.C_drew ?_) | exact HR258.out)⟩, ⟨by repeat (first | (with_reducible exact HR262.out) | (with_reducible refine Kd.C_alloc ?_ _) | (with_reducible refine Kd.C_drewN ?_ _) | (with_reducible refine Kd.C_drew ?_) | exact HR262.out)⟩, ⟨by repeat (first | (with_reducible first | exact HB.out | apply below_alloc | apply pw_below_drewN | apply below_drew1) | exact HB.out)⟩⟩
           case round =>
            clear H'
            try clear c1
            try clear c2
            try clear p2
            try clear q2
            try clear hx2
            try clear c3
            try clear c4
            try clear c4b0
            try clear c4b1
            try clear p6
            try clear c7
            try clear c7b0
            try clear c8
            try clear c8b0
            try clear c9
            try clear c9b0
            try clear c10
            try clear c13
            try clear c14
            try clear c14b0
            try clear c14b1
            try clear c18
            try clear c18b0
            try clear c18b1
            try clear c19
            try clear c19b0
            try clear c19b1
            try clear c20
            try clear c20b0
            try clear c21
            try clear c21b0
            try clear p24
            try clear q24
            try clear hx24
            try clear c28
            try clear q28
            try clear q29
            try clear c33
            try clear c33b0
            try clear c33b1
            try clear c33b2
            try clear c34
            try clear c34b0
            try clear c34b1
            try clear c34b2
            try clear c41
            try clear hx240_0
            try clear hx240_1
            try clear hx240_2
            try clear hx241_0
            try clear hx241_1
            try clear hx241_2
            try clear hx242_0
            try clear hx242_1
            try clear hx242_2
            try clear p2
            try clear p24
            try clear p240
            try clear p241
            try clear p242
            try clear p6
            try clear q028
            try clear q2
            try clear q24
            try clear q240
            try clear q241
            try clear q242
            try clear q28
            try clear q29
            obtain ⟨x11_3, rfl, HA, HK3, HO_7, HO_8, HO_9, HO_10, HR258, HR262, HB⟩ := hrel
            cases gk with
            | zero => exact absurd HA.out (by simp [beadlelaw06_MergeAgain.l1])
            | succ k3 =>
             have H := HA.out
             clear HA
             simp only [beadlelaw06_MergeAgain.l1] at H
             by_cases c42 : x11_3 < (t246.length : Int)
             ·
              rw [if_pos c42] at H
              have c42b0 : decide (x11_3 < (t246.length : Int)) = true := decide_eq_true c42
              clear c42
              by_cases c43 : 0 ≤ x11_3
              ·
               rw [if_pos c43] at H
               have c43b0 : decide (0 ≤ x11_3) = true := decide_eq_true c43
               clear c43
               by_cases c44 : x11_3 < (t249.length : Int)
               ·
                rw [if_pos c44] at H
                have c44b0 : decide (x11_3 < (t249.length : Int)) = true := decide_eq_true c44
                clear c44
                by_cases c45 : (!(((rd_T27 t249 x11_3).f0) == ((rd_T27 t246 x11_3).f0)) || (!(((rd_T27 t249 x11_3).f1) == ((rd_T27 t246 x11_3).f1)) || (!((((rd_T27 t249 x11_3).f2).toList) == (((rd_T27 t246 x11_3).f2).toList))))) = true
                ·
                 rw [if_pos c45] at H
                 have c45b0 : (!(((rd_T27 t249 x11_3).f0) == ((rd_T27 t246 x11_3).f0)) || (!(((rd_T27 t249 x11_3).f1) == ((rd_T27 t246 x11_3).f1)) || (!((((rd_T27 t249 x11_3).f2).toList) == (((rd_T27 t246 x11_3).f2).toList))))) = true := c45
                 clear c45
                 exact absurd (Option.some.inj H) (by decide)
                ·
                 rw [if_neg c45] at H
                 have c45b0 : (!(((rd_T27 t249 x11_3).f0) == ((rd_T27 t246 x11_3).f0)) || (!(((rd_T27 t249 x11_3).f1) == ((rd_T27 t246 x11_3).f1)) || (!((((rd_T27 t249 x11_3).f2).toList) == (((rd_T27 t246 x11_3).f2).toList))))) = false := by simpa using c45
                 clear c45
                 by_cases c48 : x11_3 < (t252.length : Int)
                 ·
                  rw [if_pos c48] at H
                  have c48b0 : decide (x11_3 < (t252.length : Int)) = true := decide_eq_true c48
                  clear c48
                  by_cases c49 : (!(((rd_T27 t252 x11_3).f0) == ((rd_T27 t246 x11_3).f0)) || (!(((rd_T27 t252 x11_3).f1) == ((rd_T27 t246 x11_3).f1)) || (!((((rd_T27 t252 x11_3).f2).toList) == (((rd_T27 t246 x11_3).f2).toList))))) = true
                  ·
                   rw [if_pos c49] at H
                   have c49b0 : (!(((rd_T27 t252 x11_3).f0) == ((rd_T27 t246 x11_3).f0)) || (!(((rd_T27 t252 x11_3).f1) == ((rd_T27 t246 x11_3).f1)) || (!((((rd_T27 t252 x11_3).f2).toList) == (((rd_T27 t246 x11_3).f2).toList))))) = true := c49
                   clear c49
                   exact absurd (Option.some.inj H) (by decide)
                  ·
                   rw [if_neg c49] at H
                   have c49b0 : (!(((rd_T27 t252 x11_3).f0) == ((rd_T27 t246 x11_3).f0)) || (!(((rd_T27 t252 x11_3).f1) == ((rd_T27 t246 x11_3).f1)) || (!((((rd_T27 t252 x11_3).f2).toList) == (((rd_T27 t246 x11_3).f2).toList))))) = false := by simpa using c49
                   clear c49
                   by_cases c53 : x11_3 < (t263.length : Int)
                   ·
                    rw [if_pos c53] at H
                    have c53b0 : decide (x11_3 < (t263.length : Int)) = true := decide_eq_true c53
                    clear c53
                    by_cases c54 : (!(((rd_T27 t263 x11_3).f0) == ((rd_T27 t246 x11_3).f0)) || (!(((rd_T27 t263 x11_3).f1) == ((rd_T27 t246 x11_3).f1)) || (!((((rd_T27 t263 x11_3).f2).toList) == (((rd_T27 t246 x11_3).f2).toList))))) = true
                    ·
                     rw [if_pos c54] at H
                     have c54b0 : (!(((rd_T27 t263 x11_3).f0) == ((rd_T27 t246 x11_3).f0)) || (!(((rd_T27 t263 x11_3).f1) == ((rd_T27 t246 x11_3).f1)) || (!((((rd_T27 t263 x11_3).f2).toList) == (((rd_T27 t246 x11_3).f2).toList))))) = true := c54
                     clear c54
                     exact absurd (Option.some.inj H) (by decide)
                    ·
                     rw [if_neg c54] at H
                     have c54b0 : (!(((rd_T27 t263 x11_3).f0) == ((rd_T27 t246 x11_3).f0)) || (!(((rd_T27 t263 x11_3).f1) == ((rd_T27 t246 x11_3).f1)) || (!((((rd_T27 t263 x11_3).f2).toList) == (((rd_T27 t246 x11_3).f2).toList))))) = false := by simpa using c54
                     clear c54
                     by_cases c59 : x11_3 > 0
                     ·
                      rw [if_pos c59] at H
                      have c59b0 : decide (0 < x11_3) = true := decide_eq_true c59
                      clear c59
                      obtain ⟨ji60, hji60⟩ : ∃ j_ : Int, (wrap64 (x11_3 - 1)) = j_ := ⟨_, rfl⟩
                      replace H : (if 0 ≤ (ji60) then (if (ji60) < (t246.length : Int) then ((merge_Less.f k3 ((rd_T27 t246 (ji60)).f0) ((rd_T27 t246 (ji60)).f1) ((rd_T27 t246 (ji60)).f2) ((rd_T27 t246 x11_3).f0) ((rd_T27 t246 x11_3).f1) ((rd_T27 t246 x11_3).f2)).bind fun t274 => (if t274 = true then (beadlelaw06_MergeAgain.l1 k3 t246 t249 t252 t263 (wrap64 (x11_3 + 1))) else (some false))) else (none)) else (none)) = some true := by first | (rw [hji60] at H; exact H) | (simp only [hji60] at H ⊢; exact H)
                      have hji60w : (IntKind.i64.wrap (x11_3 - 1)) = ji60 := (i64_w _).trans hji60
                      by_cases c61 : 0 ≤ (ji60)
                      ·
                       rw [if_pos c61] at H
                       have c61b0 : decide (0 ≤ (ji60)) = true := decide_eq_true c61
                       clear c61
                       by_cases c62 : (ji60) < (t246.length : Int)
                       ·
                        rw [if_pos c62] at H
                        have c62b0 : decide ((ji60) < (t246.length : Int)) = true := decide_eq_true c62
                        clear c62
                        replace H := Option.bind_eq_some_iff.mp H
                        obtain ⟨t274, A630, H⟩ := H
                        replace H : (if t274 = true then (beadlelaw06_MergeAgain.l1 k3 t246 t249 t252 t263 (wrap64 (x11_3 + 1))) else (some false)) = some true := H
                        have A63 := Aside0.mk A630
                        clear A630
                        by_cases c64 : t274 = true
                        ·
                         subst c64
                         have H1 : (beadlelaw06_MergeAgain.l1 k3 t246 t249 t252 t263 (wrap64 (x11_3 + 1))) = some true := by rw [if_pos rfl] at H; exact H
                         clear H
                         have H := H1
                         clear H1
                         have H' := Aside0.mk H
                         clear H
                         try go_wp2
                         have n0_ := Aside0.mk (Kd.R_drew HO_7.out)
                         have n1_ := Aside0.mk (Kd.R_drew HO_8.out)
                         have n2_ := Aside0.mk (Kd.R_drew HO_9.out)
                         have n3_ := Aside0.mk (Kd.R_drew HO_10.out)
                         have n4_ := Aside0.mk (Kd.C_drew HR258.out)
                         have n5_ := Aside0.mk (Kd.C_drew HR262.out)
                         have n6_ := Aside0.mk (below_drew1 HB.out)
                         clear HO_7
                         clear HO_8
                         clear HO_9
                         clear HO_10
                         clear HR258
                         clear HR262
                         clear HB
                         have HO_7 := n0_
                         have HO_8 := n1_
                         have HO_9 := n2_
                         have HO_10 := n3_
                         have HR258 := n4_
                         have HR262 := n5_
                         have HB := n6_
                         clear n0_ n1_ n2_ n3_ n4_ n5_ n6_
                         obtain ⟨Ao66, co66, eo66⟩ := Kd.R_slice HO_8.out
                         (first | subst eo66 | (injection eo66 with f1_ f2_ f3_; have f4_ := f1_.symm; have f5_ := f3_.symm; clear f1_ f2_ f3_; subst f4_; subst f5_))
                         have p266 : 0 ≤ (x11_3 : Int) := of_decide_eq_true (by first | (with_reducible assumption) | assumption)
                         have q266 : x11_3 < (t249.length : Int) := of_decide_eq_true (by first | (with_reducible assumption) | assumption)
                         obtain ⟨ad266, e266, hx266_0, hx266_1, hx266_2⟩ := at_T27 (Kd.R_reads' HO_8.out).2.2 x11_3 p266 q266
                         cases e266
                         replace p266 := eq_true p266
                         replace q266 := eq_true q266
                         have p267 : 0 ≤ (x11_3 : Int) := of_decide_eq_true (by first | (with_reducible assumption) | assumption)
                         have q267 : x11_3 < (t246.length : Int) := of_decide_eq_true (by first | (with_reducible assumption) | assumption)
                         obtain ⟨ad267, e267, hx267_0, hx267_1, hx267_2⟩ := at_T27 (Kd.R_reads' HO_7.out).2.2 x11_3 p267 q267
                         cases e267
                         replace p267 := eq_true p267
                         replace q267 := eq_true q267
                         obtain ⟨Ao67, co67, eo67⟩ := Kd.R_slice HO_9.out
                         (first | subst eo67 | (injection eo67 with f1_ f2_ f3_; have f4_ := f1_.symm; have f5_ := f3_.symm; clear f1_ f2_ f3_; subst f4_; subst f5_))
                         have p268 : 0 ≤ (x11_3 : Int) := of_decide_eq_true (by first | (with_reducible assumption) | assumption)
                         have q268 : x11_3 < (t252.length : Int) := of_decide_eq_true (by first | (with_reducible assumption) | assumption)
                         obtain ⟨ad268, e268, hx268_0, hx268_1, hx268_2⟩ := at_T27 (Kd.R_reads' HO_9.out).2.2 x11_3 p268 q268
                         cases e268
                         replace p268 := eq_true p268
                         replace q268 := eq_true q268
                         have p269 : 0 ≤ (x11_3 : Int) := of_decide_eq_true (by first | (with_reducible assumption) | assumption)
                         have q269 : x11_3 < (t246.length : Int) := of_decide_eq_true (by first | (with_reducible assumption) | assumption)
                         obtain ⟨ad269, e269, hx269_0, hx269_1, hx269_2⟩ := at_T27 (Kd.R_reads' HO_7.out).2.2 x11_3 p269 q269
                         obtain rfl : ad267 = ad269 := (by injection e269)
                         replace p269 := eq_true p269
                         replace q269 := eq_true q269
                         obtain ⟨Ao68, co68, eo68⟩ := Kd.R_slice HO_10.out
                         (first | subst eo68 | (injection eo68 with f1_ f2_ f3_; have f4_ := f1_.symm; have f5_ := f3_.symm; clear f1_ f2_ f3_; subst f4_; subst f5_))
                         have p270 : 0 ≤ (x11_3 : Int) := of_decide_eq_true (by first | (with_reducible assumption) | assumption)
                         have q270 : x11_3 < (t263.length : Int) := of_decide_eq_true (by first | (with_reducible assumption) | assumption)
                         obtain ⟨ad270, e270, hx270_0, hx270_1, hx270_2⟩ := at_T27 (Kd.R_reads' HO_10.out).2.2 x11_3 p270 q270
                         cases e270
                         replace p270 := eq_true p270
                         replace q270 := eq_true q270
                         have p271 : 0 ≤ (x11_3 : Int) := of_decide_eq_true (by first | (with_reducible assumption) | assumption)
                         have q271 : x11_3 < (t246.length : Int) := of_decide_eq_true (by first | (with_reducible assumption) | assumption)
                         obtain ⟨ad271, e271, hx271_0, hx271_1, hx271_2⟩ := at_T27 (Kd.R_reads' HO_7.out).2.2 x11_3 p271 q271
                         obtain rfl : ad267 = ad271 := (by injection e271)
                         replace p271 := eq_true p271
                         replace q271 := eq_true q271
                         have p272 : 0 ≤ ((ji60) : Int) := of_decide_eq_true (by first | (with_reducible assumption) | assumption)
                         have q272 : (ji60) < (t246.length : Int) := of_decide_eq_true (by first | (with_reducible assumption) | assumption)
                         obtain ⟨ad272, e272, hx272_0, hx272_1, hx272_2⟩ := at_T27 (Kd.R_reads' HO_7.out).2.2 (ji60) p272 q272
                         obtain rfl : ad267 = ad272 := (by injection e272)
                         replace p272 := eq_true p272
                         replace q272 := eq_true q272
                         have p273 : 0 ≤ (x11_3 : Int) := of_decide_eq_true (by first | (with_reducible assumption) | assumption)
                         have q273 : x11_3 < (t246.length : Int) := of_decide_eq_true (by first | (with_reducible assumption) | assumption)
                         obtain ⟨ad273, e273, hx273_0, hx273_1, hx273_2⟩ := at_T27 (Kd.R_reads' HO_7.out).2.2 x11_3 p273 q273
                         obtain rfl : ad267 = ad273 := (by injection e273)
                         replace p273 := eq_true p273
                         replace q273 := eq_true q273
                         refine start_ (n := 48) (S := fun w' => w'.cell? (ad266.add ((x11_3).toNat * 3)) = some (.int .i64 ((rd_T27 t249 x11_3).f0)) ∧ w'.cell? ⟨(ad266.add ((x11_3).toNat * 3)).block, (ad266.add ((x11_3).toNat * 3)).off + 1, none⟩ = some (.int .i64 ((rd_T27 t249 x11_3).f1)) ∧ w'.cell? ⟨(ad266.add ((x11_3).toNat * 3)).block, (ad266.add ((x11_3).toNat * 3)).off + 2, none⟩ = some (.string ((rd_T27 t249 x11_3).f2)) ∧ w'.cell? (ad267.add ((x11_3).toNat * 3)) = some (.int .i64 ((rd_T27 t246 x11_3).f0)) ∧ w'.cell? ⟨(ad267.add ((x11_3).toNat * 3)).block, (ad267.add ((x11_3).toNat * 3)).off + 1, none⟩ = some (.int .i64 ((rd_T27 t246 x11_3).f1)) ∧ w'.cell? ⟨(ad267.add ((x11_3).toNat * 3)).block, (ad267.add ((x11_3).toNat * 3)).off + 2, none⟩ = some (.string ((rd_T27 t246 x11_3).f2)) ∧ w'.cell? (ad268.add ((x11_3).toNat * 3)) = some (.int .i64 ((rd_T27 t252 x11_3).f0)) ∧ w'.cell? ⟨(ad268.add ((x11_3).toNat * 3)).block, (ad268.add ((x11_3).toNat * 3)).off + 1, none⟩ = some (.int .i64 ((rd_T27 t252 x11_3).f1)) ∧ w'.cell? ⟨(ad268.add ((x11_3).toNat * 3)).block, (ad268.add ((x11_3).toNat * 3)).off + 2, none⟩ = some (.string ((rd_T27 t252 x11_3).f2)) ∧ w'.cell? (ad267.add ((x11_3).toNat * 3)) = some (.int .i64 ((rd_T27 t246 x11_3).f0)) ∧ w'.cell? ⟨(ad267.add ((x11_3).toNat * 3)).block, (ad267.add ((x11_3).toNat * 3)).off + 1, none⟩ = some (.int .i64 ((rd_T27 t246 x11_3).f1)) ∧ w'.cell? ⟨(ad267.add ((x11_3).toNat * 3)).block, (ad267.add ((x11_3).toNat * 3)).off + 2, none⟩ = some (.string ((rd_T27 t246 x11_3).f2)) ∧ w'.cell? (ad270.add ((x11_3).toNat * 3)) = some (.int .i64 ((rd_T27 t263 x11_3).f0)) ∧ w'.cell? ⟨(ad270.add ((x11_3).toNat * 3)).block, (ad270.add ((x11_3).toNat * 3)).off + 1, none⟩ = some (.int .i64 ((rd_T27 t263 x11_3).f1)) ∧ w'.cell? ⟨(ad270.add ((x11_3).toNat * 3)).block, (ad270.add ((x11_3).toNat * 3)).off + 2, none⟩ = some (.string ((rd_T27 t263 x11_3).f2)) ∧ w'.cell? (ad267.add ((x11_3).toNat * 3)) = some (.int .i64 ((rd_T27 t246 x11_3).f0)) ∧ w'.cell? ⟨(ad267.add ((x11_3).toNat * 3)).block, (ad267.add ((x11_3).toNat * 3)).off + 1, none⟩ = some (.int .i64 ((rd_T27 t246 x11_3).f1)) ∧ w'.cell? ⟨(ad267.add ((x11_3).toNat * 3)).block, (ad267.add ((x11_3).toNat * 3)).off + 2, none⟩ = some (.string ((rd_T27 t246 x11_3).f2)) ∧ w'.cell? (ad267.add (((ji60)).toNat * 3)) = some (.int .i64 ((rd_T27 t246 (ji60)).f0)) ∧ w'.cell? ⟨(ad267.add (((ji60)).toNat * 3)).block, (ad267.add (((ji60)).toNat * 3)).off + 1, none⟩ = some (.int .i64 ((rd_T27 t246 (ji60)).f1)) ∧ w'.cell? ⟨(ad267.add (((ji60)).toNat * 3)).block, (ad267.add (((ji60)).toNat * 3)).off + 2, none⟩ = some (.string ((rd_T27 t246 (ji60)).f2)) ∧ w'.cell? (ad267.add ((x11_3).toNat * 3)) = some (.int .i64 ((rd_T27 t246 x11_3).f0)) ∧ w'.cell? ⟨(ad267.add ((x11_3).toNat * 3)).block, (ad267.add ((x11_3).toNat * 3)).off + 1, none⟩ = some (.int .i64 ((rd_T27 t246 x11_3).f1)) ∧ w'.cell? ⟨(ad267.add ((x11_3).toNat * 3)).block, (ad267.add ((x11_3).toNat * 3)).off + 2, none⟩ = some (.string ((rd_T27 t246 x11_3).f2))) (ds := []) #[false, false, false, false, false, false, false, false, false, false, false, false, false, false, false, false, false, false, false, false, false, false, false, false, false, false, false, false, false, false, false, false, false, false, false, false, false, false, false, false, false, false, false, false, false, false, false, false] (by kernel_rfl) rfl rfl ⟨hx266_0, hx266_1, hx266_2, hx267_0, hx267_1, hx267_2, hx268_0, hx268_1, hx268_2, hx269_0, hx269_1, hx269_2, hx270_0, hx270_1, hx270_2, hx271_0, hx271_1, hx271_2, hx272_0, hx272_1, hx272_2, hx273_0, hx273_1, hx273_2⟩ (fun hHeld => ?_); refine with_tabW beadlelaw06_MergeAgain.tab16 beadlelaw06_MergeAgain.bits16 (fun HT_ HW_ => ?_)
                         generalize wr.drew = w65 at HO_7 HO_8 HO_9 HO_10 HR258 HR262 HB hx266_0 hx266_1 hx266_2 hx267_0 hx267_1 hx267_2 hx268_0 hx268_1 hx268_2 hx269_0 hx269_1 hx269_2 hx270_0 hx270_1 hx270_2 hx271_0 hx271_1 hx271_2 hx272_0 hx272_1 hx272_2 hx273_0 hx273_1 hx273_2 hHeld ⊢
                         refine pure_ (i := 0) (N := some 98) (v := ?_) (a' := ?_) #[true, false, false, false, false, false, false, false, false, false, false, false, false, false, false, false, false, false, false, false, false, false, false, false, false, false, false, false, false, false, false, false, false, false, false, false, false, false, false, false, false, false, false, false, false, false, false, false] rfl rfl (any_of HT_.out (by kernel_rfl)) (fun _ _ _ h => h) (Or.inl ⟨by rfl, ?_⟩) ?_ ?_
                         rotate_left
                         ·
                          intro w'
                          go_simp
                          with_reducible rfl
                         rotate_left
                         ·
                          simp only [Act.put, List.setIfInBounds_toArray, List.set_cons_zero, List.set_cons_succ, i64_w, i32_w]
                          rfl
                         refine pure_ (i := 1) (N := some 99) (v := ?_) (a' := ?_) #[true, true, false, false, false, false, false, false, false, false, false, false, false, false, false, false, false, false, false, false, false, false, false, false, false, false, false, false, false, false, false, false, false, false, false, false, false, false, false, false, false, false, false, false, false, false, false, false] rfl rfl (any_of HT_.out (by kernel_rfl)) (fun _ _ _ h => h) (Or.inl ⟨by rfl, ?_⟩) ?_ ?_
                         rotate_left
                         ·
                          intro w'
                          go_simp
                          with_reducible rfl
                         rotate_left
                         ·
                          simp only [Act.put, List.setIfInBounds_toArray, List.set_cons_zero, List.set_cons_succ, i64_w, i32_w]
                          rfl
                         refine pure_ (i := 2) (N := some 100) (v := ?_) (a' := ?_) #[true, true, true, false, false, false, false, false, false, false, false, false, false, false, false, false, false, false, false, false, false, false, false, false, false, false, false, false, false, false, false, false, false, false, false, false, false, false, false, false, false, false, false, false, false, false, false, false] rfl rfl (any_of HT_.out (by kernel_rfl)) (fun _ _ _ h => h) (Or.inl ⟨by rfl, ?_⟩) ?_ ?_
                         rotate_left
                         ·
                          intro w'
                          go_simp
                          with_reducible rfl
                         rotate_left
                         ·
                          simp only [Act.put, List.setIfInBounds_toArray, List.set_cons_zero, List.set_cons_succ, i64_w, i32_w]
                          rfl
                         refine pure_ (i := 4) (N := some 102) (v := ?_) (a' := ?_) #[true, true, true, false, true, false, false, false, false, false, false, false, false, false, false, false, false, false, false, false, false, false, false, false, false, false, false, false, false, false, false, false, false, false, false, false, false, false, false, false, false, false, false, false, false, false, false, false] rfl rfl (any_of HT_.out (by kernel_rfl)) (fun _ _ _ h => h) (Or.inl ⟨by rfl, ?_⟩) ?_ ?_
                         rotate_left
                         ·
                          intro w'
                          go_simp
                          with_reducible rfl
                         rotate_left
                         ·
                          simp only [Act.put, List.setIfInBounds_toArray, List.set_cons_zero, List.set_cons_succ, i64_w, i32_w]
                          rfl
                         refine pure_ (i := 5) (N := some 103) (v := ?_) (a' := ?_) #[true, true, true, false, true, true, false, false, false, false, false, false, false, false, false, false, false, false, false, false, false, false, false, false, false, false, false, false, false, false, false, false, false, false, false, false, false, false, false, false, false, false, false, false, false, false, false, false] rfl rfl (any_of HT_.out (by kernel_rfl)) (fun _ _ _ h => h) (Or.inl ⟨by rfl, ?_⟩) ?_ ?_
                         rotate_left
                         ·
                          intro w'
                          go_simp
                          with_reducible rfl
                         rotate_left
                         ·
                          simp only [Act.put, List.setIfInBounds_toArray, List.set_cons_zero, List.set_cons_succ, i64_w, i32_w]
                          rfl
                         refine pure_ (i := 6) (N := some 104) (v := ?_) (a' := ?_) #[true, true, true, false, true, true, true, false, false, false, false, false, false, false, false, false, false, false, false, false, false, false, false, false, false, false, false, false, false, false, false, false, false, false, false, false, false, false, false, false, false, false, false, false, false, false, false, false] rfl rfl (any_of HT_.out (by kernel_rfl)) (fun _ _ _ h => h) (Or.inl ⟨by rfl, ?_⟩) ?_ ?_
                         rotate_left
                         ·
                          intro w'
                          go_simp
                          with_reducible rfl
                         rotate_left
                         ·
                          simp only [Act.put, List.setIfInBounds_toArray, List.set_cons_zero, List.set_cons_succ, i64_w, i32_w]
                          rfl
                         refine take_ (i := 3) (N := some 101) (v := ?_) (a' := ?_) #[true, true, true, true, true, true, true, false, false, false, false, false, false, false, false, false, false, false, false, false, false, false, false, false, false, false, false, false, false, false, false, false, false, false, false, false, false, false, false, false, false, false, false, false, false, false, false, false] rfl rfl (take_ofW HT_.out HW_.out (by kernel_rfl)) (fun _ _ _ h => h) (Or.inl ⟨by rfl, ?_⟩) hHeld ?_ ?_
                         rotate_left
                         ·
                          rintro w' ⟨s0, s1, s2, s3, s4, s5, s6, s7, s8, s9, s10, s11, s12, s13, s14, s15, s16, s17, s18, s19, s20, s21, s22, s23⟩
                          go_simp
                          with_reducible rfl
                         rotate_left
                         ·
                          simp only [Act.put, List.setIfInBounds_toArray, List.set_cons_zero, List.set_cons_succ, i64_w, i32_w]
                          rfl
                         refine take_ (i := 7) (N := some 105) (v := ?_) (a' := ?_) #[true, true, true, true, true, true, true, true, false, false, false, false, false, false, false, false, false, false, false, false, false, false, false, false, false, false, false, false, false, false, false, false, false, false, false, false, false, false, false, false, false, false, false, false, false, false, false, false] rfl rfl (take_ofW HT_.out HW_.out (by kernel_rfl)) (fun _ _ _ h => h) (Or.inl ⟨by rfl, ?_⟩) hHeld ?_ ?_
                         rotate_left
                         ·
                          rintro w' ⟨s0, s1, s2, s3, s4, s5, s6, s7, s8, s9, s10, s11, s12, s13, s14, s15, s16, s17, s18, s19, s20, s21, s22, s23⟩
                          go_simp
                          with_reducible rfl
                         rotate_left
                         ·
                          simp only [Act.put, List.setIfInBounds_toArray, List.set_cons_zero, List.set_cons_succ, i64_w, i32_w]
                          rfl
                         refine pure_ (i := 8) (N := some 106) (v := ?_) (a' := ?_) #[true, true, true, true, true, true, true, true, true, false, false, false, false, false, false, false, false, false, false, false, false, false, false, false, false, false, false, false, false, false, false, false, false, false, false, false, false, false, false, false, false, false, false, false, false, false, false, false] rfl rfl (any_of HT_.out (by kernel_rfl)) (fun _ _ _ h => h) (Or.inl ⟨by rfl, ?_⟩) ?_ ?_
                         rotate_left
                         ·
                          intro w'
                          go_simp
                          with_reducible rfl
                         rotate_left
                         ·
                          simp only [Act.put, List.setIfInBounds_toArray, List.set_cons_zero, List.set_cons_succ, i64_w, i32_w]
                          rfl
                         refine pure_ (i := 9) (N := some 107) (v := ?_) (a' := ?_) #[true, true, true, true, true, true, true, true, true, true, false, false, false, false, false, false, false, false, false, false, false, false, false, false, false, false, false, false, false, false, false, false, false, false, false, false, false, false, false, false, false, false, false, false, false, false, false, false] rfl rfl (any_of HT_.out (by kernel_rfl)) (fun _ _ _ h => h) (Or.inl ⟨by rfl, ?_⟩) ?_ ?_
                         rotate_left
                         ·
                          intro w'
                          go_simp
                          with_reducible rfl
                         rotate_left
                         ·
                          simp only [Act.put, List.setIfInBounds_toArray, List.set_cons_zero, List.set_cons_succ, i64_w, i32_w]
                          rfl
                         refine pure_ (i := 10) (N := some 108) (v := ?_) (a' := ?_) #[true, true, true, true, true, true, true, true, true, true, true, false, false, false, false, false, false, false, false, false, false, false, false, false, false, false, false, false, false, false, false, false, false, false, false, false, false, false, false, false, false, false, false, false, false, false, false, false] rfl rfl (any_of HT_.out (by kernel_rfl)) (fun _ _ _ h => h) (Or.inl ⟨by rfl, ?_⟩) ?_ ?_
                         rotate_left
                         ·
                          intro w'
                          go_simp
                          with_reducible rfl
                         rotate_left
                         ·
                          simp only [Act.put, List.setIfInBounds_toArray, List.set_cons_zero, List.set_cons_succ, i64_w, i32_w]
                          rfl
                         refine pure_ (i := 11) (N := some 109) (v := ?_) (a' := ?_) #[true, true, true, true, true, true, true, true, true, true, true, true, false, false, false, false, false, false, false, false, false, false, false, false, false, false, false, false, false, false, false, false, false, false, false, false, false, false, false, false, false, false, false, false, false, false, false, false] rfl rfl (any_of HT_.out (by kernel_rfl)) (fun _ _ _ h => h) (Or.inl ⟨by rfl, ?_⟩) ?_ ?_
                         rotate_left
                         ·
                          intro w'
                          go_simp
                          with_reducible rfl
                         rotate_left
                         ·
                          simp only [Act.put, List.setIfInBounds_toArray, List.set_cons_zero, List.set_cons_succ, i64_w, i32_w]
                          rfl
                         refine pure_ (i := 12) (N := some 110) (v := ?_) (a' := ?_) #[true, true, true, true, true, true, true, true, true, true, true, true, true, false, false, false, false, false, false, false, false, false, false, false, false, false, false, false, false, false, false, false, false, false, false, false, false, false, false, false, false, false, false, false, false, false, false, false] rfl rfl (any_of HT_.out (by kernel_rfl)) (fun _ _ _ h => h) (Or.inl ⟨by rfl, ?_⟩) ?_ ?_
                         rotate_left
                         ·
                          intro w'
                          go_simp
                          with_reducible rfl
                         rotate_left
                         ·
                          simp only [Act.put, List.setIfInBounds_toArray, List.set_cons_zero, List.set_cons_succ, i64_w, i32_w]
                          rfl
                         refine pure_ (i := 14) (N := some 112) (v := ?_) (a' := ?_) #[true, true, true, true, true, true, true, true, true, true, true, true, true, false, true, false, false, false, false, false, false, false, false, false, false, false, false, false, false, false, false, false, false, false, false, false, false, false, false, false, false, false, false, false, false, false, false, false] rfl rfl (any_of HT_.out (by kernel_rfl)) (fun _ _ _ h => h) (Or.inl ⟨by rfl, ?_⟩) ?_ ?_
                         rotate_left
                         ·
                          intro w'
                          go_simp
                          with_reducible rfl
                         rotate_left
                         ·
                          simp only [Act.put, List.setIfInBounds_toArray, List.set_cons_zero, List.set_cons_succ, i64_w, i32_w]
                          rfl
                         refine pure_ (i := 15) (N := some 113) (v := ?_) (a' := ?_) #[true, true, true, true, true, true, true, true, true, true, true, true, true, false, true, true, false, false, false, false, false, false, false, false, false, false, false, false, false, false, false, false, false, false, false, false, false, false, false, false, false, false, false, false, false, false, false, false] rfl rfl (any_of HT_.out (by kernel_rfl)) (fun _ _ _ h => h) (Or.inl ⟨by rfl, ?_⟩) ?_ ?_
                         rotate_left
                         ·
                          intro w'
                          go_simp
                          with_reducible rfl
                         rotate_left
                         ·
                          simp only [Act.put, List.setIfInBounds_toArray, List.set_cons_zero, List.set_cons_succ, i64_w, i32_w]
                          rfl
                         refine pure_ (i := 16) (N := some 114) (v := ?_) (a' := ?_) #[true, true, true, true, true, true, true, true, true, true, true, true, true, false, true, true, true, false, false, false, false, false, false, false, false, false, false, false, false, false, false, false, false, false, false, false, false, false, false, false, false, false, false, false, false, false, false, false] rfl rfl (any_of HT_.out (by kernel_rfl)) (fun _ _ _ h => h) (Or.inl ⟨by rfl, ?_⟩) ?_ ?_
                         rotate_left
                         ·
                          intro w'
                          go_simp
                          with_reducible rfl
                         rotate_left
                         ·
                          simp only [Act.put, List.setIfInBounds_toArray, List.set_cons_zero, List.set_cons_succ, i64_w, i32_w]
                          rfl
                         refine take_ (i := 13) (N := some 111) (v := ?_) (a' := ?_) #[true, true, true, true, true, true, true, true, true, true, true, true, true, true, true, true, true, false, false, false, false, false, false, false, false, false, false, false, false, false, false, false, false, false, false, false, false, false, false, false, false, false, false, false, false, false, false, false] rfl rfl (take_ofW HT_.out HW_.out (by kernel_rfl)) (fun _ _ _ h => h) (Or.inl ⟨by rfl, ?_⟩) hHeld ?_ ?_
                         rotate_left
                         ·
                          rintro w' ⟨s0, s1, s2, s3, s4, s5, s6, s7, s8, s9, s10, s11, s12, s13, s14, s15, s16, s17, s18, s19, s20, s21, s22, s23⟩
                          go_simp
                          with_reducible rfl
                         rotate_left
                         ·
                          simp only [Act.put, List.setIfInBounds_toArray, List.set_cons_zero, List.set_cons_succ, i64_w, i32_w]
                          rfl
                         refine take_ (i := 17) (N := some 115) (v := ?_) (a' := ?_) #[true, true, true, true, true, true, true, true, true, true, true, true, true, true, true, true, true, true, false, false, false, false, false, false, false, false, false, false, false, false, false, false, false, false, false, false, false, false, false, false, false, false, false, false, false, false, false, false] rfl rfl (take_ofW HT_.out HW_.out (by kernel_rfl)) (fun _ _ _ h => h) (Or.inl ⟨by rfl, ?_⟩) hHeld ?_ ?_
                         rotate_left
                         ·
                          rintro w' ⟨s0, s1, s2, s3, s4, s5, s6, s7, s8, s9, s10, s11, s12, s13, s14, s15, s16, s17, s18, s19, s20, s21, s22, s23⟩
                          go_simp
                          with_reducible rfl
                         rotate_left
                         ·
                          simp only [Act.put, List.setIfInBounds_toArray, List.set_cons_zero, List.set_cons_succ, i64_w, i32_w]
                          rfl
                         refine pure_ (i := 18) (N := some 116) (v := ?_) (a' := ?_) #[true, true, true, true, true, true, true, true, true, true, true, true, true, true, true, true, true, true, true, false, false, false, false, false, false, false, false, false, false, false, false, false, false, false, false, false, false, false, false, false, false, false, false, false, false, false, false, false] rfl rfl (any_of HT_.out (by kernel_rfl)) (fun _ _ _ h => h) (Or.inl ⟨by rfl, ?_⟩) ?_ ?_
                         rotate_left
                         ·
                          intro w'
                          go_simp
                          with_reducible rfl
                         rotate_left
                         ·
                          simp only [Act.put, List.setIfInBounds_toArray, List.set_cons_zero, List.set_cons_succ, i64_w, i32_w]
                          rfl
                         refine pure_ (i := 19) (N := some 117) (v := ?_) (a' := ?_) #[true, true, true, true, true, true, true, true, true, true, true, true, true, true, true, true, true, true, true, true, false, false, false, false, false, false, false, false, false, false, false, false, false, false, false, false, false, false, false, false, false, false, false, false, false, false, false, false] rfl rfl (any_of HT_.out (by kernel_rfl)) (fun _ _ _ h => h) (Or.inl ⟨by rfl, ?_⟩) ?_ ?_
                         rotate_left
                         ·
                          intro w'
                          go_simp
                          with_reducible rfl
                         rotate_left
                         ·
                          simp only [Act.put, List.setIfInBounds_toArray, List.set_cons_zero, List.set_cons_succ, i64_w, i32_w]
                          rfl
                         refine pure_ (i := 20) (N := some 118) (v := ?_) (a' := ?_) #[true, true, true, true, true, true, true, true, true, true, true, true, true, true, true, true, true, true, true, true, true, false, false, false, false, false, false, false, false, false, false, false, false, false, false, false, false, false, false, false, false, false, false, false, false, false, false, false] rfl rfl (any_of HT_.out (by kernel_rfl)) (fun _ _ _ h => h) (Or.inl ⟨by rfl, ?_⟩) ?_ ?_
                         rotate_left
                         ·
                          intro w'
                          go_simp
                          with_reducible rfl
                         rotate_left
                         ·
                          simp only [Act.put, List.setIfInBounds_toArray, List.set_cons_zero, List.set_cons_succ, i64_w, i32_w]
                          rfl
                         refine pure_ (i := 21) (N := some 119) (v := ?_) (a' := ?_) #[true, true, true, true, true, true, true, true, true, true, true, true, true, true, true, true, true, true, true, true, true, true, false, false, false, false, false, false, false, false, false, false, false, false, false, false, false, false, false, false, false, false, false, false, false, false, false, false] rfl rfl (any_of HT_.out (by kernel_rfl)) (fun _ _ _ h => h) (Or.inl ⟨by rfl, ?_⟩) ?_ ?_
                         rotate_left
                         ·
                          intro w'
                          go_simp
                          with_reducible rfl
                         rotate_left
                         ·
                          simp only [Act.put, List.setIfInBounds_toArray, List.set_cons_zero, List.set_cons_succ, i64_w, i32_w]
                          rfl
                         refine pure_ (i := 22) (N := some 120) (v := ?_) (a' := ?_) #[true, true, true, true, true, true, true, true, true, true, true, true, true, true, true, true, true, true, true, true, true, true, true, false, false, false, false, false, false, false, false, false, false, false, false, false, false, false, false, false, false, false, false, false, false, false, false, false] rfl rfl (any_of HT_.out (by kernel_rfl)) (fun _ _ _ h => h) (Or.inl ⟨by rfl, ?_⟩) ?_ ?_
                         rotate_left
                         ·
                          intro w'
                          go_simp
                          with_reducible rfl
                         rotate_left
                         ·
                          simp only [Act.put, List.setIfInBounds_toArray, List.set_cons_zero, List.set_cons_succ, i64_w, i32_w]
                          rfl
                         refine pure_ (i := 23) (N := some 121) (v := ?_) (a' := ?_) #[true, true, true, true, true, true, true, true, true, true, true, true, true, true, true, true, true, true, true, true, true, true, true, true, false, false, false, false, false, false, false, false, false, false, false, false, false, false, false, false, false, false, false, false, false, false, false, false] rfl rfl (any_of HT_.out (by kernel_rfl)) (fun _ _ _ h => h) (Or.inl ⟨by rfl, ?_⟩) ?_ ?_
                         rotate_left
                         ·
                          intro w'
                          go_simp
                          with_reducible rfl
                         rotate_left
                         ·
                          simp only [Act.put, List.setIfInBounds_toArray, List.set_cons_zero, List.set_cons_succ, i64_w, i32_w]
                          rfl
                         refine pure_ (i := 25) (N := some 123) (v := ?_) (a' := ?_) #[true, true, true, true, true, true, true, true, true, true, true, true, true, true, true, true, true, true, true, true, true, true, true, true, false, true, false, false, false, false, false, false, false, false, false, false, false, false, false, false, false, false, false, false, false, false, false, false] rfl rfl (any_of HT_.out (by kernel_rfl)) (fun _ _ _ h => h) (Or.inl ⟨by rfl, ?_⟩) ?_ ?_
                         rotate_left
                         ·
                          intro w'
                          go_simp
                          with_reducible rfl
                         rotate_left
                         ·
                          simp only [Act.put, List.setIfInBounds_toArray, List.set_cons_zero, List.set_cons_succ, i64_w, i32_w]
                          rfl
                         refine pure_ (i := 26) (N := some 124) (v := ?_) (a' := ?_) #[true, true, true, true, true, true, true, true, true, true, true, true, true, true, true, true, true, true, true, true, true, true, true, true, false, true, true, false, false, false, false, false, false, false, false, false, false, false, false, false, false, false, false, false, false, false, false, false] rfl rfl (any_of HT_.out (by kernel_rfl)) (fun _ _ _ h => h) (Or.inl ⟨by rfl, ?_⟩) ?_ ?_
                         rotate_left
                         ·
                          intro w'
                          go_simp
                          with_reducible rfl
                         rotate_left
                         ·
                          simp only [Act.put, List.setIfInBounds_toArray, List.set_cons_zero, List.set_cons_succ, i64_w, i32_w]
                          rfl
                         refine pure_ (i := 27) (N := some 125) (v := ?_) (a' := ?_) #[true, true, true, true, true, true, true, true, true, true, true, true, true, true, true, true, true, true, true, true, true, true, true, true, false, true, true, true, false, false, false, false, false, false, false, false, false, false, false, false, false, false, false, false, false, false, false, false] rfl rfl (any_of HT_.out (by kernel_rfl)) (fun _ _ _ h => h) (Or.inl ⟨by rfl, ?_⟩) ?_ ?_
                         rotate_left
                         ·
                          intro w'
                          go_simp
                          with_reducible rfl
                         rotate_left
                         ·
                          simp only [Act.put, List.setIfInBounds_toArray, List.set_cons_zero, List.set_cons_succ, i64_w, i32_w]
                          rfl
                         refine take_ (i := 24) (N := some 122) (v := ?_) (a' := ?_) #[true, true, true, true, true, true, true, true, true, true, true, true, true, true, true, true, true, true, true, true, true, true, true, true, true, true, true, true, false, false, false, false, false, false, false, false, false, false, false, false, false, false, false, false, false, false, false, false] rfl rfl (take_ofW HT_.out HW_.out (by kernel_rfl)) (fun _ _ _ h => h) (Or.inl ⟨by rfl, ?_⟩) hHeld ?_ ?_
                         rotate_left
                         ·
                          rintro w' ⟨s0, s1, s2, s3, s4, s5, s6, s7, s8, s9, s10, s11, s12, s13, s14, s15, s16, s17, s18, s19, s20, s21, s22, s23⟩
                          go_simp
                          with_reducible rfl
                         rotate_left
                         ·
                          simp only [Act.put, List.setIfInBounds_toArray, List.set_cons_zero, List.set_cons_succ, i64_w, i32_w]
                          rfl
                         refine take_ (i := 28) (N := some 126) (v := ?_) (a' := ?_) #[true, true, true, true, true, true, true, true, true, true, true, true, true, true, true, true, true, true, true, true, true, true, true, true, true, true, true, true, true, false, false, false, false, false, false, false, false, false, false, false, false, false, false, false, false, false, false, false] rfl rfl (take_ofW HT_.out HW_.out (by kernel_rfl)) (fun _ _ _ h => h) (Or.inl ⟨by rfl, ?_⟩) hHeld ?_ ?_
                         rotate_left
                         ·
                          rintro w' ⟨s0, s1, s2, s3, s4, s5, s6, s7, s8, s9, s10, s11, s12, s13, s14, s15, s16, s17, s18, s19, s20, s21, s22, s23⟩
                          go_simp
                          with_reducible rfl
                         rotate_left
                         ·
                          simp only [Act.put, List.setIfInBounds_toArray, List.set_cons_zero, List.set_cons_succ, i64_w, i32_w]
                          rfl
                         refine pure_ (i := 29) (N := some 127) (v := ?_) (a' := ?_) #[true, true, true, true, true, true, true, true, true, true, true, true, true, true, true, true, true, true, true, true, true, true, true, true, true, true, true, true, true, true, false, false, false, false, false, false, false, false, false, false, false, false, false, false, false, false, false, false] rfl rfl (any_of HT_.out (by kernel_rfl)) (fun _ _ _ h => h) (Or.inl ⟨by rfl, ?_⟩) ?_ ?_
                         rotate_left
                         ·
                          intro w'
                          go_simp
                          with_reducible rfl
                         rotate_left
                         ·
                          simp only [Act.put, List.setIfInBounds_toArray, List.set_cons_zero, List.set_cons_succ, i64_w, i32_w]
                          rfl
                         refine pure_ (i := 30) (N := some 128) (v := ?_) (a' := ?_) #[true, true, true, true, true, true, true, true, true, true, true, true, true, true, true, true, true, true, true, true, true, true, true, true, true, true, true, true, true, true, true, false, false, false, false, false, false, false, false, false, false, false, false, false, false, false, false, false] rfl rfl (any_of HT_.out (by kernel_rfl)) (fun _ _ _ h => h) (Or.inl ⟨by rfl, ?_⟩) ?_ ?_
                         rotate_left
                         ·
                          intro w'
                          go_simp
                          with_reducible rfl
                         rotate_left
                         ·
                          simp only [Act.put, List.setIfInBounds_toArray, List.set_cons_zero, List.set_cons_succ, i64_w, i32_w]
                          rfl
                         refine pure_ (i := 31) (N := some 129) (v := ?_) (a' := ?_) #[true, true, true, true, true, true, true, true, true, true, true, true, true, true, true, true, true, true, true, true, true, true, true, true, true, true, true, true, true, true, true, true, false, false, false, false, false, false, false, false, false, false, false, false, false, false, false, false] rfl rfl (any_of HT_.out (by kernel_rfl)) (fun _ _ _ h => h) (Or.inl ⟨by rfl, ?_⟩) ?_ ?_
                         rotate_left
                         ·
                          intro w'
                          go_simp
                          with_reducible rfl
                         rotate_left
                         ·
                          simp only [Act.put, List.setIfInBounds_toArray, List.set_cons_zero, List.set_cons_succ, i64_w, i32_w]
                          rfl
                         refine pure_ (i := 32) (N := some 130) (v := ?_) (a' := ?_) #[true, true, true, true, true, true, true, true, true, true, true, true, true, true, true, true, true, true, true, true, true, true, true, true, true, true, true, true, true, true, true, true, true, false, false, false, false, false, false, false, false, false, false, false, false, false, false, false] rfl rfl (any_of HT_.out (by kernel_rfl)) (fun _ _ _ h => h) (Or.inl ⟨by rfl, ?_⟩) ?_ ?_
                         rotate_left
                         ·
                          intro w'
                          go_simp
                          with_reducible rfl
                         rotate_left
                         ·
                          simp only [Act.put, List.setIfInBounds_toArray, List.set_cons_zero, List.set_cons_succ, i64_w, i32_w]
                          rfl
                         refine pure_ (i := 33) (N := some 131) (v := ?_) (a' := ?_) #[true, true, true, true, true, true, true, true, true, true, true, true, true, true, true, true, true, true, true, true, true, true, true, true, true, true, true, true, true, true, true, true, true, true, false, false, false, false, false, false, false, false, false, false, false, false, false, false] rfl rfl (any_of HT_.out (by kernel_rfl)) (fun _ _ _ h => h) (Or.inl ⟨by rfl, ?_⟩) ?_ ?_
                         rotate_left
                         ·
                          intro w'
                          go_simp
                          with_reducible rfl
                         rotate_left
                         ·
                          simp only [Act.put, List.setIfInBounds_toArray, List.set_cons_zero, List.set_cons_succ, i64_w, i32_w]
                          rfl
                         refine pure_ (i := 34) (N := some 132) (v := ?_) (a' := ?_) #[true, true, true, true, true, true, true, true, true, true, true, true, true, true, true, true, true, true, true, true, true, true, true, true, true, true, true, true, true, true, true, true, true, true, true, false, false, false, false, false, false, false, false, false, false, false, false, false] rfl rfl (any_of HT_.out (by kernel_rfl)) (fun _ _ _ h => h) (Or.inl ⟨by rfl, ?_⟩) ?_ ?_
                         rotate_left
                         ·
                          intro w'
                          go_simp
                          with_reducible rfl
                         rotate_left
                         ·
                          simp only [Act.put, List.setIfInBounds_toArray, List.set_cons_zero, List.set_cons_succ, i64_w, i32_w]
                          rfl
                         refine pure_ (i := 35) (N := some 133) (v := ?_) (a' := ?_) #[true, true, true, true, true, true, true, true, true, true, true, true, true, true, true, true, true, true, true, true, true, true, true, true, true, true, true, true, true, true, true, true, true, true, true, true, false, false, false, false, false, false, false, false, false, false, false, false] rfl rfl (any_of HT_.out (by kernel_rfl)) (fun _ _ _ h => h) (Or.inl ⟨by rfl, ?_⟩) ?_ ?_
                         rotate_left
                         ·
                          intro w'
                          go_simp
                          with_reducible rfl
                         rotate_left
                         ·
                          simp only [Act.put, List.setIfInBounds_toArray, List.set_cons_zero, List.set_cons_succ, i64_w, i32_w]
                          rfl
                         refine pure_ (i := 36) (N := some 134) (v := ?_) (a' := ?_) #[true, true, true, true, true, true, true, true, true, true, true, true, true, true, true, true, true, true, true, true, true, true, true, true, true, true, true, true, true, true, true, true, true, true, true, true, true, false, false, false, false, false, false, false, false, false, false, false] rfl rfl (any_of HT_.out (by kernel_rfl)) (fun _ _ _ h => h) (Or.inl ⟨by rfl, ?_⟩) ?_ ?_
                         rotate_left
                         ·
                          intro w'
                          go_simp
                          with_reducible rfl
                         rotate_left
                         ·
                          simp only [Act.put, List.setIfInBounds_toArray, List.set_cons_zero, List.set_cons_succ, i64_w, i32_w]
                          rfl
                         refine pure_ (i := 37) (N := some 135) (v := ?_) (a' := ?_) #[true, true, true, true, true, true, true, true, true, true, true, true, true, true, true, true, true, true, true, true, true, true, true, true, true, true, true, true, true, true, true, true, true, true, true, true, true, true, false, false, false, false, false, false, false, false, false, false] rfl rfl (any_of HT_.out (by kernel_rfl)) (fun _ _ _ h => h) (Or.inl ⟨by rfl, ?_⟩) ?_ ?_
                         rotate_left
                         ·
                          intro w'
                          go_simp
                          with_reducible rfl
                         rotate_left
                         ·
                          simp only [Act.put, List.setIfInBounds_toArray, List.set_cons_zero, List.set_cons_succ, i64_w, i32_w]
                          rfl
                         refine pure_ (i := 38) (N := some 136) (v := ?_) (a' := ?_) #[true, true, true, true, true, true, true, true, true, true, true, true, true, true, true, true, true, true, true, true, true, true, true, true, true, true, true, true, true, true, true, true, true, true, true, true, true, true, true, false, false, false, false, false, false, false, false, false] rfl rfl (any_of HT_.out (by kernel_rfl)) (fun _ _ _ h => h) (Or.inl ⟨by rfl, ?_⟩) ?_ ?_
                         rotate_left
                         ·
                          intro w'
                          go_simp
                          with_reducible rfl
                         rotate_left
                         ·
                          simp only [Act.put, List.setIfInBounds_toArray, List.set_cons_zero, List.set_cons_succ, i64_w, i32_w]
                          rfl
                         refine pure_ (i := 40) (N := some 138) (v := ?_) (a' := ?_) #[true, true, true, true, true, true, true, true, true, true, true, true, true, true, true, true, true, true, true, true, true, true, true, true, true, true, true, true, true, true, true, true, true, true, true, true, true, true, true, false, true, false, false, false, false, false, false, false] rfl rfl (any_of HT_.out (by kernel_rfl)) (fun _ _ _ h => h) (Or.inl ⟨by rfl, ?_⟩) ?_ ?_
                         rotate_left
                         ·
                          intro w'
                          go_simp
                          with_reducible rfl
                         rotate_left
                         ·
                          simp only [Act.put, List.setIfInBounds_toArray, List.set_cons_zero, List.set_cons_succ, i64_w, i32_w]
                          rfl
                         refine pure_ (i := 41) (N := some 139) (v := ?_) (a' := ?_) #[true, true, true, true, true, true, true, true, true, true, true, true, true, true, true, true, true, true, true, true, true, true, true, true, true, true, true, true, true, true, true, true, true, true, true, true, true, true, true, false, true, true, false, false, false, false, false, false] rfl rfl (any_of HT_.out (by kernel_rfl)) (fun _ _ _ h => h) (Or.inl ⟨by rfl, ?_⟩) ?_ ?_
                         rotate_left
                         ·
                          intro w'
                          go_simp
                          with_reducible rfl
                         rotate_left
                         ·
                          simp only [Act.put, List.setIfInBounds_toArray, List.set_cons_zero, List.set_cons_succ, i64_w, i32_w]
                          rfl
                         refine pure_ (i := 42) (N := some 140) (v := ?_) (a' := ?_) #[true, true, true, true, true, true, true, true, true, true, true, true, true, true, true, true, true, true, true, true, true, true, true, true, true, true, true, true, true, true, true, true, true, true, true, true, true, true, true, false, true, true, true, false, false, false, false, false] rfl rfl (any_of HT_.out (by kernel_rfl)) (fun _ _ _ h => h) (Or.inl ⟨by rfl, ?_⟩) ?_ ?_
                         rotate_left
                         ·
                          intro w'
                          go_simp
                          with_reducible rfl
                         rotate_left
                         ·
                          simp only [Act.put, List.setIfInBounds_toArray, List.set_cons_zero, List.set_cons_succ, i64_w, i32_w]
                          rfl
                         refine take_ (i := 39) (N := some 137) (v := ?_) (a' := ?_) #[true, true, true, true, true, true, true, true, true, true, true, true, true, true, true, true, true, true, true, true, true, true, true, true, true, true, true, true, true, true, true, true, true, true, true, true, true, true, true, true, true, true, true, false, false, false, false, false] rfl rfl (take_ofW HT_.out HW_.out (by kernel_rfl)) (fun _ _ _ h => h) (Or.inl ⟨by rfl, ?_⟩) hHeld ?_ ?_
                         rotate_left
                         ·
                          rintro w' ⟨s0, s1, s2, s3, s4, s5, s6, s7, s8, s9, s10, s11, s12, s13, s14, s15, s16, s17, s18, s19, s20, s21, s22, s23⟩
                          go_simp
                          with_reducible rfl
                         rotate_left
                         ·
                          simp only [Act.put, List.setIfInBounds_toArray, List.set_cons_zero, List.set_cons_succ, i64_w, i32_w]
                          rfl
                         refine take_ (i := 43) (N := some 141) (v := ?_) (a' := ?_) #[true, true, true, true, true, true, true, true, true, true, true, true, true, true, true, true, true, true, true, true, true, true, true, true, true, true, true, true, true, true, true, true, true, true, true, true, true, true, true, true, true, true, true, true, false, false, false, false] rfl rfl (take_ofW HT_.out HW_.out (by kernel_rfl)) (fun _ _ _ h => h) (Or.inl ⟨by rfl, ?_⟩) hHeld ?_ ?_
                         rotate_left
                         ·
                          rintro w' ⟨s0, s1, s2, s3, s4, s5, s6, s7, s8, s9, s10, s11, s12, s13, s14, s15, s16, s17, s18, s19, s20, s21, s22, s23⟩
                          go_simp
                          with_reducible rfl
                         rotate_left
                         ·
                          simp only [Act.put, List.setIfInBounds_toArray, List.set_cons_zero, List.set_cons_succ, i64_w, i32_w]
                          rfl
                         refine one_ (i := 44) (N := some 142) #[true, true, true, true, true, true, true, true, true, true, true, true, true, true, true, true, true, true, true, true, true, true, true, true, true, true, true, true, true, true, true, true, true, true, true, true, true, true, true, true, true, true, true, true, true, false, false, false] rfl rfl (one_of HT_.out (by kernel_rfl)) (by decide) (fun K hK => ?_)
                         refine goes_ Try.func8 (by kernel_rfl) rfl #[.agg #[.int .i64 ((rd_T27 t246 (ji60)).f0), .int .i64 ((rd_T27 t246 (ji60)).f1), .string ((rd_T27 t246 (ji60)).f2)], .agg #[.int .i64 ((rd_T27 t246 x11_3).f0), .int .i64 ((rd_T27 t246 x11_3).f1), .string ((rd_T27 t246 x11_3).f2)]] (by rfl) rfl rfl (by (try simp only [List.map_toArray, List.map_cons, List.map_nil]); first | done | (simp only [hji60]; rfl) | rfl | (simp only [List.length_drop, List.length_take]; rfl)) ?_
                         with_reducible refine (merge_Less.calls k3 ((rd_T27 t246 (ji60)).f0) ((rd_T27 t246 (ji60)).f1) ((rd_T27 t246 (ji60)).f2) ((rd_T27 t246 x11_3).f0) ((rd_T27 t246 x11_3).f1) ((rd_T27 t246 x11_3).f2) true _ A63.out).mono ?_
                         rintro e w69 ⟨rfl, hb⟩
                         have HS0_ := (hb.cell (World.block_lt_of_cell? _ _ (hHeld.1))).trans (hHeld.1)
                         have HS1_ := (hb.cell (World.block_lt_of_cell? _ _ (hHeld.2.1))).trans (hHeld.2.1)
                         have HS2_ := (hb.cell (World.block_lt_of_cell? _ _ (hHeld.2.2.1))).trans (hHeld.2.2.1)
                         have HS3_ := (hb.cell (World.block_lt_of_cell? _ _ (hHeld.2.2.2.1))).trans (hHeld.2.2.2.1)
                         have HS4_ := (hb.cell (World.block_lt_of_cell? _ _ (hHeld.2.2.2.2.1))).trans (hHeld.2.2.2.2.1)
                         have HS5_ := (hb.cell (World.block_lt_of_cell? _ _ (hHeld.2.2.2.2.2.1))).trans (hHeld.2.2.2.2.2.1)
                         have HS6_ := (hb.cell (World.block_lt_of_cell? _ _ (hHeld.2.2.2.2.2.2.1))).trans (hHeld.2.2.2.2.2.2.1)
                         have HS7_ := (hb.cell (World.block_lt_of_cell? _ _ (hHeld.2.2.2.2.2.2.2.1))).trans (hHeld.2.2.2.2.2.2.2.1)
                         have HS8_ := (hb.cell (World.block_lt_of_cell? _ _ (hHeld.2.2.2.2.2.2.2.2.1))).trans (hHeld.2.2.2.2.2.2.2.2.1)
                         have HS9_ := (hb.cell (World.block_lt_of_cell? _ _ (hHeld.2.2.2.2.2.2.2.2.2.1))).trans (hHeld.2.2.2.2.2.2.2.2.2.1)
                         have HS10_ := (hb.cell (World.block_lt_of_cell? _ _ (hHeld.2.2.2.2.2.2.2.2.2.2.1))).trans (hHeld.2.2.2.2.2.2.2.2.2.2.1)
                         have HS11_ := (hb.cell (World.block_lt_of_cell? _ _ (hHeld.2.2.2.2.2.2.2.2.2.2.2.1))).trans (hHeld.2.2.2.2.2.2.2.2.2.2.2.1)
                         have HS12_ := (hb.cell (World.block_lt_of_cell? _ _ (hHeld.2.2.2.2.2.2.2.2.2.2.2.2.1))).trans (hHeld.2.2.2.2.2.2.2.2.2.2.2.2.1)
                         have HS13_ := (hb.cell (World.block_lt_of_cell? _ _ (hHeld.2.2.2.2.2.2.2.2.2.2.2.2.2.1))).trans (hHeld.2.2.2.2.2.2.2.2.2.2.2.2.2.1)
                         have HS14_ := (hb.cell (World.block_lt_of_cell? _ _ (hHeld.2.2.2.2.2.2.2.2.2.2.2.2.2.2.1))).trans (hHeld.2.2.2.2.2.2.2.2.2.2.2.2.2.2.1)
                         have HS15_ := (hb.cell (World.block_lt_of_cell? _ _ (hHeld.2.2.2.2.2.2.2.2.2.2.2.2.2.2.2.1))).trans (hHeld.2.2.2.2.2.2.2.2.2.2.2.2.2.2.2.1)
                         have HS16_ := (hb.cell (World.block_lt_of_cell? _ _ (hHeld.2.2.2.2.2.2.2.2.2.2.2.2.2.2.2.2.1))).trans (hHeld.2.2.2.2.2.2.2.2.2.2.2.2.2.2.2.2.1)
                         have HS17_ := (hb.cell (World.block_lt_of_cell? _ _ (hHeld.2.2.2.2.2.2.2.2.2.2.2.2.2.2.2.2.2.1))).trans (hHeld.2.2.2.2.2.2.2.2.2.2.2.2.2.2.2.2.2.1)
                         have HS18_ := (hb.cell (World.block_lt_of_cell? _ _ (hHeld.2.2.2.2.2.2.2.2.2.2.2.2.2.2.2.2.2.2.1))).trans (hHeld.2.2.2.2.2.2.2.2.2.2.2.2.2.2.2.2.2.2.1)
                         have HS19_ := (hb.cell (World.block_lt_of_cell? _ _ (hHeld.2.2.2.2.2.2.2.2.2.2.2.2.2.2.2.2.2.2.2.1))).trans (hHeld.2.2.2.2.2.2.2.2.2.2.2.2.2.2.2.2.2.2.2.1)
                         have HS20_ := (hb.cell (World.block_lt_of_cell? _ _ (hHeld.2.2.2.2.2.2.2.2.2.2.2.2.2.2.2.2.2.2.2.2.1))).trans (hHeld.2.2.2.2.2.2.2.2.2.2.2.2.2.2.2.2.2.2.2.2.1)
                         have HS21_ := (hb.cell (World.block_lt_of_cell? _ _ (hHeld.2.2.2.2.2.2.2.2.2.2.2.2.2.2.2.2.2.2.2.2.2.1))).trans (hHeld.2.2.2.2.2.2.2.2.2.2.2.2.2.2.2.2.2.2.2.2.2.1)
                         have HS22_ := (hb.cell (World.block_lt_of_cell? _ _ (hHeld.2.2.2.2.2.2.2.2.2.2.2.2.2.2.2.2.2.2.2.2.2.2.1))).trans (hHeld.2.2.2.2.2.2.2.2.2.2.2.2.2.2.2.2.2.2.2.2.2.2.1)
                         have HS23_ := (hb.cell (World.block_lt_of_cell? _ _ (hHeld.2.2.2.2.2.2.2.2.2.2.2.2.2.2.2.2.2.2.2.2.2.2.2))).trans (hHeld.2.2.2.2.2.2.2.2.2.2.2.2.2.2.2.2.2.2.2.2.2.2.2)
                         refine ⟨_, rfl, ?_⟩
                         have n0_ := Aside0.mk (Kd.R_below (by (with_reducible repeat (first | apply Kd.R_alloc | apply Kd.R_drewN | apply Kd.R_drew)); exact HO_7.out) hb)
                         have n1_ := Aside0.mk (Kd.R_below (by (with_reducible repeat (first | apply Kd.R_alloc | apply Kd.R_drewN | apply Kd.R_drew)); exact HO_8.out) hb)
                         have n2_ := Aside0.mk (Kd.R_below (by (with_reducible repeat (first | apply Kd.R_alloc | apply Kd.R_drewN | apply Kd.R_drew)); exact HO_9.out) hb)
                         have n3_ := Aside0.mk (Kd.R_below (by (with_reducible repeat (first | apply Kd.R_alloc | apply Kd.R_drewN | apply Kd.R_drew)); exact HO_10.out) hb)
                         have n4_ := Aside0.mk (Kd.C_below (by repeat (first | (with_reducible exact HR258.out) | (with_reducible refine Kd.C_alloc ?_ _) | (with_reducible refine Kd.C_drewN ?_ _) | (with_reducible refine Kd.C_drew ?_) | exact HR258.out)) hb)
                         have n5_ := Aside0.mk (Kd.C_below (by repeat (first | (with_reducible exact HR262.out) | (with_reducible refine Kd.C_alloc ?_ _) | (with_reducible refine Kd.C_drewN ?_ _) | (with_reducible refine Kd.C_drew ?_) | exact HR262.out)) hb)
                         have n6_ := Aside0.mk (below_step (by repeat (first | (with_reducible first | exact HB.out | apply below_alloc | apply pw_below_drewN | apply below_drew1) | exact HB.out)) hb)
                         clear HO_7
                         clear HO_8
                         clear HO_9
                         clear HO_10
                         clear HR258
                         clear HR262
                         clear HB
                         have HO_7 := n0_
                         have HO_8 := n1_
                         have HO_9 := n2_
                         have HO_10 := n3_
                         have HR258 := n4_
                         have HR262 := n5_
                         have HB := n6_
                         clear n0_ n1_ n2_ n3_ n4_ n5_ n6_
                         (try clear hb)
                         (try clear hb2)
                         (try clear hk)
                         (try clear hi)
                         refine hK.out _ _ ⟨HS0_, HS1_, HS2_, HS3_, HS4_, HS5_, HS6_, HS7_, HS8_, HS9_, HS10_, HS11_, HS12_, HS13_, HS14_, HS15_, HS16_, HS17_, HS18_, HS19_, HS20_, HS21_, HS22_, HS23_⟩ (fun hHeld => ?_)
                         clear hK K
                         refine norm_ (a' := ?_) ?_ ?_
                         rotate_left
                         ·
                          show Act.put _ (some 142) _ = _
                          simp only [Act.put, List.setIfInBounds_toArray, List.set_cons_zero, List.set_cons_succ, i64_w, i32_w]
                          rfl
                         refine pure_ (i := 45) (N := some 143) (v := ?_) (a' := ?_) #[true, true, true, true, true, true, true, true, true, true, true, true, true, true, true, true, true, true, true, true, true, true, true, true, true, true, true, true, true, true, true, true, true, true, true, true, true, true, true, true, true, true, true, true, true, true, false, false] rfl rfl (any_of HT_.out (by kernel_rfl)) (fun _ _ _ h => h) (Or.inl ⟨by rfl, ?_⟩) ?_ ?_
                         rotate_left
                         ·
                          intro w'
                          go_simp
                          with_reducible rfl
                         rotate_left
                         ·
                          simp only [Act.put, List.setIfInBounds_toArray, List.set_cons_zero, List.set_cons_succ, i64_w, i32_w]
                          rfl
                         refine pure_ (i := 46) (N := some 144) (v := ?_) (a' := ?_) #[true, true, true, true, true, true, true, true, true, true, true, true, true, true, true, true, true, true, true, true, true, true, true, true, true, true, true, true, true, true, true, true, true, true, true, true, true, true, true, true, true, true, true, true, true, true, true, false] rfl rfl (any_of HT_.out (by kernel_rfl)) (fun _ _ _ h => h) (Or.inl ⟨by rfl, ?_⟩) ?_ ?_
                         rotate_left
                         ·
                          intro w'
                          go_simp
                          with_reducible rfl
                         rotate_left
                         ·
                          simp only [Act.put, List.setIfInBounds_toArray, List.set_cons_zero, List.set_cons_succ, i64_w, i32_w]
                          rfl
                         refine pure_ (i := 47) (N := some 145) (v := ?_) (a' := ?_) #[true, true, true, true, true, true, true, true, true, true, true, true, true, true, true, true, true, true, true, true, true, true, true, true, true, true, true, true, true, true, true, true, true, true, true, true, true, true, true, true, true, true, true, true, true, true, true, true] rfl rfl (any_of HT_.out (by kernel_rfl)) (fun _ _ _ h => h) (Or.inl ⟨by rfl, ?_⟩) ?_ ?_
                         rotate_left
                         ·
                          intro w'
                          go_simp
                          with_reducible rfl
                         rotate_left
                         ·
                          simp only [Act.put, List.setIfInBounds_toArray, List.set_cons_zero, List.set_cons_succ, i64_w, i32_w]
                          rfl
                         refine done_ (done_of HT_.out (by kernel_rfl)) ?_
                         try go_wp2
                         go_roundg k3
                         case measure => have := HJ4.out; have := HJ22.out; have := HK3.out; omega
                         case rel => exact ⟨(wrap64 (x11_3 + 1)), (by first | rfl | (simp; done) | (simp [*]; done)), H', ⟨by have := HJ4.out; have := HJ22.out; have := HK3.out; omega⟩, ⟨by (with_reducible repeat (first | apply Kd.R_alloc | apply Kd.R_drewN | apply Kd.R_drew)); exact HO_7.out⟩, ⟨by (with_reducible repeat (first | apply Kd.R_alloc | apply Kd.R_drewN | apply Kd.R_drew)); exact HO_8.out⟩, ⟨by (with_reducible repeat (first | apply Kd.R_alloc | apply Kd.R_drewN | apply Kd.R_drew)); exact HO_9.out⟩, ⟨by (with_reducible repeat (first | apply Kd.R_alloc | apply Kd.R_drewN | apply Kd.R_drew)); exact HO_10.out⟩, ⟨by repeat (first | (with_reducible exact HR258.out) | (with_reducible refine Kd.C_alloc ?_ _) | (with_reducible refine Kd.C_drewN ?_ _) | (with_reducible refine Kd.C_drew ?_) | exact HR258.out)⟩, ⟨by repeat (first | (with_reducible exact HR262.out) | (with_reducible refine Kd.C_alloc ?_ _) | (with_reducible refine Kd.C_drewN ?_ _) | (with_reducible refine Kd.C_drew ?_) | exact HR262.out)⟩, ⟨by repeat (first | (with_reducible first | exact HB.out | apply below_alloc | apply pw_below_drewN | apply below_drew1) | exact HB.out)⟩⟩
                        ·
                         replace c64 := Bool.eq_false_iff.mpr c64
                         subst c64
                         have H1 : (some false) = some true := by rw [if_neg (show ¬ (false = true) by decide)] at H; exact H
                         clear H
                         have H := H1
                         clear H1
                         exact absurd (Option.some.inj H) (by decide)
                       ·
                        rw [if_neg c62] at H
                        exact absurd H (by simp)
                      ·
                       rw [if_neg c61] at H
                       exact absurd H (by simp)
                     ·
                      rw [if_neg c59] at H
                      have c59b0 : decide (0 < x11_3) = false := decide_eq_false c59
                      clear c59
                      have H' := Aside0.mk H
                      clear H
                      try go_wp2
                      have n0_ := Aside0.mk (Kd.R_drew HO_7.out)
                      have n1_ := Aside0.mk (Kd.R_drew HO_8.out)
                      have n2_ := Aside0.mk (Kd.R_drew HO_9.out)
                      have n3_ := Aside0.mk (Kd.R_drew HO_10.out)
                      have n4_ := Aside0.mk (Kd.C_drew HR258.out)
                      have n5_ := Aside0.mk (Kd.C_drew HR262.out)
                      have n6_ := Aside0.mk (below_drew1 HB.out)
                      clear HO_7
                      clear HO_8
                      clear HO_9
                      clear HO_10
                      clear HR258
                      clear HR262
                      clear HB
                      have HO_7 := n0_
                      have HO_8 := n1_
                      have HO_9 := n2_
                      have HO_10 := n3_
                      have HR258 := n4_
                      have HR262 := n5_
                      have HB := n6_
                      clear n0_ n1_ n2_ n3_ n4_ n5_ n6_
                      obtain ⟨Ao76, co76, eo76⟩ := Kd.R_slice HO_8.out
                      (first | subst eo76 | (injection eo76 with f1_ f2_ f3_; have f4_ := f1_.symm; have f5_ := f3_.symm; clear f1_ f2_ f3_; subst f4_; subst f5_))
                      have p266 : 0 ≤ (x11_3 : Int) := of_decide_eq_true (by first | (with_reducible assumption) | assumption)
                      have q266 : x11_3 < (t249.length : Int) := of_decide_eq_true (by first | (with_reducible assumption) | assumption)
                      obtain ⟨ad266, e266, hx266_0, hx266_1, hx266_2⟩ := at_T27 (Kd.R_reads' HO_8.out).2.2 x11_3 p266 q266
                      cases e266
                      replace p266 := eq_true p266
                      replace q266 := eq_true q266
                      have p267 : 0 ≤ (x11_3 : Int) := of_decide_eq_true (by first | (with_reducible assumption) | assumption)
                      have q267 : x11_3 < (t246.length : Int) := of_decide_eq_true (by first | (with_reducible assumption) | assumption)
                      obtain ⟨ad267, e267, hx267_0, hx267_1, hx267_2⟩ := at_T27 (Kd.R_reads' HO_7.out).2.2 x11_3 p267 q267
                      cases e267
                      replace p267 := eq_true p267
                      replace q267 := eq_true q267
                      obtain ⟨Ao77, co77, eo77⟩ := Kd.R_slice HO_9.out
                      (first | subst eo77 | (injection eo77 with f1_ f2_ f3_; have f4_ := f1_.symm; have f5_ := f3_.symm; clear f1_ f2_ f3_; subst f4_; subst f5_))
                      have p268 : 0 ≤ (x11_3 : Int) := of_decide_eq_true (by first | (with_reducible assumption) | assumption)
                      have q268 : x11_3 < (t252.length : Int) := of_decide_eq_true (by first | (with_reducible assumption) | assumption)
                      obtain ⟨ad268, e268, hx268_0, hx268_1, hx268_2⟩ := at_T27 (Kd.R_reads' HO_9.out).2.2 x11_3 p268 q268
                      cases e268
                      replace p268 := eq_true p268
                      replace q268 := eq_true q268
                      have p269 : 0 ≤ (x11_3 : Int) := of_decide_eq_true (by first | (with_reducible assumption) | assumption)
                      have q269 : x11_3 < (t246.length : Int) := of_decide_eq_true (by first | (with_reducible assumption) | assumption)
                      obtain ⟨ad269, e269, hx269_0, hx269_1, hx269_2⟩ := at_T27 (Kd.R_reads' HO_7.out).2.2 x11_3 p269 q269
                      obtain rfl : ad267 = ad269 := (by injection e269)
                      replace p269 := eq_true p269
                      replace q269 := eq_true q269
                      obtain ⟨Ao78, co78, eo78⟩ := Kd.R_slice HO_10.out
                      (first | subst eo78 | (injection eo78 with f1_ f2_ f3_; have f4_ := f1_.symm; have f5_ := f3_.symm; clear f1_ f2_ f3_; subst f4_; subst f5_))
                      have p270 : 0 ≤ (x11_3 : Int) := of_decide_eq_true (by first | (with_reducible assumption) | assumption)
                      have q270 : x11_3 < (t263.length : Int) := of_decide_eq_true (by first | (with_reducible assumption) | assumption)
                      obtain ⟨ad270, e270, hx270_0, hx270_1, hx270_2⟩ := at_T27 (Kd.R_reads' HO_10.out).2.2 x11_3 p270 q270
                      cases e270
                      replace p270 := eq_true p270
                      replace q270 := eq_true q270
                      have p271 : 0 ≤ (x11_3 : Int) := of_decide_eq_true (by first | (with_reducible assumption) | assumption)
                      have q271 : x11_3 < (t246.length : Int) := of_decide_eq_true (by first | (with_reducible assumption) | assumption)
                      obtain ⟨ad271, e271, hx271_0, hx271_1, hx271_2⟩ := at_T27 (Kd.R_reads' HO_7.out).2.2 x11_3 p271 q271
                      obtain rfl : ad267 = ad271 := (by injection e271)
                      replace p271 := eq_true p271
                      replace q271 := eq_true q271
                      refine start_ (n := 48) (S := fun w' => w'.cell? (ad266.add ((x11_3).toNat * 3)) = some (.int .i64 ((rd_T27 t249 x11_3).f0)) ∧ w'.cell? ⟨(ad266.add ((x11_3).toNat * 3)).block, (ad266.add ((x11_3).toNat * 3)).off + 1, none⟩ = some (.int .i64 ((rd_T27 t249 x11_3).f1)) ∧ w'.cell? ⟨(ad266.add ((x11_3).toNat * 3)).block, (ad266.add ((x11_3).toNat * 3)).off + 2, none⟩ = some (.string ((rd_T27 t249 x11_3).f2)) ∧ w'.cell? (ad267.add ((x11_3).toNat * 3)) = some (.int .i64 ((rd_T27 t246 x11_3).f0)) ∧ w'.cell? ⟨(ad267.add ((x11_3).toNat * 3)).block, (ad267.add ((x11_3).toNat * 3)).off + 1, none⟩ = some (.int .i64 ((rd_T27 t246 x11_3).f1)) ∧ w'.cell? ⟨(ad267.add ((x11_3).toNat * 3)).block, (ad267.add ((x11_3).toNat * 3)).off + 2, none⟩ = some (.string ((rd_T27 t246 x11_3).f2)) ∧ w'.cell? (ad268.add ((x11_3).toNat * 3)) = some (.int .i64 ((rd_T27 t252 x11_3).f0)) ∧ w'.cell? ⟨(ad268.add ((x11_3).toNat * 3)).block, (ad268.add ((x11_3).toNat * 3)).off + 1, none⟩ = some (.int .i64 ((rd_T27 t252 x11_3).f1)) ∧ w'.cell? ⟨(ad268.add ((x11_3).toNat * 3)).block, (ad268.add ((x11_3).toNat * 3)).off + 2, none⟩ = some (.string ((rd_T27 t252 x11_3).f2)) ∧ w'.cell? (ad267.add ((x11_3).toNat * 3)) = some (.int .i64 ((rd_T27 t246 x11_3).f0)) ∧ w'.cell? ⟨(ad267.add ((x11_3).toNat * 3)).block, (ad267.add ((x11_3).toNat * 3)).off + 1, none⟩ = some (.int .i64 ((rd_T27 t246 x11_3).f1)) ∧ w'.cell? ⟨(ad267.add ((x11_3).toNat * 3)).block, (ad267.add ((x11_3).toNat * 3)).off + 2, none⟩ = some (.string ((rd_T27 t246 x11_3).f2)) ∧ w'.cell? (ad270.add ((x11_3).toNat * 3)) = some (.int .i64 ((rd_T27 t263 x11_3).f0)) ∧ w'.cell? ⟨(ad270.add ((x11_3).toNat * 3)).block, (ad270.add ((x11_3).toNat * 3)).off + 1, none⟩ = some (.int .i64 ((rd_T27 t263 x11_3).f1)) ∧ w'.cell? ⟨(ad270.add ((x11_3).toNat * 3)).block, (ad270.add ((x11_3).toNat * 3)).off + 2, none⟩ = some (.string ((rd_T27 t263 x11_3).f2)) ∧ w'.cell? (ad267.add ((x11_3).toNat * 3)) = some (.int .i64 ((rd_T27 t246 x11_3).f0)) ∧ w'.cell? ⟨(ad267.add ((x11_3).toNat * 3)).block, (ad267.add ((x11_3).toNat * 3)).off + 1, none⟩ = some (.int .i64 ((rd_T27 t246 x11_3).f1)) ∧ w'.cell? ⟨(ad267.add ((x11_3).toNat * 3)).block, (ad267.add ((x11_3).toNat * 3)).off + 2, none⟩ = some (.string ((rd_T27 t246 x11_3).f2))) (ds := []) #[false, false, false, false, false, false, false, false, false, false, false, false, false, false, false, false, false, false, false, false, false, false, false, false, false, false, false, false, false, false, false, false, false, false, false, false, false, false, false, false, false, false, false, false, false, false, false, false] (by kernel_rfl) rfl rfl ⟨hx266_0, hx266_1, hx266_2, hx267_0, hx267_1, hx267_2, hx268_0, hx268_1, hx268_2, hx269_0, hx269_1, hx269_2, hx270_0, hx270_1, hx270_2, hx271_0, hx271_1, hx271_2⟩ (fun hHeld => ?_); refine with_tabW beadlelaw06_MergeAgain.tab16 beadlelaw06_MergeAgain.bits16 (fun HT_ HW_ => ?_)
                      generalize wr.drew = w75 at HO_7 HO_8 HO_9 HO_10 HR258 HR262 HB hx266_0 hx266_1 hx266_2 hx267_0 hx267_1 hx267_2 hx268_0 hx268_1 hx268_2 hx269_0 hx269_1 hx269_2 hx270_0 hx270_1 hx270_2 hx271_0 hx271_1 hx271_2 hHeld ⊢
                      refine pure_ (i := 0) (N := some 98) (v := ?_) (a' := ?_) #[true, false, false, false, false, false, false, false, false, false, false, false, false, false, false, false, false, false, false, false, false, false, false, false, false, false, false, false, false, false, false, false, false, false, false, false, false, false, false, false, false, false, false, false, false, false, false, false] rfl rfl (any_of HT_.out (by kernel_rfl)) (fun _ _ _ h => h) (Or.inl ⟨by rfl, ?_⟩) ?_ ?_
                      rotate_left
                      ·
                       intro w'
                       go_simp
                       with_reducible rfl
                      rotate_left
                      ·
                       simp only [Act.put, List.setIfInBounds_toArray, List.set_cons_zero, List.set_cons_succ, i64_w, i32_w]
                       rfl
                      refine pure_ (i := 1) (N := some 99) (v := ?_) (a' := ?_) #[true, true, false, false, false, false, false, false, false, false, false, false, false, false, false, false, false, false, false, false, false, false, false, false, false, false, false, false, false, false, false, false, false, false, false, false, false, false, false, false, false, false, false, false, false, false, false, false] rfl rfl (any_of HT_.out (by kernel_rfl)) (fun _ _ _ h => h) (Or.inl ⟨by rfl, ?_⟩) ?_ ?_
                      rotate_left
                      ·
                       intro w'
                       go_simp
                       with_reducible rfl
                      rotate_left
                      ·
                       simp only [Act.put, List.setIfInBounds_toArray, List.set_cons_zero, List.set_cons_succ, i64_w, i32_w]
                       rfl
                      refine pure_ (i := 2) (N := some 100) (v := ?_) (a' := ?_) #[true, true, true, false, false, false, false, false, false, false, false, false, false, false, false, false, false, false, false, false, false, false, false, false, false, false, false, false, false, false, false, false, false, false, false, false, false, false, false, false, false, false, false, false, false, false, false, false] rfl rfl (any_of HT_.out (by kernel_rfl)) (fun _ _ _ h => h) (Or.inl ⟨by rfl, ?_⟩) ?_ ?_
                      rotate_left
                      ·
                       intro w'
                       go_simp
                       with_reducible rfl
                      rotate_left
                      ·
                       simp only [Act.put, List.setIfInBounds_toArray, List.set_cons_zero, List.set_cons_succ, i64_w, i32_w]
                       rfl
                      refine pure_ (i := 4) (N := some 102) (v := ?_) (a' := ?_) #[true, true, true, false, true, false, false, false, false, false, false, false, false, false, false, false, false, false, false, false, false, false, false, false, false, false, false, false, false, false, false, false, false, false, false, false, false, false, false, false, false, false, false, false, false, false, false, false] rfl rfl (any_of HT_.out (by kernel_rfl)) (fun _ _ _ h => h) (Or.inl ⟨by rfl, ?_⟩) ?_ ?_
                      rotate_left
                      ·
                       intro w'
                       go_simp
                       with_reducible rfl
                      rotate_left
                      ·
                       simp only [Act.put, List.setIfInBounds_toArray, List.set_cons_zero, List.set_cons_succ, i64_w, i32_w]
                       rfl
                      refine pure_ (i := 5) (N := some 103) (v := ?_) (a' := ?_) #[true, true, true, false, true, true, false, false, false, false, false, false, false, false, false, false, false, false, false, false, false, false, false, false, false, false, false, false, false, false, false, false, false, false, false, false, false, false, false, false, false, false, false, false, false, false, false, false] rfl rfl (any_of HT_.out (by kernel_rfl)) (fun _ _ _ h => h) (Or.inl ⟨by rfl, ?_⟩) ?_ ?_
                      rotate_left
                      ·
                       intro w'
                       go_simp
                       with_reducible rfl
                      rotate_left
                      ·
                       simp only [Act.put, List.setIfInBounds_toArray, List.set_cons_zero, List.set_cons_succ, i64_w, i32_w]
                       rfl
                      refine pure_ (i := 6) (N := some 104) (v := ?_) (a' := ?_) #[true, true, true, false, true, true, true, false, false, false, false, false, false, false, false, false, false, false, false, false, false, false, false, false, false, false, false, false, false, false, false, false, false, false, false, false, false, false, false, false, false, false, false, false, false, false, false, false] rfl rfl (any_of HT_.out (by kernel_rfl)) (fun _ _ _ h => h) (Or.inl ⟨by rfl, ?_⟩) ?_ ?_
                      rotate_left
                      ·
                       intro w'
                       go_simp
                       with_reducible rfl
                      rotate_left
                      ·
                       simp only [Act.put, List.setIfInBounds_toArray, List.set_cons_zero, List.set_cons_succ, i64_w, i32_w]
                       rfl
                      refine take_ (i := 3) (N := some 101) (v := ?_) (a' := ?_) #[true, true, true, true, true, true, true, false, false, false, false, false, false, false, false, false, false, false, false, false, false, false, false, false, false, false, false, false, false, false, false, false, false, false, false, false, false, false, false, false, false, false, false, false, false, false, false, false] rfl rfl (take_ofW HT_.out HW_.out (by kernel_rfl)) (fun _ _ _ h => h) (Or.inl ⟨by rfl, ?_⟩) hHeld ?_ ?_
                      rotate_left
                      ·
                       rintro w' ⟨s0, s1, s2, s3, s4, s5, s6, s7, s8, s9, s10, s11, s12, s13, s14, s15, s16, s17⟩
                       go_simp
                       with_reducible rfl
                      rotate_left
                      ·
                       simp only [Act.put, List.setIfInBounds_toArray, List.set_cons_zero, List.set_cons_succ, i64_w, i32_w]
                       rfl
                      refine take_ (i := 7) (N := some 105) (v := ?_) (a' := ?_) #[true, true, true, true, true, true, true, true, false, false, false, false, false, false, false, false, false, false, false, false, false, false, false, false, false, false, false, false, false, false, false, false, false, false, false, false, false, false, false, false, false, false, false, false, false, false, false, false] rfl rfl (take_ofW HT_.out HW_.out (by kernel_rfl)) (fun _ _ _ h => h) (Or.inl ⟨by rfl, ?_⟩) hHeld ?_ ?_
                      rotate_left
                      ·
                       rintro w' ⟨s0, s1, s2, s3, s4, s5, s6, s7, s8, s9, s10, s11, s12, s13, s14, s15, s16, s17⟩
                       go_simp
                       with_reducible rfl
                      rotate_left
                      ·
                       simp only [Act.put, List.setIfInBounds_toArray, List.set_cons_zero, List.set_cons_succ, i64_w, i32_w]
                       rfl
                      refine pure_ (i := 8) (N := some 106) (v := ?_) (a' := ?_) #[true, true, true, true, true, true, true, true, true, false, false, false, false, false, false, false, false, false, false, false, false, false, false, false, false, false, false, false, false, false, false, false, false, false, false, false, false, false, false, false, false, false, false, false, false, false, false, false] rfl rfl (any_of HT_.out (by kernel_rfl)) (fun _ _ _ h => h) (Or.inl ⟨by rfl, ?_⟩) ?_ ?_
                      rotate_left
                      ·
                       intro w'
                       go_simp
                       with_reducible rfl
                      rotate_left
                      ·
                       simp only [Act.put, List.setIfInBounds_toArray, List.set_cons_zero, List.set_cons_succ, i64_w, i32_w]
                       rfl
                      refine pure_ (i := 9) (N := some 107) (v := ?_) (a' := ?_) #[true, true, true, true, true, true, true, true, true, true, false, false, false, false, false, false, false, false, false, false, false, false, false, false, false, false, false, false, false, false, false, false, false, false, false, false, false, false, false, false, false, false, false, false, false, false, false, false] rfl rfl (any_of HT_.out (by kernel_rfl)) (fun _ _ _ h => h) (Or.inl ⟨by rfl, ?_⟩) ?_ ?_
                      rotate_left
                      ·
                       intro w'
                       go_simp
                       with_reducible rfl
                      rotate_left
                      ·
                       simp only [Act.put, List.setIfInBounds_toArray, List.set_cons_zero, List.set_cons_succ, i64_w, i32_w]
                       rfl
                      refine pure_ (i := 10) (N := some 108) (v := ?_) (a' := ?_) #[true, true, true, true, true, true, true, true, true, true, true, false, false, false, false, false, false, false, false, false, false, false, false, false, false, false, false, false, false, false, false, false, false, false, false, false, false, false, false, false, false, false, false, false, false, false, false, false] rfl rfl (any_of HT_.out (by kernel_rfl)) (fun _ _ _ h => h) (Or.inl ⟨by rfl, ?_⟩) ?_ ?_
                      rotate_left
                      ·
                       intro w'
                       go_simp
                       with_reducible rfl
                      rotate_left
                      ·
                       simp only [Act.put, List.setIfInBounds_toArray, List.set_cons_zero, List.set_cons_succ, i64_w, i32_w]
                       rfl
                      refine pure_ (i := 11) (N := some 109) (v := ?_) (a' := ?_) #[true, true, true, true, true, true, true, true, true, true, true, true, false, false, false, false, false, false, false, false, false, false, false, false, false, false, false, false, false, false, false, false, false, false, false, false, false, false, false, false, false, false, false, false, false, false, false, false] rfl rfl (any_of HT_.out (by kernel_rfl)) (fun _ _ _ h => h) (Or.inl ⟨by rfl, ?_⟩) ?_ ?_
                      rotate_left
                      ·
                       intro w'
                       go_simp
                       with_reducible rfl
                      rotate_left
                      ·
                       simp only [Act.put, List.setIfInBounds_toArray, List.set_cons_zero, List.set_cons_succ, i64_w, i32_w]
                       rfl
                      refine pure_ (i := 12) (N := some 110) (v := ?_) (a' := ?_) #[true, true, true, true, true, true, true, true, true, true, true, true, true, false, false, false, false, false, false, false, false, false, false, false, false, false, false, false, false, false, false, false, false, false, false, false, false, false, false, false, false, false, false, false, false, false, false, false] rfl rfl (any_of HT_.out (by kernel_rfl)) (fun _ _ _ h => h) (Or.inl ⟨by rfl, ?_⟩) ?_ ?_
                      rotate_left
                      ·
                       intro w'
                       go_simp
                       with_reducible rfl
                      rotate_left
                      ·
                       simp only [Act.put, List.setIfInBounds_toArray, List.set_cons_zero, List.set_cons_succ, i64_w, i32_w]
                       rfl
                      refine pure_ (i := 14) (N := some 112) (v := ?_) (a' := ?_) #[true, true, true, true, true, true, true, true, true, true, true, true, true, false, true, false, false, false, false, false, false, false, false, false, false, false, false, false, false, false, false, false, false, false, false, false, false, false, false, false, false, false, false, false, false, false, false, false] rfl rfl (any_of HT_.out (by kernel_rfl)) (fun _ _ _ h => h) (Or.inl ⟨by rfl, ?_⟩) ?_ ?_
                      rotate_left
                      ·
                       intro w'
                       go_simp
                       with_reducible rfl
                      rotate_left
                      ·
                       simp only [Act.put, List.setIfInBounds_toArray, List.set_cons_zero, List.set_cons_succ, i64_w, i32_w]
                       rfl
                      refine pure_ (i := 15) (N := some 113) (v := ?_) (a' := ?_) #[true, true, true, true, true, true, true, true, true, true, true, true, true, false, true, true, false, false, false, false, false, false, false, false, false, false, false, false, false, false, false, false, false, false, false, false, false, false, false, false, false, false, false, false, false, false, false, false] rfl rfl (any_of HT_.out (by kernel_rfl)) (fun _ _ _ h => h) (Or.inl ⟨by rfl, ?_⟩) ?_ ?_
                      rotate_left
                      ·
                       intro w'
                       go_simp
                       with_reducible rfl
                      rotate_left
                      ·
                       simp only [Act.put, List.setIfInBounds_toArray, List.set_cons_zero, List.set_cons_succ, i64_w, i32_w]
                       rfl
                      refine pure_ (i := 16) (N := some 114) (v := ?_) (a' := ?_) #[true, true, true, true, true, true, true, true, true, true, true, true, true, false, true, true, true, false, false, false, false, false, false, false, false, false, false, false, false, false, false, false, false, false, false, false, false, false, false, false, false, false, false, false, false, false, false, false] rfl rfl (any_of HT_.out (by kernel_rfl)) (fun _ _ _ h => h) (Or.inl ⟨by rfl, ?_⟩) ?_ ?_
                      rotate_left
                      ·
                       intro w'
                       go_simp
                       with_reducible rfl
                      rotate_left
                      ·
                       simp only [Act.put, List.setIfInBounds_toArray, List.set_cons_zero, List.set_cons_succ, i64_w, i32_w]
                       rfl
                      refine take_ (i := 13) (N := some 111) (v := ?_) (a' := ?_) #[true, true, true, true, true, true, true, true, true, true, true, true, true, true, true, true, true, false, false, false, false, false, false, false, false, false, false, false, false, false, false, false, false, false, false, false, false, false, false, false, false, false, false, false, false, false, false, false] rfl rfl (take_ofW HT_.out HW_.out (by kernel_rfl)) (fun _ _ _ h => h) (Or.inl ⟨by rfl, ?_⟩) hHeld ?_ ?_
                      rotate_left
                      ·
                       rintro w' ⟨s0, s1, s2, s3, s4, s5, s6, s7, s8, s9, s10, s11, s12, s13, s14, s15, s16, s17⟩
                       go_simp
                       with_reducible rfl
                      rotate_left
                      ·
                       simp only [Act.put, List.setIfInBounds_toArray, List.set_cons_zero, List.set_cons_succ, i64_w, i32_w]
                       rfl
                      refine take_ (i := 17) (N := some 115) (v := ?_) (a' := ?_) #[true, true, true, true, true, true, true, true, true, true, true, true, true, true, true, true, true, true, false, false, false, false, false, false, false, false, false, false, false, false, false, false, false, false, false, false, false, false, false, false, false, false, false, false, false, false, false, false] rfl rfl (take_ofW HT_.out HW_.out (by kernel_rfl)) (fun _ _ _ h => h) (Or.inl ⟨by rfl, ?_⟩) hHeld ?_ ?_
                      rotate_left
                      ·
                       rintro w' ⟨s0, s1, s2, s3, s4, s5, s6, s7, s8, s9, s10, s11, s12, s13, s14, s15, s16, s17⟩
                       go_simp
                       with_reducible rfl
                      rotate_left
                      ·
                       simp only [Act.put, List.setIfInBounds_toArray, List.set_cons_zero, List.set_cons_succ, i64_w, i32_w]
                       rfl
                      refine pure_ (i := 18) (N := some 116) (v := ?_) (a' := ?_) #[true, true, true, true, true, true, true, true, true, true, true, true, true, true, true, true, true, true, true, false, false, false, false, false, false, false, false, false, false, false, false, false, false, false, false, false, false, false, false, false, false, false, false, false, false, false, false, false] rfl rfl (any_of HT_.out (by kernel_rfl)) (fun _ _ _ h => h) (Or.inl ⟨by rfl, ?_⟩) ?_ ?_
                      rotate_left
                      ·
                       intro w'
                       go_simp
                       with_reducible rfl
                      rotate_left
                      ·
                       simp only [Act.put, List.setIfInBounds_toArray, List.set_cons_zero, List.set_cons_succ, i64_w, i32_w]
                       rfl
                      refine pure_ (i := 19) (N := some 117) (v := ?_) (a' := ?_) #[true, true, true, true, true, true, true, true, true, true, true, true, true, true, true, true, true, true, true, true, false, false, false, false, false, false, false, false, false, false, false, false, false, false, false, false, false, false, false, false, false, false, false, false, false, false, false, false] rfl rfl (any_of HT_.out (by kernel_rfl)) (fun _ _ _ h => h) (Or.inl ⟨by rfl, ?_⟩) ?_ ?_
                      rotate_left
                      ·
                       intro w'
                       go_simp
                       with_reducible rfl
                      rotate_left
                      ·
                       simp only [Act.put, List.setIfInBounds_toArray, List.set_cons_zero, List.set_cons_succ, i64_w, i32_w]
                       rfl
                      refine pure_ (i := 20) (N := some 118) (v := ?_) (a' := ?_) #[true, true, true, true, true, true, true, true, true, true, true, true, true, true, true, true, true, true, true, true, true, false, false, false, false, false, false, false, false, false, false, false, false, false, false, false, false, false, false, false, false, false, false, false, false, false, false, false] rfl rfl (any_of HT_.out (by kernel_rfl)) (fun _ _ _ h => h) (Or.inl ⟨by rfl, ?_⟩) ?_ ?_
                      rotate_left
                      ·
                       intro w'
                       go_simp
                       with_reducible rfl
                      rotate_left
                      ·
                       simp only [Act.put, List.setIfInBounds_toArray, List.set_cons_zero, List.set_cons_succ, i64_w, i32_w]
                       rfl
                      refine pure_ (i := 21) (N := some 119) (v := ?_) (a' := ?_) #[true, true, true, true, true, true, true, true, true, true, true, true, true, true, true, true, true, true, true, true, true, true, false, false, false, false, false, false, false, false, false, false, false, false, false, false, false, false, false, false, false, false, false, false, false, false, false, false] rfl rfl (any_of HT_.out (by kernel_rfl)) (fun _ _ _ h => h) (Or.inl ⟨by rfl, ?_⟩) ?_ ?_
                      rotate_left
                      ·
                       intro w'
                       go_simp
                       with_reducible rfl
                      rotate_left
                      ·
                       simp only [Act.put, List.setIfInBounds_toArray, List.set_cons_zero, List.set_cons_succ, i64_w, i32_w]
                       rfl
                      refine pure_ (i := 22) (N := some 120) (v := ?_) (a' := ?_) #[true, true, true, true, true, true, true, true, true, true, true, true, true, true, true, true, true, true, true, true, true, true, true, false, false, false, false, false, false, false, false, false, false, false, false, false, false, false, false, false, false, false, false, false, false, false, false, false] rfl rfl (any_of HT_.out (by kernel_rfl)) (fun _ _ _ h => h) (Or.inl ⟨by rfl, ?_⟩) ?_ ?_
                      rotate_left
                      ·
                       intro w'
                       go_simp
                       with_reducible rfl
                      rotate_left
                      ·
                       simp only [Act.put, List.setIfInBounds_toArray, List.set_cons_zero, List.set_cons_succ, i64_w, i32_w]
                       rfl
                      refine pure_ (i := 23) (N := some 121) (v := ?_) (a' := ?_) #[true, true, true, true, true, true, true, true, true, true, true, true, true, true, true, true, true, true, true, true, true, true, true, true, false, false, false, false, false, false, false, false, false, false, false, false, false, false, false, false, false, false, false, false, false, false, false, false] rfl rfl (any_of HT_.out (by kernel_rfl)) (fun _ _ _ h => h) (Or.inl ⟨by rfl, ?_⟩) ?_ ?_
                      rotate_left
                      ·
                       intro w'
                       go_simp
                       with_reducible rfl
                      rotate_left
                      ·
                       simp only [Act.put, List.setIfInBounds_toArray, List.set_cons_zero, List.set_cons_succ, i64_w, i32_w]
                       rfl
                      refine pure_ (i := 25) (N := some 123) (v := ?_) (a' := ?_) #[true, true, true, true, true, true, true, true, true, true, true, true, true, true, true, true, true, true, true, true, true, true, true, true, false, true, false, false, false, false, false, false, false, false, false, false, false, false, false, false, false, false, false, false, false, false, false, false] rfl rfl (any_of HT_.out (by kernel_rfl)) (fun _ _ _ h => h) (Or.inl ⟨by rfl, ?_⟩) ?_ ?_
                      rotate_left
                      ·
                       intro w'
                       go_simp
                       with_reducible rfl
                      rotate_left
                      ·
                       simp only [Act.put, List.setIfInBounds_toArray, List.set_cons_zero, List.set_cons_succ, i64_w, i32_w]
                       rfl
                      refine pure_ (i := 26) (N := some 124) (v := ?_) (a' := ?_) #[true, true, true, true, true, true, true, true, true, true, true, true, true, true, true, true, true, true, true, true, true, true, true, true, false, true, true, false, false, false, false, false, false, false, false, false, false, false, false, false, false, false, false, false, false, false, false, false] rfl rfl (any_of HT_.out (by kernel_rfl)) (fun _ _ _ h => h) (Or.inl ⟨by rfl, ?_⟩) ?_ ?_
                      rotate_left
                      ·
                       intro w'
                       go_simp
                       with_reducible rfl
                      rotate_left
                      ·
                       simp only [Act.put, List.setIfInBounds_toArray, List.set_cons_zero, List.set_cons_succ, i64_w, i32_w]
                       rfl
                      refine pure_ (i := 27) (N := some 125) (v := ?_) (a' := ?_) #[true, true, true, true, true, true, true, true, true, true, true, true, true, true, true, true, true, true, true, true, true, true, true, true, false, true, true, true, false, false, false, false, false, false, false, false, false, false, false, false, false, false, false, false, false, false, false, false] rfl rfl (any_of HT_.out (by kernel_rfl)) (fun _ _ _ h => h) (Or.inl ⟨by rfl, ?_⟩) ?_ ?_
                      rotate_left
                      ·
                       intro w'
                       go_simp
                       with_reducible rfl
                      rotate_left
                      ·
                       simp only [Act.put, List.setIfInBounds_toArray, List.set_cons_zero, List.set_cons_succ, i64_w, i32_w]
                       rfl
                      refine take_ (i := 24) (N := some 122) (v := ?_) (a' := ?_) #[true, true, true, true, true, true, true, true, true, true, true, true, true, true, true, true, true, true, true, true, true, true, true, true, true, true, true, true, false, false, false, false, false, false, false, false, false, false, false, false, false, false, false, false, false, false, false, false] rfl rfl (take_ofW HT_.out HW_.out (by kernel_rfl)) (fun _ _ _ h => h) (Or.inl ⟨by rfl, ?_⟩) hHeld ?_ ?_
                      rotate_left
                      ·
                       rintro w' ⟨s0, s1, s2, s3, s4, s5, s6, s7, s8, s9, s10, s11, s12, s13, s14, s15, s16, s17⟩
                       go_simp
                       with_reducible rfl
                      rotate_left
                      ·
                       simp only [Act.put, List.setIfInBounds_toArray, List.set_cons_zero, List.set_cons_succ, i64_w, i32_w]
                       rfl
                      refine take_ (i := 28) (N := some 126) (v := ?_) (a' := ?_) #[true, true, true, true, true, true, true, true, true, true, true, true, true, true, true, true, true, true, true, true, true, true, true, true, true, true, true, true, true, false, false, false, false, false, false, false, false, false, false, false, false, false, false, false, false, false, false, false] rfl rfl (take_ofW HT_.out HW_.out (by kernel_rfl)) (fun _ _ _ h => h) (Or.inl ⟨by rfl, ?_⟩) hHeld ?_ ?_
                      rotate_left
                      ·
                       rintro w' ⟨s0, s1, s2, s3, s4, s5, s6, s7, s8, s9, s10, s11, s12, s13, s14, s15, s16, s17⟩
                       go_simp
                       with_reducible rfl
                      rotate_left
                      ·
                       simp only [Act.put, List.setIfInBounds_toArray, List.set_cons_zero, List.set_cons_succ, i64_w, i32_w]
                       rfl
                      refine pure_ (i := 29) (N := some 127) (v := ?_) (a' := ?_) #[true, true, true, true, true, true, true, true, true, true, true, true, true, true, true, true, true, true, true, true, true, true, true, true, true, true, true, true, true, true, false, false, false, false, false, false, false, false, false, false, false, false, false, false, false, false, false, false] rfl rfl (any_of HT_.out (by kernel_rfl)) (fun _ _ _ h => h) (Or.inl ⟨by rfl, ?_⟩) ?_ ?_
                      rotate_left
                      ·
                       intro w'
                       go_simp
                       with_reducible rfl
                      rotate_left
                      ·
                       simp only [Act.put, List.setIfInBounds_toArray, List.set_cons_zero, List.set_cons_succ, i64_w, i32_w]
                       rfl
                      refine pure_ (i := 30) (N := some 128) (v := ?_) (a' := ?_) #[true, true, true, true, true, true, true, true, true, true, true, true, true, true, true, true, true, true, true, true, true, true, true, true, true, true, true, true, true, true, true, false, false, false, false, false, false, false, false, false, false, false, false, false, false, false, false, false] rfl rfl (any_of HT_.out (by kernel_rfl)) (fun _ _ _ h => h) (Or.inl ⟨by rfl, ?_⟩) ?_ ?_
                      rotate_left
                      ·
                       intro w'
                       go_simp
                       with_reducible rfl
                      rotate_left
                      ·
                       simp only [Act.put, List.setIfInBounds_toArray, List.set_cons_zero, List.set_cons_succ, i64_w, i32_w]
                       rfl
                      refine pure_ (i := 31) (N := some 129) (v := ?_) (a' := ?_) #[true, true, true, true, true, true, true, true, true, true, true, true, true, true, true, true, true, true, true, true, true, true, true, true, true, true, true, true, true, true, true, true, false, false, false, false, false, false, false, false, false, false, false, false, false, false, false, false] rfl rfl (any_of HT_.out (by kernel_rfl)) (fun _ _ _ h => h) (Or.inl ⟨by rfl, ?_⟩) ?_ ?_
                      rotate_left
                      ·
                       intro w'
                       go_simp
                       with_reducible rfl
                      rotate_left
                      ·
                       simp only [Act.put, List.setIfInBounds_toArray, List.set_cons_zero, List.set_cons_succ, i64_w, i32_w]
                       rfl
                      refine pure_ (i := 32) (N := some 130) (v := ?_) (a' := ?_) #[true, true, true, true, true, true, true, true, true, true, true, true, true, true, true, true, true, true, true, true, true, true, true, true, true, true, true, true, true, true, true, true, true, false, false, false, false, false, false, false, false, false, false, false, false, false, false, false] rfl rfl (any_of HT_.out (by kernel_rfl)) (fun _ _ _ h => h) (Or.inl ⟨by rfl, ?_⟩) ?_ ?_
                      rotate_left
                      ·
                       intro w'
                       go_simp
                       with_reducible rfl
                      rotate_left
                      ·
                       simp only [Act.put, List.setIfInBounds_toArray, List.set_cons_zero, List.set_cons_succ, i64_w, i32_w]
                       rfl
                      refine pure_ (i := 33) (N := some 131) (v := ?_) (a' := ?_) #[true, true, true, true, true, true, true, true, true, true, true, true, true, true, true, true, true, true, true, true, true, true, true, true, true, true, true, true, true, true, true, true, true, true, false, false, false, false, false, false, false, false, false, false, false, false, false, false] rfl rfl (any_of HT_.out (by kernel_rfl)) (fun _ _ _ h => h) (Or.inl ⟨by rfl, ?_⟩) ?_ ?_
                      rotate_left
                      ·
                       intro w'
                       go_simp
                       with_reducible rfl
                      rotate_left
                      ·
                       simp only [Act.put, List.setIfInBounds_toArray, List.set_cons_zero, List.set_cons_succ, i64_w, i32_w]
                       rfl
                      refine pure_ (i := 34) (N := some 132) (v := ?_) (a' := ?_) #[true, true, true, true, true, true, true, true, true, true, true, true, true, true, true, true, true, true, true, true, true, true, true, true, true, true, true, true, true, true, true, true, true, true, true, false, false, false, false, false, false, false, false, false, false, false, false, false] rfl rfl (any_of HT_.out (by kernel_rfl)) (fun _ _ _ h => h) (Or.inl ⟨by rfl, ?_⟩) ?_ ?_
                      rotate_left
                      ·
                       intro w'
                       go_simp
                       with_reducible rfl
                      rotate_left
                      ·
                       simp only [Act.put, List.setIfInBounds_toArray, List.set_cons_zero, List.set_cons_succ, i64_w, i32_w]
                       rfl
                      refine pure_ (i := 35) (N := some 133) (v := undef) (a' := ?_) #[true, true, true, true, true, true, true, true, true, true, true, true, true, true, true, true, true, true, true, true, true, true, true, true, true, true, true, true, true, true, true, true, true, true, true, true, false, false, false, false, false, false, false, false, false, false, false, false] rfl rfl (any_of HT_.out (by kernel_rfl)) (fun _ _ _ h => h) (Or.inr ⟨by rfl, rfl⟩) ?_ ?_
                      rotate_left
                      ·
                       simp only [Act.put, List.setIfInBounds_toArray, List.set_cons_zero, List.set_cons_succ, i64_w, i32_w]
                       rfl
                      refine pure_ (i := 36) (N := some 134) (v := undef) (a' := ?_) #[true, true, true, true, true, true, true, true, true, true, true, true, true, true, true, true, true, true, true, true, true, true, true, true, true, true, true, true, true, true, true, true, true, true, true, true, true, false, false, false, false, false, false, false, false, false, false, false] rfl rfl (any_of HT_.out (by kernel_rfl)) (fun _ _ _ h => h) (Or.inr ⟨by rfl, rfl⟩) ?_ ?_
                      rotate_left
                      ·
                       simp only [Act.put, List.setIfInBounds_toArray, List.set_cons_zero, List.set_cons_succ, i64_w, i32_w]
                       rfl
                      refine pure_ (i := 37) (N := some 135) (v := undef) (a' := ?_) #[true, true, true, true, true, true, true, true, true, true, true, true, true, true, true, true, true, true, true, true, true, true, true, true, true, true, true, true, true, true, true, true, true, true, true, true, true, true, false, false, false, false, false, false, false, false, false, false] rfl rfl (any_of HT_.out (by kernel_rfl)) (fun _ _ _ h => h) (Or.inr ⟨by rfl, rfl⟩) ?_ ?_
                      rotate_left
                      ·
                       simp only [Act.put, List.setIfInBounds_toArray, List.set_cons_zero, List.set_cons_succ, i64_w, i32_w]
                       rfl
                      refine pure_ (i := 38) (N := some 136) (v := undef) (a' := ?_) #[true, true, true, true, true, true, true, true, true, true, true, true, true, true, true, true, true, true, true, true, true, true, true, true, true, true, true, true, true, true, true, true, true, true, true, true, true, true, true, false, false, false, false, false, false, false, false, false] rfl rfl (any_of HT_.out (by kernel_rfl)) (fun _ _ _ h => h) (Or.inr ⟨by rfl, rfl⟩) ?_ ?_
                      rotate_left
                      ·
                       simp only [Act.put, List.setIfInBounds_toArray, List.set_cons_zero, List.set_cons_succ, i64_w, i32_w]
                       rfl
                      refine pure_ (i := 39) (N := some 137) (v := undef) (a' := ?_) #[true, true, true, true, true, true, true, true, true, true, true, true, true, true, true, true, true, true, true, true, true, true, true, true, true, true, true, true, true, true, true, true, true, true, true, true, true, true, true, true, false, false, false, false, false, false, false, false] rfl rfl (any_of HT_.out (by kernel_rfl)) (fun _ _ _ h => h) (Or.inr ⟨by rfl, rfl⟩) ?_ ?_
                      rotate_left
                      ·
                       simp only [Act.put, List.setIfInBounds_toArray, List.set_cons_zero, List.set_cons_succ, i64_w, i32_w]
                       rfl
                      refine pure_ (i := 40) (N := some 138) (v := undef) (a' := ?_) #[true, true, true, true, true, true, true, true, true, true, true, true, true, true, true, true, true, true, true, true, true, true, true, true, true, true, true, true, true, true, true, true, true, true, true, true, true, true, true, true, true, false, false, false, false, false, false, false] rfl rfl (any_of HT_.out (by kernel_rfl)) (fun _ _ _ h => h) (Or.inr ⟨by rfl, rfl⟩) ?_ ?_
                      rotate_left
                      ·
                       simp only [Act.put, List.setIfInBounds_toArray, List.set_cons_zero, List.set_cons_succ, i64_w, i32_w]
                       rfl
                      refine pure_ (i := 41) (N := some 139) (v := undef) (a' := ?_) #[true, true, true, true, true, true, true, true, true, true, true, true, true, true, true, true, true, true, true, true, true, true, true, true, true, true, true, true, true, true, true, true, true, true, true, true, true, true, true, true, true, true, false, false, false, false, false, false] rfl rfl (any_of HT_.out (by kernel_rfl)) (fun _ _ _ h => h) (Or.inr ⟨by rfl, rfl⟩) ?_ ?_
                      rotate_left
                      ·
                       simp only [Act.put, List.setIfInBounds_toArray, List.set_cons_zero, List.set_cons_succ, i64_w, i32_w]
                       rfl
                      refine pure_ (i := 42) (N := some 140) (v := undef) (a' := ?_) #[true, true, true, true, true, true, true, true, true, true, true, true, true, true, true, true, true, true, true, true, true, true, true, true, true, true, true, true, true, true, true, true, true, true, true, true, true, true, true, true, true, true, true, false, false, false, false, false] rfl rfl (any_of HT_.out (by kernel_rfl)) (fun _ _ _ h => h) (Or.inr ⟨by rfl, rfl⟩) ?_ ?_
                      rotate_left
                      ·
                       simp only [Act.put, List.setIfInBounds_toArray, List.set_cons_zero, List.set_cons_succ, i64_w, i32_w]
                       rfl
                      refine pure_ (i := 43) (N := some 141) (v := undef) (a' := ?_) #[true, true, true, true, true, true, true, true, true, true, true, true, true, true, true, true, true, true, true, true, true, true, true, true, true, true, true, true, true, true, true, true, true, true, true, true, true, true, true, true, true, true, true, true, false, false, false, false] rfl rfl (any_of HT_.out (by kernel_rfl)) (fun _ _ _ h => h) (Or.inr ⟨by rfl, rfl⟩) ?_ ?_
                      rotate_left
                      ·
                       simp only [Act.put, List.setIfInBounds_toArray, List.set_cons_zero, List.set_cons_succ, i64_w, i32_w]
                       rfl
                      refine pure_ (i := 44) (N := some 142) (v := undef) (a' := ?_) #[true, true, true, true, true, true, true, true, true, true, true, true, true, true, true, true, true, true, true, true, true, true, true, true, true, true, true, true, true, true, true, true, true, true, true, true, true, true, true, true, true, true, true, true, true, false, false, false] rfl rfl (any_of HT_.out (by kernel_rfl)) (fun _ _ _ h => h) (Or.inr ⟨by rfl, rfl⟩) ?_ ?_
                      rotate_left
                      ·
                       simp only [Act.put, List.setIfInBounds_toArray, List.set_cons_zero, List.set_cons_succ, i64_w, i32_w]
                       rfl
                      refine pure_ (i := 45) (N := some 143) (v := undef) (a' := ?_) #[true, true, true, true, true, true, true, true, true, true, true, true, true, true, true, true, true, true, true, true, true, true, true, true, true, true, true, true, true, true, true, true, true, true, true, true, true, true, true, true, true, true, true, true, true, true, false, false] rfl rfl (any_of HT_.out (by kernel_rfl)) (fun _ _ _ h => h) (Or.inr ⟨by rfl, rfl⟩) ?_ ?_
                      rotate_left
                      ·
                       simp only [Act.put, List.setIfInBounds_toArray, List.set_cons_zero, List.set_cons_succ, i64_w, i32_w]
                       rfl
                      refine pure_ (i := 46) (N := some 144) (v := ?_) (a' := ?_) #[true, true, true, true, true, true, true, true, true, true, true, true, true, true, true, true, true, true, true, true, true, true, true, true, true, true, true, true, true, true, true, true, true, true, true, true, true, true, true, true, true, true, true, true, true, true, true, false] rfl rfl (any_of HT_.out (by kernel_rfl)) (fun _ _ _ h => h) (Or.inl ⟨by rfl, ?_⟩) ?_ ?_
                      rotate_left
                      ·
                       intro w'
                       go_simp
                       with_reducible rfl
                      rotate_left
                      ·
                       simp only [Act.put, List.setIfInBounds_toArray, List.set_cons_zero, List.set_cons_succ, i64_w, i32_w]
                       rfl
                      refine pure_ (i := 47) (N := some 145) (v := ?_) (a' := ?_) #[true, true, true, true, true, true, true, true, true, true, true, true, true, true, true, true, true, true, true, true, true, true, true, true, true, true, true, true, true, true, true, true, true, true, true, true, true, true, true, true, true, true, true, true, true, true, true, true] rfl rfl (any_of HT_.out (by kernel_rfl)) (fun _ _ _ h => h) (Or.inl ⟨by rfl, ?_⟩) ?_ ?_
                      rotate_left
                      ·
                       intro w'
                       go_simp
                       with_reducible rfl
                      rotate_left
                      ·
                       simp only [Act.put, List.setIfInBounds_toArray, List.set_cons_zero, List.set_cons_succ, i64_w, i32_w]
                       rfl
                      refine done_ (done_of HT_.out (by kernel_rfl)) ?_
                      try go_wp2
                      go_roundg k3
                      case measure => have := HJ4.out; have := HJ22.out; have := HK3.out; omega
                      case rel => exact ⟨(wrap64 (x11_3 + 1)), (by first | rfl | (simp; done) | (simp [*]; done)), H', ⟨by have := HJ4.out; have := HJ22.out; have := HK3.out; omega⟩, ⟨by (with_reducible repeat (first | apply Kd.R_alloc | apply Kd.R_drewN | apply Kd.R_drew)); exact HO_7.out⟩, ⟨by (with_reducible repeat (first | apply Kd.R_alloc | apply Kd.R_drewN | apply Kd.R_drew)); exact HO_8.out⟩, ⟨by (with_reducible repeat (first | apply Kd.R_alloc | apply Kd.R_drewN | apply Kd.R_drew)); exact HO_9.out⟩, ⟨by (with_reducible repeat (first | apply Kd.R_alloc | apply Kd.R_drewN | apply Kd.R_drew)); exact HO_10.out⟩, ⟨by repeat (first | (with_reducible exact HR258.out) | (with_reducible refine Kd.C_alloc ?_ _) | (with_reducible refine Kd.C_drewN ?_ _) | (with_reducible refine Kd.C_drew ?_) | exact HR258.out)⟩, ⟨by repeat (first | (with_reducible exact HR262.out) | (with_reducible refine Kd.C_alloc ?_ _) | (with_reducible refine Kd.C_drewN ?_ _) | (with_reducible refine Kd.C_drew ?_) | exact HR262.out)⟩, ⟨by repeat (first | (with_reducible first | exact HB.out | apply below_alloc | apply pw_below_drewN | apply below_drew1) | exact HB.out)⟩⟩
                   ·
                    rw [if_neg c53] at H
                    exact absurd H (by simp)
                 ·
                  rw [if_neg c48] at H
                  exact absurd H (by simp)
               ·
                rw [if_neg c44] at H
                exact absurd H (by simp)
              ·
               rw [if_neg c43] at H
               exact absurd H (by simp)
             ·
              rw [if_neg c42] at H
              have c42b0 : decide (x11_3 < (t246.length : Int)) = false := decide_eq_false c42
              clear c42
              go_wp2
              go_ret
              exact ⟨by first | rfl | (simp [errW_none, errW_some] <;> rfl) | (simp only [← hji17]; first | rfl | (simp [errW_none, errW_some] <;> rfl)) | (simp [*, errW_none, errW_some] <;> rfl), by repeat (first | (with_reducible first | exact HB.out | apply below_alloc | apply pw_below_drewN | apply below_drew1) | exact HB.out)⟩
      ·
       rw [if_neg c19] at H
       exact absurd H (by simp)
     ·
      rw [if_neg c18] at H
      exact absurd H (by simp)
 ·
  rw [if_neg c4] at H
  have c4b0 : (t239.toList == ([117, 110, 101, 120, 112, 101, 99, 116, 101, 100, 45, 110, 117, 108, 108, 45, 99, 104, 97, 114, 97, 99, 116, 101, 114] : List UInt8)) = false := beq_eq_false_iff_ne.mpr c4
  have c4b1 : (t239.toList != ([117, 110, 101, 120, 112, 101, 99, 116, 101, 100, 45, 110, 117, 108, 108, 45, 99, 104, 97, 114, 97, 99, 116, 101, 114] : List UInt8)) = true := bne_iff_ne.mpr c4
  exact absurd (Option.some.inj H) (by decide)
end Go.Proofs.Ytkkdpkfachpjeaa.PS
