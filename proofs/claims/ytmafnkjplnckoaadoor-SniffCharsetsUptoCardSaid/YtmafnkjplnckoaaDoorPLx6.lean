/- Written by a program of this session out of the translation: plain functions of the Go functions here and the contracts that tie them to the code; no condition beside those in each statement. -/
import Derived.Test.YtmafnkjplnckoaaDoorPLx0
import Derived.Test.YtmafnkjplnckoaaDoorPLx4
import Derived.Test.YtmafnkjplnckoaaDoorPLx5
import Derived.Test.YtmafnkjplnckoaaDoorGlob
namespace Go.Proofs.YtmafnkjplnckoaaDoor.PL
open Go.RowKit Go.Proofs.YtmafnkjplnckoaaDoorW.PrintWords Go.Proofs.YtmafnkjplnckoaaDoorW.PrintLast Go.Proofs.YtmafnkjplnckoaaDoorW.PrintMore Go.Proofs.YtmafnkjplnckoaaDoor.Glob
attribute [local go_sem] max2_int min2_int max_two min_two max_three min_three max_four min_four   -- for this text's walks alone
set_option linter.unusedVariables false
set_option linter.unusedSimpArgs false

/-! ### beadlelaw01_SniffCharsets: function 4 -/
def beadlelaw01_SniffCharsets.j0 : Nat → ByteArray → Bool → Option (Bool)
  | 0, _, _ => none
  | k + 1, x0, x18 => if x18 = true then (some false) else ((sniff_Charset.f k x0).bind fun bt152 => ((beadleref01_Charset.f k x0).bind fun bt154 => (if bt152.1.toList = bt154.1.toList then (some (bt152.2 == bt154.2)) else (some false))))
def beadlelaw01_SniffCharsets.f (k : Nat) (a0 : ByteArray) : Option (Bool) := (sniff_Charset.f k (⟨#[99, 104, 97, 114, 115, 101, 116, 61, 97]⟩ : ByteArray)).bind fun bt150 => (if bt150.1.toList = ([97] : List UInt8) then (beadlelaw01_SniffCharsets.j0 k a0 (!bt150.2)) else (beadlelaw01_SniffCharsets.j0 k a0 true))
theorem beadlelaw01_SniffCharsets.mono_l : ∀ k, (∀ y0 y1, LeO (beadlelaw01_SniffCharsets.j0 k y0 y1) (beadlelaw01_SniffCharsets.j0 (k + 1) y0 y1))
  | 0 => fun _ _ r h => by simp [beadlelaw01_SniffCharsets.j0] at h
  | k + 1 => by
    have ih0 := beadlelaw01_SniffCharsets.mono_l k
    · intro y0 y1
      unfold beadlelaw01_SniffCharsets.j0
      repeat' first
      | (with_reducible exact ih0 _ _)
      | (with_reducible exact beadleref01_Charset.mono _ _)
      | (with_reducible exact sniff_Charset.mono _ _)
      | (with_reducible exact LeO.refl _)
      | (with_reducible exact LeO.none _)
      | (with_reducible refine LeO.ite ?_ ?_)
      | (with_reducible refine LeO.bind ?_ (fun _ => ?_))
      | exact ih0 _ _
      | exact beadleref01_Charset.mono _ _
      | exact sniff_Charset.mono _ _
      | exact LeO.none _
      | refine LeO.ite ?_ ?_
      | refine LeO.bind ?_ (fun _ => ?_)
theorem beadlelaw01_SniffCharsets.mono : ∀ a0 k, LeO (beadlelaw01_SniffCharsets.f k a0) (beadlelaw01_SniffCharsets.f (k + 1) a0) := by
  intro a0 k
  have ih0 := beadlelaw01_SniffCharsets.mono_l k
  unfold beadlelaw01_SniffCharsets.f
  repeat' first
      | (with_reducible exact ih0 _ _)
      | (with_reducible exact beadleref01_Charset.mono _ _)
      | (with_reducible exact sniff_Charset.mono _ _)
      | (with_reducible exact LeO.refl _)
      | (with_reducible exact LeO.none _)
      | (with_reducible refine LeO.ite ?_ ?_)
      | (with_reducible refine LeO.bind ?_ (fun _ => ?_))
      | exact ih0 _ _
      | exact beadleref01_Charset.mono _ _
      | exact sniff_Charset.mono _ _
      | exact LeO.none _
      | refine LeO.ite ?_ ?_
      | refine LeO.bind ?_ (fun _ => ?_)
set_option maxHeartbeats 8000000 in
set_option maxRecDepth 100000 in
theorem beadlelaw01_SniffCharsets.calls (k : Nat) (a0 : ByteArray) (r : Bool) (w : World) (hG : GW w) (h : beadlelaw01_SniffCharsets.f k a0 = some r) :
    Calls Tryd.prog 4 #[.string a0] w fun e w' => e = .returned (.bool r) ∧ Below w.heap.size w w' := by
  have HG := Aside0.mk hG
  clear hG
  have HB := Aside0.mk (Below.refl w.heap.size w)
  have H : ((sniff_Charset.f k (⟨#[99, 104, 97, 114, 115, 101, 116, 61, 97]⟩ : ByteArray)).bind fun bt150 => (if bt150.1.toList = ([97] : List UInt8) then (beadlelaw01_SniffCharsets.j0 k a0 (!bt150.2)) else (beadlelaw01_SniffCharsets.j0 k a0 true))) = some r := h
  clear h
  replace H := Option.bind_eq_some_iff.mp H
  obtain ⟨⟨t150, t151⟩, A20, H⟩ := H
  replace H : (if t150.toList = ([97] : List UInt8) then (beadlelaw01_SniffCharsets.j0 k a0 (!t151)) else (beadlelaw01_SniffCharsets.j0 k a0 true)) = some r := H
  have A2 := Aside0.mk A20
  clear A20
  have HC3 := Aside0.mk H
  clear H
  go_enter Tryd.func4, Tryd.ntmps4
  go_upto_region 2 with (first | ((with_reducible refine gate_callee (f := 7) rfl ?_); refine goesL_ (some 10) rfl rfl Tryd.func7 (by kernel_rfl) rfl #[.string (⟨#[99, 104, 97, 114, 115, 101, 116, 61, 97]⟩ : ByteArray)] rfl (by (try simp only [List.map_toArray, List.map_cons, List.map_nil]); first | done | rfl | (simp only [List.length_drop, List.length_take]; rfl)) ?_; (with_reducible refine (sniff_Charset.calls k (⟨#[99, 104, 97, 114, 115, 101, 116, 61, 97]⟩ : ByteArray) t150 t151 _ (by repeat (first | exact GW.below HG.out HB.out | exact HG.out | (with_reducible refine GW.alloc ?_ _) | (with_reducible refine GW.drewN ?_ _) | (with_reducible refine GW.drew ?_))) A2.out).mono ?_); rintro e w4 ⟨rfl, hb⟩; refine ⟨_, rfl, ?_⟩; have n0_ := Aside0.mk (below_step (by repeat (first | (with_reducible first | exact HB.out | apply below_alloc | apply pw_below_drewN | apply below_drew1) | exact HB.out)) hb); clear HB; have HB := n0_; clear n0_; (try clear hb); (try clear hb2); (try clear hk); (try clear hi)))
  (try simp only [Act.put, List.setIfInBounds_toArray, List.set_cons_zero, List.set_cons_succ])
  go_cut [18] (fun v18 wc => ∃ (kq : Nat) (x18_2 : Bool), v18 = .bool x18_2 ∧ Aside0 (beadlelaw01_SniffCharsets.j0 kq a0 x18_2 = some r) ∧ Aside0 (kq ≤ k) ∧ Aside0 (Below w.heap.size w wc))
  case first =>
    have H := HC3.out
    clear HC3
    by_cases c5 : t150.toList = ([97] : List UInt8)
    · rw [if_pos c5] at H
      have c5b0 : (t150.toList == ([97] : List UInt8)) = true := beq_iff_eq.mpr c5
      have c5b1 : (t150.toList != ([97] : List UInt8)) = false := bne_eq_false_iff_eq.mpr c5
      clear c5
      (first | rw [c5b0] | (simp only [i64_w, i32_w]; rw [c5b0]) | skip)
      have H' := Aside0.mk H
      clear H
      go_wp2
      go_meet
      case rel => exact ⟨_, (!t151), (by first | rfl | (simp; done) | (simp [*]; done)), H', ⟨by first | omega | exact Nat.le_refl _⟩, ⟨by repeat (first | (with_reducible first | exact HB.out | apply below_alloc | apply pw_below_drewN | apply below_drew1) | exact HB.out)⟩⟩
    · rw [if_neg c5] at H
      have c5b0 : (t150.toList == ([97] : List UInt8)) = false := beq_eq_false_iff_ne.mpr c5
      have c5b1 : (t150.toList != ([97] : List UInt8)) = true := bne_iff_ne.mpr c5
      (first | rw [c5b0] | (simp only [i64_w, i32_w]; rw [c5b0]) | skip)
      have H' := Aside0.mk H
      clear H
      go_wp2
      go_meet
      case rel => exact ⟨_, (true), (by first | rfl | (simp; done) | (simp [*]; done)), H', ⟨by first | omega | exact Nat.le_refl _⟩, ⟨by repeat (first | (with_reducible first | exact HB.out | apply below_alloc | apply pw_below_drewN | apply below_drew1) | exact HB.out)⟩⟩
  case rest =>
    clear HC3
    try clear p2
    try clear c4
    try clear c5
    try clear c5b0
    try clear c5b1
    obtain ⟨kq, x18_2, rfl, HA, HJ2, HB⟩ := hcut
    cases kq with
    | zero => exact absurd HA.out (by simp [beadlelaw01_SniffCharsets.j0])
    | succ kj2 =>
      have H := HA.out
      clear HA
      simp only [beadlelaw01_SniffCharsets.j0] at H
      by_cases c6 : x18_2 = true
      · subst c6
        have H1 : (some false) = some r := by rw [if_pos rfl] at H; exact H
        clear H
        have H := H1
        clear H1
        obtain rfl := Option.some.inj H
        go_wp2
        go_ret
        exact ⟨by first | rfl | (simp [errW_none, errW_some] <;> rfl) | (simp [*, errW_none, errW_some] <;> rfl), by repeat (first | (with_reducible first | exact HB.out | apply below_alloc | apply pw_below_drewN | apply below_drew1) | exact HB.out)⟩
      · replace c6 := Bool.eq_false_iff.mpr c6
        subst c6
        have H1 : ((sniff_Charset.f kj2 a0).bind fun bt152 => ((beadleref01_Charset.f kj2 a0).bind fun bt154 => (if bt152.1.toList = bt154.1.toList then (some (bt152.2 == bt154.2)) else (some false)))) = some r := by rw [if_neg (show ¬ (false = true) by decide)] at H; exact H
        clear H
        have H := H1
        clear H1
        replace H := Option.bind_eq_some_iff.mp H
        obtain ⟨⟨t152, t153⟩, A70, H⟩ := H
        replace H : ((beadleref01_Charset.f kj2 a0).bind fun bt154 => (if t152.toList = bt154.1.toList then (some (t153 == bt154.2)) else (some false))) = some r := H
        have A7 := Aside0.mk A70
        clear A70
        replace H := Option.bind_eq_some_iff.mp H
        obtain ⟨⟨t154, t155⟩, A80, H⟩ := H
        replace H : (if t152.toList = t154.toList then (some (t153 == t155)) else (some false)) = some r := H
        have A8 := Aside0.mk A80
        clear A80
        by_cases c9 : t152.toList = t154.toList
        · rw [if_pos c9] at H
          have c9b0 : (t152.toList == t154.toList) = true := beq_iff_eq.mpr c9
          have c9b1 : (t152.toList != t154.toList) = false := bne_eq_false_iff_eq.mpr c9
          clear c9
          obtain rfl := Option.some.inj H
          go_wp2_with (first | ((with_reducible refine gate_callee (f := 7) rfl ?_); refine goesL_ (some 21) rfl rfl Tryd.func7 (by kernel_rfl) rfl #[.string a0] rfl (by (try simp only [List.map_toArray, List.map_cons, List.map_nil]); first | done | rfl | (simp only [List.length_drop, List.length_take]; rfl)) ?_; (with_reducible refine (sniff_Charset.calls kj2 a0 t152 t153 _ (by repeat (first | exact GW.below HG.out HB.out | exact HG.out | (with_reducible refine GW.alloc ?_ _) | (with_reducible refine GW.drewN ?_ _) | (with_reducible refine GW.drew ?_))) A7.out).mono ?_); rintro e w10 ⟨rfl, hb⟩; refine ⟨_, rfl, ?_⟩; have n0_ := Aside0.mk (below_step (by repeat (first | (with_reducible first | exact HB.out | apply below_alloc | apply pw_below_drewN | apply below_drew1) | exact HB.out)) hb); clear HB; have HB := n0_; clear n0_; (try clear hb); (try clear hb2); (try clear hk); (try clear hi)) | ((with_reducible refine gate_callee (f := 8) rfl ?_); refine goesL_ (some 26) rfl rfl Tryd.func8 (by kernel_rfl) rfl #[.string a0] rfl (by (try simp only [List.map_toArray, List.map_cons, List.map_nil]); first | done | rfl | (simp only [List.length_drop, List.length_take]; rfl)) ?_; (with_reducible refine (beadleref01_Charset.calls kj2 a0 t154 t155 _ A8.out).mono ?_); rintro e w11 ⟨rfl, hb⟩; refine ⟨_, rfl, ?_⟩; have n0_ := Aside0.mk (below_step (by repeat (first | (with_reducible first | exact HB.out | apply below_alloc | apply pw_below_drewN | apply below_drew1) | exact HB.out)) hb); clear HB; have HB := n0_; clear n0_; (try clear hb); (try clear hb2); (try clear hk); (try clear hi)))
          go_ret
          exact ⟨by first | rfl | (simp [errW_none, errW_some] <;> rfl) | (simp [*, errW_none, errW_some] <;> rfl), by repeat (first | (with_reducible first | exact HB.out | apply below_alloc | apply pw_below_drewN | apply below_drew1) | exact HB.out)⟩
        · rw [if_neg c9] at H
          have c9b0 : (t152.toList == t154.toList) = false := beq_eq_false_iff_ne.mpr c9
          have c9b1 : (t152.toList != t154.toList) = true := bne_iff_ne.mpr c9
          obtain rfl := Option.some.inj H
          go_wp2_with (first | ((with_reducible refine gate_callee (f := 7) rfl ?_); refine goesL_ (some 21) rfl rfl Tryd.func7 (by kernel_rfl) rfl #[.string a0] rfl (by (try simp only [List.map_toArray, List.map_cons, List.map_nil]); first | done | rfl | (simp only [List.length_drop, List.length_take]; rfl)) ?_; (with_reducible refine (sniff_Charset.calls kj2 a0 t152 t153 _ (by repeat (first | exact GW.below HG.out HB.out | exact HG.out | (with_reducible refine GW.alloc ?_ _) | (with_reducible refine GW.drewN ?_ _) | (with_reducible refine GW.drew ?_))) A7.out).mono ?_); rintro e w12 ⟨rfl, hb⟩; refine ⟨_, rfl, ?_⟩; have n0_ := Aside0.mk (below_step (by repeat (first | (with_reducible first | exact HB.out | apply below_alloc | apply pw_below_drewN | apply below_drew1) | exact HB.out)) hb); clear HB; have HB := n0_; clear n0_; (try clear hb); (try clear hb2); (try clear hk); (try clear hi)) | ((with_reducible refine gate_callee (f := 8) rfl ?_); refine goesL_ (some 26) rfl rfl Tryd.func8 (by kernel_rfl) rfl #[.string a0] rfl (by (try simp only [List.map_toArray, List.map_cons, List.map_nil]); first | done | rfl | (simp only [List.length_drop, List.length_take]; rfl)) ?_; (with_reducible refine (beadleref01_Charset.calls kj2 a0 t154 t155 _ A8.out).mono ?_); rintro e w13 ⟨rfl, hb⟩; refine ⟨_, rfl, ?_⟩; have n0_ := Aside0.mk (below_step (by repeat (first | (with_reducible first | exact HB.out | apply below_alloc | apply pw_below_drewN | apply below_drew1) | exact HB.out)) hb); clear HB; have HB := n0_; clear n0_; (try clear hb); (try clear hb2); (try clear hk); (try clear hi)))
          go_ret
          exact ⟨by first | rfl | (simp [errW_none, errW_some] <;> rfl) | (simp [*, errW_none, errW_some] <;> rfl), by repeat (first | (with_reducible first | exact HB.out | apply below_alloc | apply pw_below_drewN | apply below_drew1) | exact HB.out)⟩

/-- THE ONE PURE STATEMENT of beadlelaw01_SniffCharsets: yours. -/
def beadlelaw01_SniffCharsets.Pure : Prop := ∀ (a0 : ByteArray), a0.size ≤ 140737488351232 → ∃ k, beadlelaw01_SniffCharsets.f k a0 = some true
end Go.Proofs.YtmafnkjplnckoaaDoor.PL
