/- Written by a program of this session out of the translation: plain functions of the Go functions here and the contracts that tie them to the code; no condition beside those in each statement. -/
import Derived.Test.YtojjpimnjlmepaaDoorPMx0
import Derived.Test.YtojjpimnjlmepaaDoorHRows
namespace Go.Proofs.YtojjpimnjlmepaaDoor.PM
open Go.RowKit Go.Proofs.YtojjpimnjlmepaaDoorW.PrintWords Go.Proofs.YtojjpimnjlmepaaDoorW.PrintLast Go.Proofs.YtojjpimnjlmepaaDoorW.PrintMore
attribute [local go_sem] max2_int min2_int max_two min_two max_three min_three max_four min_four   -- for this text's walks alone
set_option linter.unusedVariables false
set_option linter.unusedSimpArgs false

/-! ### beadleref16_Rows: function 10 -/
def beadleref16_Rows.f  : Option ((List (S34))) := (beadleref16_one.f).bind fun t148 => (if ([] : List (S34)).length + t148.length < 1759218604441 then ((some (([] : List (S34)) ++ t148 : List (S34))).bind fun y151 => ((beadleref16_two.f).bind fun t154 => (if y151.length + t154.length < 1759218604441 then (some (y151 ++ t154)) else (none)))) else (none))
set_option maxHeartbeats 8000000 in
set_option maxRecDepth 100000 in
theorem beadleref16_Rows.calls  (r : List (S34)) (w : World) (h : beadleref16_Rows.f  = some r) :
    Calls Tryd.prog 10 #[] w fun e w' => ∃ v0_ : Value, e = .returned (v0_) ∧ Kd.N k34 34 w' w.heap.size (fun k_ => (w.heap.size ≤ k_)) v0_ r ∧ Below w.heap.size w w' := by
  have HB := Aside0.mk (Below.refl w.heap.size w)
  have H : ((beadleref16_one.f).bind fun t148 => (if ([] : List (S34)).length + t148.length < 1759218604441 then ((some (([] : List (S34)) ++ t148 : List (S34))).bind fun y151 => ((beadleref16_two.f).bind fun t154 => (if y151.length + t154.length < 1759218604441 then (some (y151 ++ t154)) else (none)))) else (none))) = some r := h
  clear h
  replace H := Option.bind_eq_some_iff.mp H
  obtain ⟨t148, A10, H⟩ := H
  replace H : (if ([] : List (S34)).length + t148.length < 1759218604441 then ((some (([] : List (S34)) ++ t148 : List (S34))).bind fun y151 => ((beadleref16_two.f).bind fun t154 => (if y151.length + t154.length < 1759218604441 then (some (y151 ++ t154)) else (none)))) else (none)) = some r := H
  have A1 := Aside0.mk A10
  clear A10
  by_cases c2 : ([] : List (S34)).length + t148.length < 1759218604441
  · rw [if_pos c2] at H
    have LMc2 := Aside0.mk c2
    clear c2
    obtain ⟨y151, hy151⟩ : ∃ y_ : List (S34), y_ = (([] : List (S34)) ++ t148) := ⟨_, rfl⟩
    replace H : ((beadleref16_two.f).bind fun t154 => (if y151.length + t154.length < 1759218604441 then (some (y151 ++ t154)) else (none))) = some r := by first | (rw [hy151]; with_reducible exact H) | (have H2_ := (Option.bind_some _ _).symm.trans H; rw [hy151]; with_reducible exact H2_) | (have H2_ := (Option.bind_some _ _).symm.trans H; with_reducible exact H2_) | with_reducible exact H | (rw [hy151]; exact H) | exact H
    have Ny151 := Aside0.mk hy151
    clear hy151
    replace H := Option.bind_eq_some_iff.mp H
    obtain ⟨t154, A30, H⟩ := H
    replace H : (if y151.length + t154.length < 1759218604441 then (some (y151 ++ t154)) else (none)) = some r := H
    have A3 := Aside0.mk A30
    clear A30
    by_cases c4 : y151.length + t154.length < 1759218604441
    · rw [if_pos c4] at H
      have LMc4 := Aside0.mk c4
      clear c4
      obtain ⟨y157, hy157⟩ : ∃ y_ : List (S34), y_ = (y151 ++ t154) := ⟨_, rfl⟩
      replace H : (some y157) = some r := by first | (rw [hy157]; with_reducible exact H) | (have H2_ := (Option.bind_some _ _).symm.trans H; rw [hy157]; with_reducible exact H2_) | (have H2_ := (Option.bind_some _ _).symm.trans H; with_reducible exact H2_) | with_reducible exact H | (rw [hy157]; exact H) | exact H
      have Ny157 := Aside0.mk hy157
      clear hy157
      obtain rfl := Option.some.inj H
      go_enter Tryd.func10, Tryd.ntmps10
      go_wp2_with (first | ((with_reducible refine gate_callee (f := 23) rfl ?_); refine goesL_ (some 3) rfl rfl Tryd.func23 (by kernel_rfl) rfl #[] rfl (by (try simp only [List.map_toArray, List.map_cons, List.map_nil]); first | done | rfl | (simp only [List.length_drop, List.length_take]; rfl)) ?_; (with_reducible refine (beadleref16_one.calls  t148 _ A1.out).mono ?_); rintro e w5 ⟨v149, rfl, ho0, hb⟩; refine ⟨_, rfl, ?_⟩; have n0_ := Aside0.mk (Kd.N_lower (Kd.N_mono (ok' := fun k_ => (w.heap.size ≤ k_)) (Kd.R_N (Kd.R_bound ho0)) (fun k_ hk_ => (Nat.le_trans (below_size (by repeat (first | (with_reducible first | exact HB.out | apply below_alloc | apply pw_below_drewN | apply below_drew1) | exact HB.out))) hk_.2.1))) (below_size (by repeat (first | (with_reducible first | exact HB.out | apply below_alloc | apply pw_below_drewN | apply below_drew1) | exact HB.out)))); have n1_ := Aside0.mk (below_step (by repeat (first | (with_reducible first | exact HB.out | apply below_alloc | apply pw_below_drewN | apply below_drew1) | exact HB.out)) hb); clear HB; have HO150 := n0_; have HB := n1_; clear n0_ n1_; (try clear hb); (try clear hb2); (try clear hk); (try clear hi); (try clear ho0); obtain ⟨Ao7, co7, eo7⟩ := Kd.N_slice HO150.out; subst eo7) | ((with_reducible refine gate_builtin (b := .append) (xs := #[.tmp 2, .tmp 3]) rfl ?_); at_builtin; refine Kd.N_append_rows k34 (w0 := w) w.heap.size rfl (.tmp 2) (.tmp 3) 35 34 (.agg #[(.string ⟨#[]⟩), (.string ⟨#[]⟩), (.slice none 0 0), (.slice none 0 0)]) 80 rfl Tryd.underlying35 info34 rfl (by decide) (by omega) (.slice none 0 0) ([] : List (S34)) t148 _ _ _ (fun k_ => (w.heap.size ≤ k_)) (fun k_ => ((fun k_ => (w.heap.size ≤ k_))) k_ ∧ some k_ ≠ (.slice none 0 0 : Value).ownBlock) rfl rfl ?aO ?aR (fun _ hk => hk) ?aF ?aB ?aS ?aL ?_; (case aR => exact (by skip; exact Kd.N_F (Kd.N_mono (ok' := (fun k_ => ((fun k_ => (w.heap.size ≤ k_))) k_ ∧ some k_ ≠ (.slice none 0 0 : Value).ownBlock)) (HO150.out) (fun k_ hk => ⟨hk, (by simp [Value.ownBlock])⟩)))); (case aB => exact (by repeat (first | (with_reducible first | exact HB.out | apply below_alloc | apply pw_below_drewN | apply below_drew1) | exact HB.out))); (case aF => exact (fun k_ hk => (Nat.le_trans (below_size (by repeat (first | (with_reducible first | exact HB.out | apply below_alloc | apply pw_below_drewN | apply below_drew1) | exact HB.out))) hk))); (case aO => exact ((Kd.N_nil _ _ _ _ (fun k_ => (w.heap.size ≤ k_))))); (case aS => exact (below_size (by repeat (first | (with_reducible first | exact HB.out | apply below_alloc | apply pw_below_drewN | apply below_drew1) | exact HB.out)))); (case aL => have := LMc2.out; omega); intro v152 w6 ho hb hg hat; rw [← Ny151.out] at ho; have n0_ := Aside0.mk (Kd.N_afterv (Kd.N_apart_nil (by (with_reducible repeat (first | apply Kd.N_alloc | apply Kd.N_drewN | apply Kd.N_drew)); exact HO150.out)) hg hat); have n1_ := Aside0.mk (hb); have n2_ := Aside0.mk (ho); clear HO150; clear HB; have HO150 := n0_; have HB := n1_; have HO153 := n2_; clear n0_ n1_ n2_; clear ho hb hg hat) | ((with_reducible refine gate_callee (f := 24) rfl ?_); refine goesL_ (some 6) rfl rfl Tryd.func24 (by kernel_rfl) rfl #[] rfl (by (try simp only [List.map_toArray, List.map_cons, List.map_nil]); first | done | rfl | (simp only [List.length_drop, List.length_take]; rfl)) ?_; (with_reducible refine (beadleref16_two.calls  t154 _ A3.out).mono ?_); rintro e w8 ⟨v155, rfl, ho0, hb⟩; refine ⟨_, rfl, ?_⟩; have n0_ := Aside0.mk (Kd.N_elder' (by (with_reducible repeat (first | apply Kd.N_alloc | apply Kd.N_drewN | apply Kd.N_drew)); exact HO150.out) (Kd.R_base ho0) hb); have n1_ := Aside0.mk (Kd.N_elder' (by (with_reducible repeat (first | apply Kd.N_alloc | apply Kd.N_drewN | apply Kd.N_drew)); exact HO153.out) (Kd.R_base ho0) hb); have n2_ := Aside0.mk (Kd.N_lower (Kd.N_mono (ok' := fun k_ => (w.heap.size ≤ k_) ∧ some k_ ≠ (.slice Ao7 t148.length co7 : Value).ownBlock ∧ some k_ ≠ (v152 : Value).ownBlock) (Kd.R_N (Kd.R_bound ho0)) (fun k_ hk_ => ⟨(Nat.le_trans (below_size (by repeat (first | (with_reducible first | exact HB.out | apply below_alloc | apply pw_below_drewN | apply below_drew1) | exact HB.out))) hk_.2.1), (Kd.fresh' (Kd.N_lt (by (with_reducible repeat (first | apply Kd.N_alloc | apply Kd.N_drewN | apply Kd.N_drew)); exact HO150.out)) k_ hk_.2.1), (Kd.fresh' (Kd.N_lt (by (with_reducible repeat (first | apply Kd.N_alloc | apply Kd.N_drewN | apply Kd.N_drew)); exact HO153.out)) k_ hk_.2.1)⟩)) (below_size (by repeat (first | (with_reducible first | exact HB.out | apply below_alloc | apply pw_below_drewN | apply below_drew1) | exact HB.out)))); have n3_ := Aside0.mk (below_step (by repeat (first | (with_reducible first | exact HB.out | apply below_alloc | apply pw_below_drewN | apply below_drew1) | exact HB.out)) hb); clear HO150; clear HO153; clear HB; have HO150 := n0_; have HO153 := n1_; have HO156 := n2_; have HB := n3_; clear n0_ n1_ n2_ n3_; (try clear hb); (try clear hb2); (try clear hk); (try clear hi); (try clear ho0); obtain ⟨Ao10, co10, eo10⟩ := Kd.N_slice HO156.out; subst eo10) | ((with_reducible refine gate_builtin (b := .append) (xs := #[.tmp 5, .tmp 6]) rfl ?_); at_builtin; refine Kd.N_append_rows k34 (w0 := w) w.heap.size rfl (.tmp 5) (.tmp 6) 35 34 (.agg #[(.string ⟨#[]⟩), (.string ⟨#[]⟩), (.slice none 0 0), (.slice none 0 0)]) 80 rfl Tryd.underlying35 info34 rfl (by decide) (by omega) v152 y151 t154 _ _ _ (fun k_ => (w.heap.size ≤ k_)) (fun k_ => ((fun k_ => (w.heap.size ≤ k_))) k_ ∧ some k_ ≠ (v152 : Value).ownBlock) rfl rfl ?aO ?aR (fun _ hk => hk) ?aF ?aB ?aS ?aL ?_; (case aR => exact (by skip; exact Kd.N_F (Kd.N_mono (ok' := (fun k_ => ((fun k_ => (w.heap.size ≤ k_))) k_ ∧ some k_ ≠ (v152 : Value).ownBlock)) (HO156.out) (fun k_ hk => ⟨hk.1, hk.2.2⟩)))); (case aB => exact (by repeat (first | (with_reducible first | exact HB.out | apply below_alloc | apply pw_below_drewN | apply below_drew1) | exact HB.out))); (case aF => exact (fun k_ hk => (Nat.le_trans (below_size (by repeat (first | (with_reducible first | exact HB.out | apply below_alloc | apply pw_below_drewN | apply below_drew1) | exact HB.out))) hk))); (case aO => exact (by (with_reducible repeat (first | apply Kd.N_alloc | apply Kd.N_drewN | apply Kd.N_drew)); exact Kd.N_mono HO153.out (fun _ hk => hk.1))); (case aS => exact (below_size (by repeat (first | (with_reducible first | exact HB.out | apply below_alloc | apply pw_below_drewN | apply below_drew1) | exact HB.out)))); (case aL => have := LMc4.out; omega); intro v158 w9 ho hb hg hat; rw [← Ny157.out] at ho; have n0_ := Aside0.mk (Kd.N_afterv (ok := (fun k_ => (w.heap.size ≤ k_) ∧ some k_ ≠ (.slice Ao10 t154.length co10 : Value).ownBlock)) (by (with_reducible repeat (first | apply Kd.N_alloc | apply Kd.N_drewN | apply Kd.N_drew)); exact Kd.N_mono HO150.out (fun _ hk => ⟨⟨hk.1.1, hk.2⟩, hk.1.2⟩)) hg hat); have n1_ := Aside0.mk (Kd.N_afterv (ok := (fun k_ => (w.heap.size ≤ k_) ∧ some k_ ≠ (.slice Ao7 t148.length co7 : Value).ownBlock)) (by (with_reducible repeat (first | apply Kd.N_alloc | apply Kd.N_drewN | apply Kd.N_drew)); exact Kd.N_mono HO156.out (fun _ hk => ⟨⟨hk.1, hk.2.1⟩, hk.2.2⟩)) hg hat); have n2_ := Aside0.mk (hb); have n3_ := Aside0.mk (ho); clear HO150; clear HO156; clear HB; clear HO153; have HO150 := n0_; have HO156 := n1_; have HB := n2_; have HO159 := n3_; clear n0_ n1_ n2_ n3_; clear ho hb hg hat))
      go_ret
      exact ⟨_, by first | rfl | (simp [errW_none, errW_some] <;> rfl) | (simp [*, errW_none, errW_some] <;> rfl), by (with_reducible repeat (first | apply Kd.N_alloc | apply Kd.N_drewN | apply Kd.N_drew)); exact HO159.out, by repeat (first | (with_reducible first | exact HB.out | apply below_alloc | apply pw_below_drewN | apply below_drew1) | exact HB.out)⟩
    · rw [if_neg c4] at H
      exact absurd H (by simp)
  · rw [if_neg c2] at H
    exact absurd H (by simp)

/-! ### beadleref16_Of: function 7 -/
def beadleref16_Of.l0 : Nat → ByteArray → List (S34) → Int → Option (Int)
  | 0, _, _, _ => none
  | k + 1, x0, x3, x4 => if x4 < (x3.length : Int) then (if 0 ≤ x4 then (if ((rd_T34 x3 x4).f0).toList = x0.toList then (some x4) else (beadleref16_Of.l0 k x0 x3 (wrap64 (x4 + 1)))) else (none)) else (some (-1))
def beadleref16_Of.f (k : Nat) (a0 : ByteArray) : Option (Int) := (beadleref16_Rows.f).bind fun t160 => (beadleref16_Of.l0 k a0 t160 0)
theorem beadleref16_Of.mono_l : ∀ k, (∀ y0 y1 y2, LeO (beadleref16_Of.l0 k y0 y1 y2) (beadleref16_Of.l0 (k + 1) y0 y1 y2))
  | 0 => fun _ _ _ r h => by simp [beadleref16_Of.l0] at h
  | k + 1 => by
    have ih0 := beadleref16_Of.mono_l k
    · intro y0 y1 y2
      unfold beadleref16_Of.l0
      repeat' first
      | (with_reducible exact ih0 _ _ _)
      | (with_reducible exact LeO.refl _)
      | (with_reducible exact LeO.none _)
      | (with_reducible refine LeO.ite ?_ ?_)
      | (with_reducible refine LeO.bind ?_ (fun _ => ?_))
      | exact ih0 _ _ _
      | exact LeO.none _
      | refine LeO.ite ?_ ?_
      | refine LeO.bind ?_ (fun _ => ?_)
theorem beadleref16_Of.mono : ∀ a0 k, LeO (beadleref16_Of.f k a0) (beadleref16_Of.f (k + 1) a0) := by
  intro a0 k
  have ih0 := beadleref16_Of.mono_l k
  unfold beadleref16_Of.f
  repeat' first
      | (with_reducible exact ih0 _ _ _)
      | (with_reducible exact LeO.refl _)
      | (with_reducible exact LeO.none _)
      | (with_reducible refine LeO.ite ?_ ?_)
      | (with_reducible refine LeO.bind ?_ (fun _ => ?_))
      | exact ih0 _ _ _
      | exact LeO.none _
      | refine LeO.ite ?_ ?_
      | refine LeO.bind ?_ (fun _ => ?_)
set_option maxHeartbeats 8000000 in
set_option maxRecDepth 100000 in
theorem beadleref16_Of.calls (k : Nat) (a0 : ByteArray) (r : Int) (w : World) (h : beadleref16_Of.f k a0 = some r) :
    Calls Tryd.prog 7 #[.string a0] w fun e w' => e = .returned (.int .i64 r) ∧ Below w.heap.size w w' := by
  have HB := Aside0.mk (Below.refl w.heap.size w)
  have H : ((beadleref16_Rows.f).bind fun t160 => (beadleref16_Of.l0 k a0 t160 0)) = some r := h
  clear h
  replace H := Option.bind_eq_some_iff.mp H
  obtain ⟨t160, A20, H⟩ := H
  replace H : (beadleref16_Of.l0 k a0 t160 0) = some r := H
  have A2 := Aside0.mk A20
  clear A20
  have H' := Aside0.mk H
  clear H
  go_enter Tryd.func7, Tryd.ntmps7
  go_wp2_with (first | ((with_reducible refine gate_callee (f := 10) rfl ?_); refine goesL_ (some 5) rfl rfl Tryd.func10 (by kernel_rfl) rfl #[] rfl (by (try simp only [List.map_toArray, List.map_cons, List.map_nil]); first | done | rfl | (simp only [List.length_drop, List.length_take]; rfl)) ?_; (with_reducible refine (beadleref16_Rows.calls  t160 _ A2.out).mono ?_); rintro e w3 ⟨v161, rfl, ho0, hb⟩; refine ⟨_, rfl, ?_⟩; have n0_ := Aside0.mk (Kd.N_lower (Kd.N_mono (ok' := fun k_ => True) ho0 (fun k_ hk_ => trivial)) (below_size (by repeat (first | (with_reducible first | exact HB.out | apply below_alloc | apply pw_below_drewN | apply below_drew1) | exact HB.out)))); have n1_ := Aside0.mk (below_step (by repeat (first | (with_reducible first | exact HB.out | apply below_alloc | apply pw_below_drewN | apply below_drew1) | exact HB.out)) hb); clear HB; have HO162 := n0_; have HB := n1_; clear n0_ n1_; (try clear hb); (try clear hb2); (try clear hk); (try clear hi); (try clear ho0)))
  go_loopg [4] k (fun kq v4 w' => ∃ (x4_1 : Int), v4 = .int .i64 x4_1 ∧ Aside0 (beadleref16_Of.l0 kq a0 t160 x4_1 = some r) ∧ Aside0 (kq ≤ k) ∧ Aside0 (Kd.N k34 34 w' w.heap.size (fun _ => True) v161 t160) ∧ Aside0 (Below w.heap.size w w'))
  case atStart => exact ⟨(0), (by first | rfl | (simp; done) | (simp [*]; done)), H', ⟨Nat.le_refl _⟩, ⟨by (with_reducible repeat (first | apply Kd.N_alloc | apply Kd.N_drewN | apply Kd.N_drew)); exact HO162.out⟩, ⟨by repeat (first | (with_reducible first | exact HB.out | apply below_alloc | apply pw_below_drewN | apply below_drew1) | exact HB.out)⟩⟩
  case round =>
    clear H'
    try clear c1
    try clear p2
    obtain ⟨x4_1, rfl, HA, HK1, HO_3, HB⟩ := hrel
    cases gk with
    | zero => exact absurd HA.out (by simp [beadleref16_Of.l0])
    | succ k1 =>
      have H := HA.out
      clear HA
      simp only [beadleref16_Of.l0] at H
      by_cases c4 : x4_1 < (t160.length : Int)
      · rw [if_pos c4] at H
        have c4b0 : decide (x4_1 < (t160.length : Int)) = true := decide_eq_true c4
        clear c4
        by_cases c5 : 0 ≤ x4_1
        · rw [if_pos c5] at H
          have c5b0 : decide (0 ≤ x4_1) = true := decide_eq_true c5
          clear c5
          by_cases c6 : ((rd_T34 t160 x4_1).f0).toList = a0.toList
          · rw [if_pos c6] at H
            have c6b0 : (((rd_T34 t160 x4_1).f0).toList == a0.toList) = true := beq_iff_eq.mpr c6
            have c6b1 : (((rd_T34 t160 x4_1).f0).toList != a0.toList) = false := bne_eq_false_iff_eq.mpr c6
            clear c6
            obtain rfl := Option.some.inj H
            obtain ⟨Ao7, co7, eo7⟩ := Kd.N_slice HO_3.out
            subst eo7
            have p163 : 0 ≤ (x4_1 : Int) := of_decide_eq_true (by first | (with_reducible assumption) | assumption)
            have q163 : x4_1 < (t160.length : Int) := of_decide_eq_true (by first | (with_reducible assumption) | assumption)
            obtain ⟨ad163, A163_2, c163_2, A163_3, c163_3, e163, hx163_0, hx163_1, hx163_2, hx163_3, hl163_2, hi163_2, hl163_3, hi163_3⟩ := at_T34 (Kd.N_reads' HO_3.out).2.2 x4_1 p163 q163
            cases e163
            obtain ⟨ce163, hce163, hMe163, hcc163⟩ := Kd.N_get HO_3.out z34 x4_1 p163 (by first | exact q163 | exact of_decide_eq_true (by first | (with_reducible assumption) | assumption) | (have e_ := (Kd.N_reads' HO_3.out).1; omega))
            obtain ⟨ua163_2, uc163_2, ua163_3, uc163_3, rfl, ul163_2, ge163_2, ul163_3, ge163_3⟩ := k34_openF hMe163
            have hv163_2 := hcc163 2 _ rfl
            rw [add_field _ _ 2 (by omega)] at hv163_2
            replace hv163_2 := Option.some.inj (hv163_2.symm.trans hx163_2)
            injection hv163_2 with hva_ hvn_ hvc_
            rw [hva_] at ge163_2
            rw [hvc_] at ul163_2
            have HL163_2 := Aside0.mk (show Kd.V Kd.string 9 _ w.heap.size _ _ ((rd_T34 t160 x4_1).f2) from Kd.V_mk ul163_2 ge163_2)
            clear hva_ hvn_ hvc_ ge163_2 ul163_2
            have hv163_3 := hcc163 3 _ rfl
            rw [add_field _ _ 3 (by omega)] at hv163_3
            replace hv163_3 := Option.some.inj (hv163_3.symm.trans hx163_3)
            injection hv163_3 with hva_ hvn_ hvc_
            rw [hva_] at ge163_3
            rw [hvc_] at ul163_3
            have HL163_3 := Aside0.mk (show Kd.V k40 40 _ w.heap.size _ _ ((rd_T34 t160 x4_1).f3) from Kd.V_mk ul163_3 ge163_3)
            clear hva_ hvn_ hvc_ ge163_3 ul163_3
            clear hcc163 hce163
            have HR163_2 := Aside0.mk hi163_2
            have HC163_2 := Aside0.mk hl163_2
            clear hi163_2 hl163_2
            have HR163_3 := Aside0.mk hi163_3
            have HC163_3 := Aside0.mk hl163_3
            clear hi163_3 hl163_3
            replace p163 := eq_true p163
            replace q163 := eq_true q163
            go_wp2
            go_ret
            exact ⟨by first | rfl | (simp [errW_none, errW_some] <;> rfl) | (simp [*, errW_none, errW_some] <;> rfl), by repeat (first | (with_reducible first | exact HB.out | apply below_alloc | apply pw_below_drewN | apply below_drew1) | exact HB.out)⟩
          · rw [if_neg c6] at H
            have c6b0 : (((rd_T34 t160 x4_1).f0).toList == a0.toList) = false := beq_eq_false_iff_ne.mpr c6
            have c6b1 : (((rd_T34 t160 x4_1).f0).toList != a0.toList) = true := bne_iff_ne.mpr c6
            have H' := Aside0.mk H
            clear H
            obtain ⟨Ao8, co8, eo8⟩ := Kd.N_slice HO_3.out
            subst eo8
            have p163 : 0 ≤ (x4_1 : Int) := of_decide_eq_true (by first | (with_reducible assumption) | assumption)
            have q163 : x4_1 < (t160.length : Int) := of_decide_eq_true (by first | (with_reducible assumption) | assumption)
            obtain ⟨ad163, A163_2, c163_2, A163_3, c163_3, e163, hx163_0, hx163_1, hx163_2, hx163_3, hl163_2, hi163_2, hl163_3, hi163_3⟩ := at_T34 (Kd.N_reads' HO_3.out).2.2 x4_1 p163 q163
            cases e163
            obtain ⟨ce163, hce163, hMe163, hcc163⟩ := Kd.N_get HO_3.out z34 x4_1 p163 (by first | exact q163 | exact of_decide_eq_true (by first | (with_reducible assumption) | assumption) | (have e_ := (Kd.N_reads' HO_3.out).1; omega))
            obtain ⟨ua163_2, uc163_2, ua163_3, uc163_3, rfl, ul163_2, ge163_2, ul163_3, ge163_3⟩ := k34_openF hMe163
            have hv163_2 := hcc163 2 _ rfl
            rw [add_field _ _ 2 (by omega)] at hv163_2
            replace hv163_2 := Option.some.inj (hv163_2.symm.trans hx163_2)
            injection hv163_2 with hva_ hvn_ hvc_
            rw [hva_] at ge163_2
            rw [hvc_] at ul163_2
            have HL163_2 := Aside0.mk (show Kd.V Kd.string 9 _ w.heap.size _ _ ((rd_T34 t160 x4_1).f2) from Kd.V_mk ul163_2 ge163_2)
            clear hva_ hvn_ hvc_ ge163_2 ul163_2
            have hv163_3 := hcc163 3 _ rfl
            rw [add_field _ _ 3 (by omega)] at hv163_3
            replace hv163_3 := Option.some.inj (hv163_3.symm.trans hx163_3)
            injection hv163_3 with hva_ hvn_ hvc_
            rw [hva_] at ge163_3
            rw [hvc_] at ul163_3
            have HL163_3 := Aside0.mk (show Kd.V k40 40 _ w.heap.size _ _ ((rd_T34 t160 x4_1).f3) from Kd.V_mk ul163_3 ge163_3)
            clear hva_ hvn_ hvc_ ge163_3 ul163_3
            clear hcc163 hce163
            have HR163_2 := Aside0.mk hi163_2
            have HC163_2 := Aside0.mk hl163_2
            clear hi163_2 hl163_2
            have HR163_3 := Aside0.mk hi163_3
            have HC163_3 := Aside0.mk hl163_3
            clear hi163_3 hl163_3
            replace p163 := eq_true p163
            replace q163 := eq_true q163
            go_wp2
            go_roundg k1
            case measure => have := HK1.out; omega
            case rel => exact ⟨(wrap64 (x4_1 + 1)), (by first | rfl | (simp; done) | (simp [*]; done)), H', ⟨by have := HK1.out; omega⟩, ⟨by (with_reducible repeat (first | apply Kd.N_alloc | apply Kd.N_drewN | apply Kd.N_drew)); exact HO_3.out⟩, ⟨by repeat (first | (with_reducible first | exact HB.out | apply below_alloc | apply pw_below_drewN | apply below_drew1) | exact HB.out)⟩⟩
        · rw [if_neg c5] at H
          exact absurd H (by simp)
      · rw [if_neg c4] at H
        have c4b0 : decide (x4_1 < (t160.length : Int)) = false := decide_eq_false c4
        clear c4
        obtain rfl := Option.some.inj H
        obtain ⟨Ao9, co9, eo9⟩ := Kd.N_slice HO_3.out
        subst eo9
        go_wp2
        go_ret
        exact ⟨by first | rfl | (simp [errW_none, errW_some] <;> rfl) | (simp [*, errW_none, errW_some] <;> rfl), by repeat (first | (with_reducible first | exact HB.out | apply below_alloc | apply pw_below_drewN | apply below_drew1) | exact HB.out)⟩

/-! ### beadleref16_All: function 27 -/
def beadleref16_All.f  : Option ((List (S40))) := some (([(⟨(⟨#[97, 99, 99, 101, 115, 115, 107, 101, 121]⟩ : ByteArray), (⟨#[116, 111, 107, 101, 110, 115]⟩ : ByteArray), false⟩ : S40), (⟨(⟨#[97, 114, 105, 97, 45, 99, 111, 110, 116, 114, 111, 108, 115]⟩ : ByteArray), (⟨#[105, 100, 115]⟩ : ByteArray), false⟩ : S40), (⟨(⟨#[97, 114, 105, 97, 45, 100, 101, 115, 99, 114, 105, 98, 101, 100, 98, 121]⟩ : ByteArray), (⟨#[105, 100, 115]⟩ : ByteArray), false⟩ : S40), (⟨(⟨#[97, 114, 105, 97, 45, 108, 97, 98, 101, 108]⟩ : ByteArray), (⟨#[116, 101, 120, 116]⟩ : ByteArray), false⟩ : S40), (⟨(⟨#[97, 114, 105, 97, 45, 108, 97, 98, 101, 108, 108, 101, 100, 98, 121]⟩ : ByteArray), (⟨#[105, 100, 115]⟩ : ByteArray), false⟩ : S40), (⟨(⟨#[97, 114, 105, 97, 45, 111, 119, 110, 115]⟩ : ByteArray), (⟨#[105, 100, 115]⟩ : ByteArray), false⟩ : S40), (⟨(⟨#[99, 108, 97, 115, 115]⟩ : ByteArray), (⟨#[116, 111, 107, 101, 110, 115]⟩ : ByteArray), false⟩ : S40), (⟨(⟨#[100, 105, 114]⟩ : ByteArray), (⟨#[101, 110, 117, 109, 61, 97, 117, 116, 111, 44, 108, 116, 114, 44, 114, 116, 108]⟩ : ByteArray), false⟩ : S40), (⟨(⟨#[104, 105, 100, 100, 101, 110]⟩ : ByteArray), (⟨#[102, 108, 97, 103]⟩ : ByteArray), false⟩ : S40), (⟨(⟨#[105, 100]⟩ : ByteArray), (⟨#[105, 100]⟩ : ByteArray), false⟩ : S40), (⟨(⟨#[108, 97, 110, 103]⟩ : ByteArray), (⟨#[108, 97, 110, 103]⟩ : ByteArray), false⟩ : S40), (⟨(⟨#[114, 111, 108, 101]⟩ : ByteArray), (⟨#[116, 111, 107, 101, 110, 115]⟩ : ByteArray), false⟩ : S40), (⟨(⟨#[115, 116, 121, 108, 101]⟩ : ByteArray), (⟨#[116, 101, 120, 116]⟩ : ByteArray), false⟩ : S40), (⟨(⟨#[116, 97, 98, 105, 110, 100, 101, 120]⟩ : ByteArray), (⟨#[105, 110, 116]⟩ : ByteArray), false⟩ : S40), (⟨(⟨#[116, 105, 116, 108, 101]⟩ : ByteArray), (⟨#[116, 101, 120, 116]⟩ : ByteArray), false⟩ : S40)] : List (S40)))
set_option maxHeartbeats 8000000 in
set_option maxRecDepth 100000 in
theorem beadleref16_All.calls  (r : List (S40)) (w : World) (h : beadleref16_All.f  = some r) :
    Calls Tryd.prog 27 #[] w fun e w' => ∃ v0_ : Value, e = .returned (v0_) ∧ Kd.R k40 40 w' w.heap.size (fun _ => True) v0_ r ∧ Below w.heap.size w w' := by
  have hu40 := Tryd.underlying40
  have HB := Aside0.mk (Below.refl w.heap.size w)
  have H : (some (([(⟨(⟨#[97, 99, 99, 101, 115, 115, 107, 101, 121]⟩ : ByteArray), (⟨#[116, 111, 107, 101, 110, 115]⟩ : ByteArray), false⟩ : S40), (⟨(⟨#[97, 114, 105, 97, 45, 99, 111, 110, 116, 114, 111, 108, 115]⟩ : ByteArray), (⟨#[105, 100, 115]⟩ : ByteArray), false⟩ : S40), (⟨(⟨#[97, 114, 105, 97, 45, 100, 101, 115, 99, 114, 105, 98, 101, 100, 98, 121]⟩ : ByteArray), (⟨#[105, 100, 115]⟩ : ByteArray), false⟩ : S40), (⟨(⟨#[97, 114, 105, 97, 45, 108, 97, 98, 101, 108]⟩ : ByteArray), (⟨#[116, 101, 120, 116]⟩ : ByteArray), false⟩ : S40), (⟨(⟨#[97, 114, 105, 97, 45, 108, 97, 98, 101, 108, 108, 101, 100, 98, 121]⟩ : ByteArray), (⟨#[105, 100, 115]⟩ : ByteArray), false⟩ : S40), (⟨(⟨#[97, 114, 105, 97, 45, 111, 119, 110, 115]⟩ : ByteArray), (⟨#[105, 100, 115]⟩ : ByteArray), false⟩ : S40), (⟨(⟨#[99, 108, 97, 115, 115]⟩ : ByteArray), (⟨#[116, 111, 107, 101, 110, 115]⟩ : ByteArray), false⟩ : S40), (⟨(⟨#[100, 105, 114]⟩ : ByteArray), (⟨#[101, 110, 117, 109, 61, 97, 117, 116, 111, 44, 108, 116, 114, 44, 114, 116, 108]⟩ : ByteArray), false⟩ : S40), (⟨(⟨#[104, 105, 100, 100, 101, 110]⟩ : ByteArray), (⟨#[102, 108, 97, 103]⟩ : ByteArray), false⟩ : S40), (⟨(⟨#[105, 100]⟩ : ByteArray), (⟨#[105, 100]⟩ : ByteArray), false⟩ : S40), (⟨(⟨#[108, 97, 110, 103]⟩ : ByteArray), (⟨#[108, 97, 110, 103]⟩ : ByteArray), false⟩ : S40), (⟨(⟨#[114, 111, 108, 101]⟩ : ByteArray), (⟨#[116, 111, 107, 101, 110, 115]⟩ : ByteArray), false⟩ : S40), (⟨(⟨#[115, 116, 121, 108, 101]⟩ : ByteArray), (⟨#[116, 101, 120, 116]⟩ : ByteArray), false⟩ : S40), (⟨(⟨#[116, 97, 98, 105, 110, 100, 101, 120]⟩ : ByteArray), (⟨#[105, 110, 116]⟩ : ByteArray), false⟩ : S40), (⟨(⟨#[116, 105, 116, 108, 101]⟩ : ByteArray), (⟨#[116, 101, 120, 116]⟩ : ByteArray), false⟩ : S40)] : List (S40)))) = some r := h
  clear h
  obtain ⟨y164, hy164⟩ : ∃ y_ : List (S40), y_ = (([(⟨(⟨#[97, 99, 99, 101, 115, 115, 107, 101, 121]⟩ : ByteArray), (⟨#[116, 111, 107, 101, 110, 115]⟩ : ByteArray), false⟩ : S40), (⟨(⟨#[97, 114, 105, 97, 45, 99, 111, 110, 116, 114, 111, 108, 115]⟩ : ByteArray), (⟨#[105, 100, 115]⟩ : ByteArray), false⟩ : S40), (⟨(⟨#[97, 114, 105, 97, 45, 100, 101, 115, 99, 114, 105, 98, 101, 100, 98, 121]⟩ : ByteArray), (⟨#[105, 100, 115]⟩ : ByteArray), false⟩ : S40), (⟨(⟨#[97, 114, 105, 97, 45, 108, 97, 98, 101, 108]⟩ : ByteArray), (⟨#[116, 101, 120, 116]⟩ : ByteArray), false⟩ : S40), (⟨(⟨#[97, 114, 105, 97, 45, 108, 97, 98, 101, 108, 108, 101, 100, 98, 121]⟩ : ByteArray), (⟨#[105, 100, 115]⟩ : ByteArray), false⟩ : S40), (⟨(⟨#[97, 114, 105, 97, 45, 111, 119, 110, 115]⟩ : ByteArray), (⟨#[105, 100, 115]⟩ : ByteArray), false⟩ : S40), (⟨(⟨#[99, 108, 97, 115, 115]⟩ : ByteArray), (⟨#[116, 111, 107, 101, 110, 115]⟩ : ByteArray), false⟩ : S40), (⟨(⟨#[100, 105, 114]⟩ : ByteArray), (⟨#[101, 110, 117, 109, 61, 97, 117, 116, 111, 44, 108, 116, 114, 44, 114, 116, 108]⟩ : ByteArray), false⟩ : S40), (⟨(⟨#[104, 105, 100, 100, 101, 110]⟩ : ByteArray), (⟨#[102, 108, 97, 103]⟩ : ByteArray), false⟩ : S40), (⟨(⟨#[105, 100]⟩ : ByteArray), (⟨#[105, 100]⟩ : ByteArray), false⟩ : S40), (⟨(⟨#[108, 97, 110, 103]⟩ : ByteArray), (⟨#[108, 97, 110, 103]⟩ : ByteArray), false⟩ : S40), (⟨(⟨#[114, 111, 108, 101]⟩ : ByteArray), (⟨#[116, 111, 107, 101, 110, 115]⟩ : ByteArray), false⟩ : S40), (⟨(⟨#[115, 116, 121, 108, 101]⟩ : ByteArray), (⟨#[116, 101, 120, 116]⟩ : ByteArray), false⟩ : S40), (⟨(⟨#[116, 97, 98, 105, 110, 100, 101, 120]⟩ : ByteArray), (⟨#[105, 110, 116]⟩ : ByteArray), false⟩ : S40), (⟨(⟨#[116, 105, 116, 108, 101]⟩ : ByteArray), (⟨#[116, 101, 120, 116]⟩ : ByteArray), false⟩ : S40)] : List (S40))) := ⟨_, rfl⟩
  replace H : (some y164) = some r := by first | (rw [hy164]; with_reducible exact H) | (have H2_ := (Option.bind_some _ _).symm.trans H; rw [hy164]; with_reducible exact H2_) | (have H2_ := (Option.bind_some _ _).symm.trans H; with_reducible exact H2_) | with_reducible exact H | (rw [hy164]; exact H) | exact H
  have Ny164 := Aside0.mk hy164
  clear hy164
  obtain rfl := Option.some.inj H
  go_enter Tryd.func27, Tryd.ntmps27
  go_wp2_with (first | ((with_reducible refine gate_dst (N := 16) rfl ?_); refine Kd.R_lit k40 _ 40 ?hg (N := 16) ?hd (xs := ([(⟨(⟨#[97, 99, 99, 101, 115, 115, 107, 101, 121]⟩ : ByteArray), (⟨#[116, 111, 107, 101, 110, 115]⟩ : ByteArray), false⟩ : S40), (⟨(⟨#[97, 114, 105, 97, 45, 99, 111, 110, 116, 114, 111, 108, 115]⟩ : ByteArray), (⟨#[105, 100, 115]⟩ : ByteArray), false⟩ : S40), (⟨(⟨#[97, 114, 105, 97, 45, 100, 101, 115, 99, 114, 105, 98, 101, 100, 98, 121]⟩ : ByteArray), (⟨#[105, 100, 115]⟩ : ByteArray), false⟩ : S40), (⟨(⟨#[97, 114, 105, 97, 45, 108, 97, 98, 101, 108]⟩ : ByteArray), (⟨#[116, 101, 120, 116]⟩ : ByteArray), false⟩ : S40), (⟨(⟨#[97, 114, 105, 97, 45, 108, 97, 98, 101, 108, 108, 101, 100, 98, 121]⟩ : ByteArray), (⟨#[105, 100, 115]⟩ : ByteArray), false⟩ : S40), (⟨(⟨#[97, 114, 105, 97, 45, 111, 119, 110, 115]⟩ : ByteArray), (⟨#[105, 100, 115]⟩ : ByteArray), false⟩ : S40), (⟨(⟨#[99, 108, 97, 115, 115]⟩ : ByteArray), (⟨#[116, 111, 107, 101, 110, 115]⟩ : ByteArray), false⟩ : S40), (⟨(⟨#[100, 105, 114]⟩ : ByteArray), (⟨#[101, 110, 117, 109, 61, 97, 117, 116, 111, 44, 108, 116, 114, 44, 114, 116, 108]⟩ : ByteArray), false⟩ : S40), (⟨(⟨#[104, 105, 100, 100, 101, 110]⟩ : ByteArray), (⟨#[102, 108, 97, 103]⟩ : ByteArray), false⟩ : S40), (⟨(⟨#[105, 100]⟩ : ByteArray), (⟨#[105, 100]⟩ : ByteArray), false⟩ : S40), (⟨(⟨#[108, 97, 110, 103]⟩ : ByteArray), (⟨#[108, 97, 110, 103]⟩ : ByteArray), false⟩ : S40), (⟨(⟨#[114, 111, 108, 101]⟩ : ByteArray), (⟨#[116, 111, 107, 101, 110, 115]⟩ : ByteArray), false⟩ : S40), (⟨(⟨#[115, 116, 121, 108, 101]⟩ : ByteArray), (⟨#[116, 101, 120, 116]⟩ : ByteArray), false⟩ : S40), (⟨(⟨#[116, 97, 98, 105, 110, 100, 101, 120]⟩ : ByteArray), (⟨#[105, 110, 116]⟩ : ByteArray), false⟩ : S40), (⟨(⟨#[116, 105, 116, 108, 101]⟩ : ByteArray), (⟨#[116, 101, 120, 116]⟩ : ByteArray), false⟩ : S40)] : List (S40))) (inner := [.string (⟨#[97, 99, 99, 101, 115, 115, 107, 101, 121]⟩ : ByteArray), .string (⟨#[116, 111, 107, 101, 110, 115]⟩ : ByteArray), .bool false, .string (⟨#[97, 114, 105, 97, 45, 99, 111, 110, 116, 114, 111, 108, 115]⟩ : ByteArray), .string (⟨#[105, 100, 115]⟩ : ByteArray), .bool false, .string (⟨#[97, 114, 105, 97, 45, 100, 101, 115, 99, 114, 105, 98, 101, 100, 98, 121]⟩ : ByteArray), .string (⟨#[105, 100, 115]⟩ : ByteArray), .bool false, .string (⟨#[97, 114, 105, 97, 45, 108, 97, 98, 101, 108]⟩ : ByteArray), .string (⟨#[116, 101, 120, 116]⟩ : ByteArray), .bool false, .string (⟨#[97, 114, 105, 97, 45, 108, 97, 98, 101, 108, 108, 101, 100, 98, 121]⟩ : ByteArray), .string (⟨#[105, 100, 115]⟩ : ByteArray), .bool false, .string (⟨#[97, 114, 105, 97, 45, 111, 119, 110, 115]⟩ : ByteArray), .string (⟨#[105, 100, 115]⟩ : ByteArray), .bool false, .string (⟨#[99, 108, 97, 115, 115]⟩ : ByteArray), .string (⟨#[116, 111, 107, 101, 110, 115]⟩ : ByteArray), .bool false, .string (⟨#[100, 105, 114]⟩ : ByteArray), .string (⟨#[101, 110, 117, 109, 61, 97, 117, 116, 111, 44, 108, 116, 114, 44, 114, 116, 108]⟩ : ByteArray), .bool false, .string (⟨#[104, 105, 100, 100, 101, 110]⟩ : ByteArray), .string (⟨#[102, 108, 97, 103]⟩ : ByteArray), .bool false, .string (⟨#[105, 100]⟩ : ByteArray), .string (⟨#[105, 100]⟩ : ByteArray), .bool false, .string (⟨#[108, 97, 110, 103]⟩ : ByteArray), .string (⟨#[108, 97, 110, 103]⟩ : ByteArray), .bool false, .string (⟨#[114, 111, 108, 101]⟩ : ByteArray), .string (⟨#[116, 111, 107, 101, 110, 115]⟩ : ByteArray), .bool false, .string (⟨#[115, 116, 121, 108, 101]⟩ : ByteArray), .string (⟨#[116, 101, 120, 116]⟩ : ByteArray), .bool false, .string (⟨#[116, 97, 98, 105, 110, 100, 101, 120]⟩ : ByteArray), .string (⟨#[105, 110, 116]⟩ : ByteArray), .bool false, .string (⟨#[116, 105, 116, 108, 101]⟩ : ByteArray), .string (⟨#[116, 101, 120, 116]⟩ : ByteArray), .bool false]) (ok := fun _ => True) (okp := fun _ => True) ?hr ?hp (fun _ hk => hk) trivial (Below.refl _ _) (Nat.le_refl _) (by simp) ?_; (case hd => rfl); (case hg => rfl); (case hr => first | (go_simp; done) | (go_simp; rfl)); (case hp => exact (Reps.c3 (show Kd.M k40 _ _ _ (⟨(⟨#[97, 99, 99, 101, 115, 115, 107, 101, 121]⟩ : ByteArray), (⟨#[116, 111, 107, 101, 110, 115]⟩ : ByteArray), false⟩ : S40) [.string (⟨#[97, 99, 99, 101, 115, 115, 107, 101, 121]⟩ : ByteArray), .string (⟨#[116, 111, 107, 101, 110, 115]⟩ : ByteArray), .bool false] from (k40_mkM _ _ _ (⟨(⟨#[97, 99, 99, 101, 115, 115, 107, 101, 121]⟩ : ByteArray), (⟨#[116, 111, 107, 101, 110, 115]⟩ : ByteArray), false⟩ : S40) )) (Reps.c3 (show Kd.M k40 _ _ _ (⟨(⟨#[97, 114, 105, 97, 45, 99, 111, 110, 116, 114, 111, 108, 115]⟩ : ByteArray), (⟨#[105, 100, 115]⟩ : ByteArray), false⟩ : S40) [.string (⟨#[97, 114, 105, 97, 45, 99, 111, 110, 116, 114, 111, 108, 115]⟩ : ByteArray), .string (⟨#[105, 100, 115]⟩ : ByteArray), .bool false] from (k40_mkM _ _ _ (⟨(⟨#[97, 114, 105, 97, 45, 99, 111, 110, 116, 114, 111, 108, 115]⟩ : ByteArray), (⟨#[105, 100, 115]⟩ : ByteArray), false⟩ : S40) )) (Reps.c3 (show Kd.M k40 _ _ _ (⟨(⟨#[97, 114, 105, 97, 45, 100, 101, 115, 99, 114, 105, 98, 101, 100, 98, 121]⟩ : ByteArray), (⟨#[105, 100, 115]⟩ : ByteArray), false⟩ : S40) [.string (⟨#[97, 114, 105, 97, 45, 100, 101, 115, 99, 114, 105, 98, 101, 100, 98, 121]⟩ : ByteArray), .string (⟨#[105, 100, 115]⟩ : ByteArray), .bool false] from (k40_mkM _ _ _ (⟨(⟨#[97, 114, 105, 97, 45, 100, 101, 115, 99, 114, 105, 98, 101, 100, 98, 121]⟩ : ByteArray), (⟨#[105, 100, 115]⟩ : ByteArray), false⟩ : S40) )) (Reps.c3 (show Kd.M k40 _ _ _ (⟨(⟨#[97, 114, 105, 97, 45, 108, 97, 98, 101, 108]⟩ : ByteArray), (⟨#[116, 101, 120, 116]⟩ : ByteArray), false⟩ : S40) [.string (⟨#[97, 114, 105, 97, 45, 108, 97, 98, 101, 108]⟩ : ByteArray), .string (⟨#[116, 101, 120, 116]⟩ : ByteArray), .bool false] from (k40_mkM _ _ _ (⟨(⟨#[97, 114, 105, 97, 45, 108, 97, 98, 101, 108]⟩ : ByteArray), (⟨#[116, 101, 120, 116]⟩ : ByteArray), false⟩ : S40) )) (Reps.c3 (show Kd.M k40 _ _ _ (⟨(⟨#[97, 114, 105, 97, 45, 108, 97, 98, 101, 108, 108, 101, 100, 98, 121]⟩ : ByteArray), (⟨#[105, 100, 115]⟩ : ByteArray), false⟩ : S40) [.string (⟨#[97, 114, 105, 97, 45, 108, 97, 98, 101, 108, 108, 101, 100, 98, 121]⟩ : ByteArray), .string (⟨#[105, 100, 115]⟩ : ByteArray), .bool false] from (k40_mkM _ _ _ (⟨(⟨#[97, 114, 105, 97, 45, 108, 97, 98, 101, 108, 108, 101, 100, 98, 121]⟩ : ByteArray), (⟨#[105, 100, 115]⟩ : ByteArray), false⟩ : S40) )) (Reps.c3 (show Kd.M k40 _ _ _ (⟨(⟨#[97, 114, 105, 97, 45, 111, 119, 110, 115]⟩ : ByteArray), (⟨#[105, 100, 115]⟩ : ByteArray), false⟩ : S40) [.string (⟨#[97, 114, 105, 97, 45, 111, 119, 110, 115]⟩ : ByteArray), .string (⟨#[105, 100, 115]⟩ : ByteArray), .bool false] from (k40_mkM _ _ _ (⟨(⟨#[97, 114, 105, 97, 45, 111, 119, 110, 115]⟩ : ByteArray), (⟨#[105, 100, 115]⟩ : ByteArray), false⟩ : S40) )) (Reps.c3 (show Kd.M k40 _ _ _ (⟨(⟨#[99, 108, 97, 115, 115]⟩ : ByteArray), (⟨#[116, 111, 107, 101, 110, 115]⟩ : ByteArray), false⟩ : S40) [.string (⟨#[99, 108, 97, 115, 115]⟩ : ByteArray), .string (⟨#[116, 111, 107, 101, 110, 115]⟩ : ByteArray), .bool false] from (k40_mkM _ _ _ (⟨(⟨#[99, 108, 97, 115, 115]⟩ : ByteArray), (⟨#[116, 111, 107, 101, 110, 115]⟩ : ByteArray), false⟩ : S40) )) (Reps.c3 (show Kd.M k40 _ _ _ (⟨(⟨#[100, 105, 114]⟩ : ByteArray), (⟨#[101, 110, 117, 109, 61, 97, 117, 116, 111, 44, 108, 116, 114, 44, 114, 116, 108]⟩ : ByteArray), false⟩ : S40) [.string (⟨#[100, 105, 114]⟩ : ByteArray), .string (⟨#[101, 110, 117, 109, 61, 97, 117, 116, 111, 44, 108, 116, 114, 44, 114, 116, 108]⟩ : ByteArray), .bool false] from (k40_mkM _ _ _ (⟨(⟨#[100, 105, 114]⟩ : ByteArray), (⟨#[101, 110, 117, 109, 61, 97, 117, 116, 111, 44, 108, 116, 114, 44, 114, 116, 108]⟩ : ByteArray), false⟩ : S40) )) (Reps.c3 (show Kd.M k40 _ _ _ (⟨(⟨#[104, 105, 100, 100, 101, 110]⟩ : ByteArray), (⟨#[102, 108, 97, 103]⟩ : ByteArray), false⟩ : S40) [.string (⟨#[104, 105, 100, 100, 101, 110]⟩ : ByteArray), .string (⟨#[102, 108, 97, 103]⟩ : ByteArray), .bool false] from (k40_mkM _ _ _ (⟨(⟨#[104, 105, 100, 100, 101, 110]⟩ : ByteArray), (⟨#[102, 108, 97, 103]⟩ : ByteArray), false⟩ : S40) )) (Reps.c3 (show Kd.M k40 _ _ _ (⟨(⟨#[105, 100]⟩ : ByteArray), (⟨#[105, 100]⟩ : ByteArray), false⟩ : S40) [.string (⟨#[105, 100]⟩ : ByteArray), .string (⟨#[105, 100]⟩ : ByteArray), .bool false] from (k40_mkM _ _ _ (⟨(⟨#[105, 100]⟩ : ByteArray), (⟨#[105, 100]⟩ : ByteArray), false⟩ : S40) )) (Reps.c3 (show Kd.M k40 _ _ _ (⟨(⟨#[108, 97, 110, 103]⟩ : ByteArray), (⟨#[108, 97, 110, 103]⟩ : ByteArray), false⟩ : S40) [.string (⟨#[108, 97, 110, 103]⟩ : ByteArray), .string (⟨#[108, 97, 110, 103]⟩ : ByteArray), .bool false] from (k40_mkM _ _ _ (⟨(⟨#[108, 97, 110, 103]⟩ : ByteArray), (⟨#[108, 97, 110, 103]⟩ : ByteArray), false⟩ : S40) )) (Reps.c3 (show Kd.M k40 _ _ _ (⟨(⟨#[114, 111, 108, 101]⟩ : ByteArray), (⟨#[116, 111, 107, 101, 110, 115]⟩ : ByteArray), false⟩ : S40) [.string (⟨#[114, 111, 108, 101]⟩ : ByteArray), .string (⟨#[116, 111, 107, 101, 110, 115]⟩ : ByteArray), .bool false] from (k40_mkM _ _ _ (⟨(⟨#[114, 111, 108, 101]⟩ : ByteArray), (⟨#[116, 111, 107, 101, 110, 115]⟩ : ByteArray), false⟩ : S40) )) (Reps.c3 (show Kd.M k40 _ _ _ (⟨(⟨#[115, 116, 121, 108, 101]⟩ : ByteArray), (⟨#[116, 101, 120, 116]⟩ : ByteArray), false⟩ : S40) [.string (⟨#[115, 116, 121, 108, 101]⟩ : ByteArray), .string (⟨#[116, 101, 120, 116]⟩ : ByteArray), .bool false] from (k40_mkM _ _ _ (⟨(⟨#[115, 116, 121, 108, 101]⟩ : ByteArray), (⟨#[116, 101, 120, 116]⟩ : ByteArray), false⟩ : S40) )) (Reps.c3 (show Kd.M k40 _ _ _ (⟨(⟨#[116, 97, 98, 105, 110, 100, 101, 120]⟩ : ByteArray), (⟨#[105, 110, 116]⟩ : ByteArray), false⟩ : S40) [.string (⟨#[116, 97, 98, 105, 110, 100, 101, 120]⟩ : ByteArray), .string (⟨#[105, 110, 116]⟩ : ByteArray), .bool false] from (k40_mkM _ _ _ (⟨(⟨#[116, 97, 98, 105, 110, 100, 101, 120]⟩ : ByteArray), (⟨#[105, 110, 116]⟩ : ByteArray), false⟩ : S40) )) (Reps.c3 (show Kd.M k40 _ _ _ (⟨(⟨#[116, 105, 116, 108, 101]⟩ : ByteArray), (⟨#[116, 101, 120, 116]⟩ : ByteArray), false⟩ : S40) [.string (⟨#[116, 105, 116, 108, 101]⟩ : ByteArray), .string (⟨#[116, 101, 120, 116]⟩ : ByteArray), .bool false] from (k40_mkM _ _ _ (⟨(⟨#[116, 105, 116, 108, 101]⟩ : ByteArray), (⟨#[116, 101, 120, 116]⟩ : ByteArray), false⟩ : S40) )) (Reps.none _ _))))))))))))))))); intro v165 w1 ho2 hb hg_ hnew_; clear hg_ hnew_; (first | rw [← Ny164.out] at ho2 | (simp only [Int.reduceToNat] at ho2; rw [← Ny164.out] at ho2)); have n0_ := Aside0.mk (Kd.R_lower ho2 (below_size (by repeat (first | (with_reducible first | exact HB.out | apply below_alloc | apply pw_below_drewN | apply below_drew1) | exact HB.out)))); have n1_ := Aside0.mk (below_step (by repeat (first | (with_reducible first | exact HB.out | apply below_alloc | apply pw_below_drewN | apply below_drew1) | exact HB.out)) hb); clear HB; have HO166 := n0_; have HB := n1_; clear n0_ n1_; clear hb ho2))
  go_ret
  exact ⟨_, by first | rfl | (simp [errW_none, errW_some] <;> rfl) | (simp [*, errW_none, errW_some] <;> rfl), by (with_reducible repeat (first | apply Kd.R_alloc | apply Kd.R_drewN | apply Kd.R_drew)); exact HO166.out, by repeat (first | (with_reducible first | exact HB.out | apply below_alloc | apply pw_below_drewN | apply below_drew1) | exact HB.out)⟩

/-! ### beadleref16_Attribute: function 13 -/
mutual
def beadleref16_Attribute.j1 : Nat → ByteArray → Option (ByteArray × ByteArray × Bool × Bool)
  | 0, _ => none
  | k + 1, x1 => if (x1.size : Int) > 5 then (if 0 ≤ 5 then (if 5 ≤ (x1.size : Int) then (beadleref16_Attribute.j2 k x1 ((x1.extract 0 5).toList == ([100, 97, 116, 97, 45] : List UInt8))) else (none)) else (none)) else (beadleref16_Attribute.j2 k x1 false)
def beadleref16_Attribute.j2 : Nat → ByteArray → Bool → Option (ByteArray × ByteArray × Bool × Bool)
  | 0, _, _ => none
  | k + 1, x1, x44 => if x44 = true then (some (x1, (⟨#[116, 101, 120, 116]⟩ : ByteArray), false, true)) else ((beadleref16_All.f).bind fun t175 => (beadleref16_Attribute.l1 k x1 t175 0))
def beadleref16_Attribute.l1 : Nat → ByteArray → List (S40) → Int → Option (ByteArray × ByteArray × Bool × Bool)
  | 0, _, _, _ => none
  | k + 1, x1, x9, x10 => if x10 < (x9.length : Int) then (if 0 ≤ x10 then (if ((rd_T40 x9 x10).f0).toList = x1.toList then (some ((rd_T40 x9 x10).f0, (rd_T40 x9 x10).f1, (rd_T40 x9 x10).f2, true)) else (beadleref16_Attribute.l1 k x1 x9 (wrap64 (x10 + 1)))) else (none)) else (some ((⟨#[]⟩ : ByteArray), (⟨#[]⟩ : ByteArray), false, false))
def beadleref16_Attribute.l0 : Nat → ByteArray → List (S40) → Int → Option (ByteArray × ByteArray × Bool × Bool)
  | 0, _, _, _ => none
  | k + 1, x1, x7, x8 => if x8 < (x7.length : Int) then (if 0 ≤ x8 then (if ((rd_T40 x7 x8).f0).toList = x1.toList then (some ((rd_T40 x7 x8).f0, (rd_T40 x7 x8).f1, (rd_T40 x7 x8).f2, true)) else (beadleref16_Attribute.l0 k x1 x7 (wrap64 (x8 + 1)))) else (none)) else (beadleref16_Attribute.j1 k x1)
end
def beadleref16_Attribute.f (k : Nat) (a0 : ByteArray) (a1 : ByteArray) : Option (ByteArray × ByteArray × Bool × Bool) := (beadleref16_Of.f k a0).bind fun t168 => (if t168 ≥ 0 then ((beadleref16_Rows.f).bind fun t169 => (if 0 ≤ t168 then (if t168 < (t169.length : Int) then (beadleref16_Attribute.l0 k a1 ((rd_T34 t169 t168).f3) 0) else (none)) else (none))) else (beadleref16_Attribute.j1 k a1))
theorem beadleref16_Attribute.mono_l : ∀ k, (∀ y0, LeO (beadleref16_Attribute.j1 k y0) (beadleref16_Attribute.j1 (k + 1) y0)) ∧ (∀ y0 y1, LeO (beadleref16_Attribute.j2 k y0 y1) (beadleref16_Attribute.j2 (k + 1) y0 y1)) ∧ (∀ y0 y1 y2, LeO (beadleref16_Attribute.l1 k y0 y1 y2) (beadleref16_Attribute.l1 (k + 1) y0 y1 y2)) ∧ (∀ y0 y1 y2, LeO (beadleref16_Attribute.l0 k y0 y1 y2) (beadleref16_Attribute.l0 (k + 1) y0 y1 y2))
  | 0 => ⟨fun _ r h => by simp [beadleref16_Attribute.j1] at h, fun _ _ r h => by simp [beadleref16_Attribute.j2] at h, fun _ _ _ r h => by simp [beadleref16_Attribute.l1] at h, fun _ _ _ r h => by simp [beadleref16_Attribute.l0] at h⟩
  | k + 1 => by
    obtain ⟨ih0, ih1, ih2, ih3⟩ := beadleref16_Attribute.mono_l k
    refine ⟨?_, ?_, ?_, ?_⟩
    · intro y0
      unfold beadleref16_Attribute.j1
      repeat' first
      | (with_reducible exact ih0 _)
      | (with_reducible exact ih1 _ _)
      | (with_reducible exact ih2 _ _ _)
      | (with_reducible exact ih3 _ _ _)
      | (with_reducible exact beadleref16_Of.mono _ _)
      | (with_reducible exact LeO.refl _)
      | (with_reducible exact LeO.none _)
      | (with_reducible refine LeO.ite ?_ ?_)
      | (with_reducible refine LeO.bind ?_ (fun _ => ?_))
      | exact ih0 _
      | exact ih1 _ _
      | exact ih2 _ _ _
      | exact ih3 _ _ _
      | exact beadleref16_Of.mono _ _
      | exact LeO.none _
      | refine LeO.ite ?_ ?_
      | refine LeO.bind ?_ (fun _ => ?_)
    · intro y0 y1
      unfold beadleref16_Attribute.j2
      repeat' first
      | (with_reducible exact ih0 _)
      | (with_reducible exact ih1 _ _)
      | (with_reducible exact ih2 _ _ _)
      | (with_reducible exact ih3 _ _ _)
      | (with_reducible exact beadleref16_Of.mono _ _)
      | (with_reducible exact LeO.refl _)
      | (with_reducible exact LeO.none _)
      | (with_reducible refine LeO.ite ?_ ?_)
      | (with_reducible refine LeO.bind ?_ (fun _ => ?_))
      | exact ih0 _
      | exact ih1 _ _
      | exact ih2 _ _ _
      | exact ih3 _ _ _
      | exact beadleref16_Of.mono _ _
      | exact LeO.none _
      | refine LeO.ite ?_ ?_
      | refine LeO.bind ?_ (fun _ => ?_)
    · intro y0 y1 y2
      unfold beadleref16_Attribute.l1
      repeat' first
      | (with_reducible exact ih0 _)
      | (with_reducible exact ih1 _ _)
      | (with_reducible exact ih2 _ _ _)
      | (with_reducible exact ih3 _ _ _)
      | (with_reducible exact beadleref16_Of.mono _ _)
      | (with_reducible exact LeO.refl _)
      | (with_reducible exact LeO.none _)
      | (with_reducible refine LeO.ite ?_ ?_)
      | (with_reducible refine LeO.bind ?_ (fun _ => ?_))
      | exact ih0 _
      | exact ih1 _ _
      | exact ih2 _ _ _
      | exact ih3 _ _ _
      | exact beadleref16_Of.mono _ _
      | exact LeO.none _
      | refine LeO.ite ?_ ?_
      | refine LeO.bind ?_ (fun _ => ?_)
    · intro y0 y1 y2
      unfold beadleref16_Attribute.l0
      repeat' first
      | (with_reducible exact ih0 _)
      | (with_reducible exact ih1 _ _)
      | (with_reducible exact ih2 _ _ _)
      | (with_reducible exact ih3 _ _ _)
      | (with_reducible exact beadleref16_Of.mono _ _)
      | (with_reducible exact LeO.refl _)
      | (with_reducible exact LeO.none _)
      | (with_reducible refine LeO.ite ?_ ?_)
      | (with_reducible refine LeO.bind ?_ (fun _ => ?_))
      | exact ih0 _
      | exact ih1 _ _
      | exact ih2 _ _ _
      | exact ih3 _ _ _
      | exact beadleref16_Of.mono _ _
      | exact LeO.none _
      | refine LeO.ite ?_ ?_
      | refine LeO.bind ?_ (fun _ => ?_)
theorem beadleref16_Attribute.mono : ∀ a0 a1 k, LeO (beadleref16_Attribute.f k a0 a1) (beadleref16_Attribute.f (k + 1) a0 a1) := by
  intro a0 a1 k
  obtain ⟨ih0, ih1, ih2, ih3⟩ := beadleref16_Attribute.mono_l k
  unfold beadleref16_Attribute.f
  repeat' first
      | (with_reducible exact ih0 _)
      | (with_reducible exact ih1 _ _)
      | (with_reducible exact ih2 _ _ _)
      | (with_reducible exact ih3 _ _ _)
      | (with_reducible exact beadleref16_Of.mono _ _)
      | (with_reducible exact LeO.refl _)
      | (with_reducible exact LeO.none _)
      | (with_reducible refine LeO.ite ?_ ?_)
      | (with_reducible refine LeO.bind ?_ (fun _ => ?_))
      | exact ih0 _
      | exact ih1 _ _
      | exact ih2 _ _ _
      | exact ih3 _ _ _
      | exact beadleref16_Of.mono _ _
      | exact LeO.none _
      | refine LeO.ite ?_ ?_
      | refine LeO.bind ?_ (fun _ => ?_)
set_option maxHeartbeats 8000000 in
set_option maxRecDepth 100000 in
theorem beadleref16_Attribute.calls (k : Nat) (a0 : ByteArray) (a1 : ByteArray) (r1 : ByteArray) (r2 : ByteArray) (r3 : Bool) (r4 : Bool) (w : World) (h : beadleref16_Attribute.f k a0 a1 = some (r1, r2, r3, r4)) :
    Calls Tryd.prog 13 #[.string a0, .string a1] w fun e w' => e = .returned (.tuple #[.agg #[.string r1, .string r2, .bool r3], .bool r4]) ∧ Below w.heap.size w w' := by
  have hu40 := Tryd.underlying40
  have HB := Aside0.mk (Below.refl w.heap.size w)
  have H : ((beadleref16_Of.f k a0).bind fun t168 => (if t168 ≥ 0 then ((beadleref16_Rows.f).bind fun t169 => (if 0 ≤ t168 then (if t168 < (t169.length : Int) then (beadleref16_Attribute.l0 k a1 ((rd_T34 t169 t168).f3) 0) else (none)) else (none))) else (beadleref16_Attribute.j1 k a1))) = some (r1, r2, r3, r4) := h
  clear h
  replace H := Option.bind_eq_some_iff.mp H
  obtain ⟨t168, A30, H⟩ := H
  replace H : (if t168 ≥ 0 then ((beadleref16_Rows.f).bind fun t169 => (if 0 ≤ t168 then (if t168 < (t169.length : Int) then (beadleref16_Attribute.l0 k a1 ((rd_T34 t169 t168).f3) 0) else (none)) else (none))) else (beadleref16_Attribute.j1 k a1)) = some (r1, r2, r3, r4) := H
  have A3 := Aside0.mk A30
  clear A30
  have HC4 := Aside0.mk H
  clear H
  go_enter Tryd.func13, Tryd.ntmps13
  go_upto_if 14 with (first | ((with_reducible refine gate_dst (N := 4) rfl ?_); refine box_event ?hg (N := 4) ?hd (cs := #[.string (⟨#[]⟩ : ByteArray), .string (⟨#[]⟩ : ByteArray), .bool false]) (t := 40) ?hr ?_; (case hd => rfl); (case hg => rfl); (case hr => first | (go_simp; done) | (go_simp; rfl)); intro gb167 hg w5 hbox hb; have n0_ := Aside0.mk (below_step (by repeat (first | (with_reducible first | exact HB.out | apply below_alloc | apply pw_below_drewN | apply below_drew1) | exact HB.out)) hb); have n1_ := Aside0.mk (hbox); have n2_ := Aside0.mk ((by rw [hg]; exact (below_size (by repeat (first | (with_reducible first | exact HB.out | apply below_alloc | apply pw_below_drewN | apply below_drew1) | exact HB.out))) : w.heap.size ≤ gb167)); have n3_ := Aside0.mk ((by rw [hg]; exact (below_size (by repeat (first | (with_reducible first | exact HB.out | apply below_alloc | apply pw_below_drewN | apply below_drew1) | exact HB.out))) : w.heap.size ≤ gb167)); clear HB; have HB := n0_; have BK167 := n1_; have GW167 := n2_; have GE167 := n3_; clear n0_ n1_ n2_ n3_; clear hb hbox hg) | ((with_reducible refine gate_callee (f := 7) rfl ?_); refine goesL_ (some 12) rfl rfl Tryd.func7 (by kernel_rfl) rfl #[.string a0] rfl (by (try simp only [List.map_toArray, List.map_cons, List.map_nil]); first | done | rfl | (simp only [List.length_drop, List.length_take]; rfl)) ?_; (with_reducible refine (beadleref16_Of.calls k a0 t168 _ A3.out).mono ?_); rintro e w6 ⟨rfl, hb⟩; refine ⟨_, rfl, ?_⟩; have n0_ := Aside0.mk (blk_below (g := gb167) (o := .cells #[.string (⟨#[]⟩ : ByteArray), .string (⟨#[]⟩ : ByteArray), .bool false] 40 (0, 0)) (by (with_reducible repeat (first | refine blk_drewN ?_ _ | refine blk_drew ?_ | refine blk_alloc ?_ _)); exact BK167.out) hb); have n1_ := Aside0.mk (below_step (by repeat (first | (with_reducible first | exact HB.out | apply below_alloc | apply pw_below_drewN | apply below_drew1 | refine below_set ?_ GE167.out) | exact HB.out)) hb); clear BK167; clear HB; have BK167 := n0_; have HB := n1_; clear n0_ n1_; (try clear hb); (try clear hb2); (try clear hk); (try clear hi)))
  (try simp only [Act.put, List.setIfInBounds_toArray, List.set_cons_zero, List.set_cons_succ])
  go_cut [] (fun wc => ∃ (kq : Nat) (x168000_3 : ByteArray) (x168001_3 : ByteArray) (x168002_3 : Bool), Aside0 (beadleref16_Attribute.j1 kq a1 = some (r1, r2, r3, r4)) ∧ Aside0 (kq ≤ k) ∧ Aside0 (wc.heap[gb167]? = some (.cells #[.string x168000_3, .string x168001_3, .bool x168002_3] 40 (0, 0))) ∧ Aside0 (Below w.heap.size w wc))
  case first =>
    have H := HC4.out
    clear HC4
    by_cases c7 : t168 ≥ 0
    · rw [if_pos c7] at H
      have c7b0 : decide (0 ≤ t168) = true := decide_eq_true c7
      clear c7
      (first | rw [c7b0] | (simp only [i64_w, i32_w]; rw [c7b0]) | skip)
      replace H := Option.bind_eq_some_iff.mp H
      obtain ⟨t169, A80, H⟩ := H
      replace H : (if 0 ≤ t168 then (if t168 < (t169.length : Int) then (beadleref16_Attribute.l0 k a1 ((rd_T34 t169 t168).f3) 0) else (none)) else (none)) = some (r1, r2, r3, r4) := H
      have A8 := Aside0.mk A80
      clear A80
      by_cases c9 : 0 ≤ t168
      · rw [if_pos c9] at H
        have c9b0 : decide (0 ≤ t168) = true := decide_eq_true c9
        clear c9
        by_cases c10 : t168 < (t169.length : Int)
        · rw [if_pos c10] at H
          have c10b0 : decide (t168 < (t169.length : Int)) = true := decide_eq_true c10
          clear c10
          have H' := Aside0.mk H
          clear H
          go_wp2_with (first | ((with_reducible refine gate_callee (f := 10) rfl ?_); refine goesL_ (some 15) rfl rfl Tryd.func10 (by kernel_rfl) rfl #[] rfl (by (try simp only [List.map_toArray, List.map_cons, List.map_nil]); first | done | rfl | (simp only [List.length_drop, List.length_take]; rfl)) ?_; (with_reducible refine (beadleref16_Rows.calls  t169 _ A8.out).mono ?_); rintro e w11 ⟨v170, rfl, ho0, hb⟩; refine ⟨_, rfl, ?_⟩; have n0_ := Aside0.mk (Kd.N_lower (Kd.N_mono (ok' := fun k_ => k_ ≠ gb167) ho0 (fun k_ hk_ => (Kd.freshB (g := gb167) (o := .cells #[.string (⟨#[]⟩ : ByteArray), .string (⟨#[]⟩ : ByteArray), .bool false] 40 (0, 0)) (by (with_reducible repeat (first | refine blk_drewN ?_ _ | refine blk_drew ?_ | refine blk_alloc ?_ _)); exact BK167.out) k_ hk_))) (below_size (by repeat (first | (with_reducible first | exact HB.out | apply below_alloc | apply pw_below_drewN | apply below_drew1 | refine below_set ?_ GE167.out) | exact HB.out)))); have n1_ := Aside0.mk (blk_below (g := gb167) (o := .cells #[.string (⟨#[]⟩ : ByteArray), .string (⟨#[]⟩ : ByteArray), .bool false] 40 (0, 0)) (by (with_reducible repeat (first | refine blk_drewN ?_ _ | refine blk_drew ?_ | refine blk_alloc ?_ _)); exact BK167.out) hb); have n2_ := Aside0.mk (below_step (by repeat (first | (with_reducible first | exact HB.out | apply below_alloc | apply pw_below_drewN | apply below_drew1 | refine below_set ?_ GE167.out) | exact HB.out)) hb); clear BK167; clear HB; have HO171 := n0_; have BK167 := n1_; have HB := n2_; clear n0_ n1_ n2_; (try clear hb); (try clear hb2); (try clear hk); (try clear hi); (try clear ho0); obtain ⟨Ao12, co12, eo12⟩ := Kd.N_slice HO171.out; subst eo12; have p172 : 0 ≤ (t168 : Int) := of_decide_eq_true (by first | (with_reducible assumption) | assumption); have q172 : t168 < (t169.length : Int) := of_decide_eq_true (by first | (with_reducible assumption) | assumption); obtain ⟨ad172, A172_2, c172_2, A172_3, c172_3, e172, hx172_0, hx172_1, hx172_2, hx172_3, hl172_2, hi172_2, hl172_3, hi172_3⟩ := at_T34 (Kd.N_reads' HO171.out).2.2 t168 p172 q172; cases e172; obtain ⟨ce172, hce172, hMe172, hcc172⟩ := Kd.N_get HO171.out z34 t168 p172 (by first | exact q172 | exact of_decide_eq_true (by first | (with_reducible assumption) | assumption) | (have e_ := (Kd.N_reads' HO171.out).1; omega)); obtain ⟨ua172_2, uc172_2, ua172_3, uc172_3, rfl, ul172_2, ge172_2, ul172_3, ge172_3⟩ := k34_openF hMe172; have hv172_2 := hcc172 2 _ rfl; rw [add_field _ _ 2 (by omega)] at hv172_2; replace hv172_2 := Option.some.inj (hv172_2.symm.trans hx172_2); injection hv172_2 with hva_ hvn_ hvc_; rw [hva_] at ge172_2; rw [hvc_] at ul172_2; have HL172_2 := Aside0.mk (show Kd.V Kd.string 9 _ w.heap.size _ _ ((rd_T34 t169 t168).f2) from Kd.V_mk ul172_2 ge172_2); clear hva_ hvn_ hvc_ ge172_2 ul172_2; have hv172_3 := hcc172 3 _ rfl; rw [add_field _ _ 3 (by omega)] at hv172_3; replace hv172_3 := Option.some.inj (hv172_3.symm.trans hx172_3); injection hv172_3 with hva_ hvn_ hvc_; rw [hva_] at ge172_3; rw [hvc_] at ul172_3; have HL172_3 := Aside0.mk (show Kd.V k40 40 _ w.heap.size _ _ ((rd_T34 t169 t168).f3) from Kd.V_mk ul172_3 ge172_3); clear hva_ hvn_ hvc_ ge172_3 ul172_3; clear hcc172 hce172; have HR172_2 := Aside0.mk hi172_2; have HC172_2 := Aside0.mk hl172_2; clear hi172_2 hl172_2; have HR172_3 := Aside0.mk hi172_3; have HC172_3 := Aside0.mk hl172_3; clear hi172_3 hl172_3; replace p172 := eq_true p172; replace q172 := eq_true q172))
          go_loopg [8] k (fun kq v8 w' => ∃ (x8_1 : Int) (x168000_1 : ByteArray) (x168001_1 : ByteArray) (x168002_1 : Bool), v8 = .int .i64 x8_1 ∧ Aside0 (beadleref16_Attribute.l0 kq a1 ((rd_T34 t169 t168).f3) x8_1 = some (r1, r2, r3, r4)) ∧ Aside0 (kq ≤ k) ∧ Aside0 (w'.heap[gb167]? = some (.cells #[.string x168000_1, .string x168001_1, .bool x168002_1] 40 (0, 0))) ∧ Aside0 (Kd.C Kd.string w' A172_2 ((rd_T34 t169 t168).f2).length ((rd_T34 t169 t168).f2)) ∧ Aside0 (Kd.C k40 w' A172_3 ((rd_T34 t169 t168).f3).length ((rd_T34 t169 t168).f3)) ∧ Aside0 (Below w.heap.size w w'))
          case atStart => exact ⟨(0), ((⟨#[]⟩ : ByteArray)), ((⟨#[]⟩ : ByteArray)), (false), (by first | rfl | (simp; done) | (simp [*]; done)), H', ⟨Nat.le_refl _⟩, ⟨by (with_reducible repeat (first | refine blk_drewN ?_ _ | refine blk_drew ?_ | refine blk_alloc ?_ _)); exact BK167.out⟩, ⟨by repeat (first | (with_reducible exact HR172_2.out) | (with_reducible refine Kd.C_alloc ?_ _) | (with_reducible refine Kd.C_drewN ?_ _) | (with_reducible refine Kd.C_drew ?_) | exact HR172_2.out)⟩, ⟨by repeat (first | (with_reducible exact HR172_3.out) | (with_reducible refine Kd.C_alloc ?_ _) | (with_reducible refine Kd.C_drewN ?_ _) | (with_reducible refine Kd.C_drew ?_) | exact HR172_3.out)⟩, ⟨by repeat (first | (with_reducible first | exact HB.out | apply below_alloc | apply pw_below_drewN | apply below_drew1 | refine below_set ?_ GE167.out) | exact HB.out)⟩⟩
          case round =>
            clear H'
            try clear c1
            try clear p1
            try clear q1
            try clear hx1
            try clear p2
            try clear c7
            try clear c7b0
            try clear c9
            try clear c9b0
            try clear c10
            try clear c10b0
            try clear hx172_0
            try clear hx172_1
            try clear hx172_2
            try clear hx172_3
            try clear p172
            try clear q172
            obtain ⟨x8_1, x168000_1, x168001_1, x168002_1, rfl, HA, HK1, BK167, HR172_2, HR172_3, HB⟩ := hrel
            cases gk with
            | zero => exact absurd HA.out (by simp [beadleref16_Attribute.l0])
            | succ k1 =>
              have H := HA.out
              clear HA
              simp only [beadleref16_Attribute.l0] at H
              by_cases c13 : x8_1 < (((rd_T34 t169 t168).f3).length : Int)
              · rw [if_pos c13] at H
                have c13b0 : decide (x8_1 < (((rd_T34 t169 t168).f3).length : Int)) = true := decide_eq_true c13
                clear c13
                by_cases c14 : 0 ≤ x8_1
                · rw [if_pos c14] at H
                  have c14b0 : decide (0 ≤ x8_1) = true := decide_eq_true c14
                  clear c14
                  by_cases c15 : ((rd_T40 ((rd_T34 t169 t168).f3) x8_1).f0).toList = a1.toList
                  · rw [if_pos c15] at H
                    have c15b0 : (((rd_T40 ((rd_T34 t169 t168).f3) x8_1).f0).toList == a1.toList) = true := beq_iff_eq.mpr c15
                    have c15b1 : (((rd_T40 ((rd_T34 t169 t168).f3) x8_1).f0).toList != a1.toList) = false := bne_eq_false_iff_eq.mpr c15
                    clear c15
                    simp only [Option.some.injEq, Prod.mk.injEq] at H
                    obtain ⟨rfl, rfl, rfl, rfl⟩ := H
                    have p173 : 0 ≤ (x8_1 : Int) := of_decide_eq_true (by first | (with_reducible assumption) | assumption)
                    have q173 : x8_1 < (((rd_T34 t169 t168).f3).length : Int) := of_decide_eq_true (by first | (with_reducible assumption) | assumption)
                    obtain ⟨ad173, e173, hx173_0, hx173_1, hx173_2⟩ := at_T40 HR172_3.out x8_1 p173 q173
                    cases e173
                    try replace hx173_0 := (HB.out.cell (World.block_lt_of_cell? w _ hx173_0)).trans hx173_0
                    try replace hx173_1 := (HB.out.cell (World.block_lt_of_cell? w _ hx173_1)).trans hx173_1
                    try replace hx173_2 := (HB.out.cell (World.block_lt_of_cell? w _ hx173_2)).trans hx173_2
                    replace p173 := eq_true p173
                    replace q173 := eq_true q173
                    have p174 : 0 ≤ (x8_1 : Int) := of_decide_eq_true (by first | (with_reducible assumption) | assumption)
                    have q174 : x8_1 < (((rd_T34 t169 t168).f3).length : Int) := of_decide_eq_true (by first | (with_reducible assumption) | assumption)
                    obtain ⟨ad174, e174, hx174_0, hx174_1, hx174_2⟩ := at_T40 HR172_3.out x8_1 p174 q174
                    obtain rfl : ad173 = ad174 := (by injection e174)
                    try replace hx174_0 := (HB.out.cell (World.block_lt_of_cell? w _ hx174_0)).trans hx174_0
                    try replace hx174_1 := (HB.out.cell (World.block_lt_of_cell? w _ hx174_1)).trans hx174_1
                    try replace hx174_2 := (HB.out.cell (World.block_lt_of_cell? w _ hx174_2)).trans hx174_2
                    replace p174 := eq_true p174
                    replace q174 := eq_true q174
                    have hcz16_0 : wr.cell? ⟨gb167, 0, none⟩ = some (.string x168000_1) := (blk_cell BK167.out 0).trans rfl
                    have hcz16_1 : wr.cell? ⟨gb167, 1, none⟩ = some (.string x168001_1) := (blk_cell BK167.out 1).trans rfl
                    have hcz16_2 : wr.cell? ⟨gb167, 2, none⟩ = some (.bool x168002_1) := (blk_cell BK167.out 2).trans rfl
                    have hfz16_0 := blk_frozen BK167.out 0
                    have hfz16_1 := blk_frozen BK167.out 1
                    have hfz16_2 := blk_frozen BK167.out 2
                    go_wp2
                    refine bodyPost_ret (results_ct rfl _ _ gb167 40 #[.string ((rd_T40 ((rd_T34 t169 t168).f3) x8_1).f0), .string ((rd_T40 ((rd_T34 t169 t168).f3) x8_1).f1), .bool ((rd_T40 ((rd_T34 t169 t168).f3) x8_1).f2)] (0, 0) _ rfl (by (with_reducible repeat (first | refine blk_drewN ?_ _ | refine blk_drew ?_ | refine blk_alloc ?_ _)); refine blk_put (cs := #[.string ((rd_T40 ((rd_T34 t169 t168).f3) x8_1).f0), .string ((rd_T40 ((rd_T34 t169 t168).f3) x8_1).f1), .bool x168002_1]) ?_ 2 _ rfl; (with_reducible repeat (first | refine blk_drewN ?_ _ | refine blk_drew ?_ | refine blk_alloc ?_ _)); refine blk_put (cs := #[.string ((rd_T40 ((rd_T34 t169 t168).f3) x8_1).f0), .string x168001_1, .bool x168002_1]) ?_ 1 _ rfl; (with_reducible repeat (first | refine blk_drewN ?_ _ | refine blk_drew ?_ | refine blk_alloc ?_ _)); refine blk_put (cs := #[.string x168000_1, .string x168001_1, .bool x168002_1]) ?_ 0 _ rfl; (with_reducible repeat (first | refine blk_drewN ?_ _ | refine blk_drew ?_ | refine blk_alloc ?_ _)); exact BK167.out) Tryd.underlying40 rfl (by kernel_rfl)) rfl ?_
                    exact ⟨by first | rfl | (simp [errW_none, errW_some] <;> rfl) | (simp [*, errW_none, errW_some] <;> rfl), by repeat (first | (with_reducible first | exact HB.out | apply below_alloc | apply pw_below_drewN | apply below_drew1 | refine below_set ?_ GE167.out) | exact HB.out)⟩
                  · rw [if_neg c15] at H
                    have c15b0 : (((rd_T40 ((rd_T34 t169 t168).f3) x8_1).f0).toList == a1.toList) = false := beq_eq_false_iff_ne.mpr c15
                    have c15b1 : (((rd_T40 ((rd_T34 t169 t168).f3) x8_1).f0).toList != a1.toList) = true := bne_iff_ne.mpr c15
                    have H' := Aside0.mk H
                    clear H
                    have p173 : 0 ≤ (x8_1 : Int) := of_decide_eq_true (by first | (with_reducible assumption) | assumption)
                    have q173 : x8_1 < (((rd_T34 t169 t168).f3).length : Int) := of_decide_eq_true (by first | (with_reducible assumption) | assumption)
                    obtain ⟨ad173, e173, hx173_0, hx173_1, hx173_2⟩ := at_T40 HR172_3.out x8_1 p173 q173
                    cases e173
                    try replace hx173_0 := (HB.out.cell (World.block_lt_of_cell? w _ hx173_0)).trans hx173_0
                    try replace hx173_1 := (HB.out.cell (World.block_lt_of_cell? w _ hx173_1)).trans hx173_1
                    try replace hx173_2 := (HB.out.cell (World.block_lt_of_cell? w _ hx173_2)).trans hx173_2
                    replace p173 := eq_true p173
                    replace q173 := eq_true q173
                    go_wp2
                    go_roundg k1
                    case measure => have := HK1.out; omega
                    case rel => exact ⟨(wrap64 (x8_1 + 1)), (x168000_1), (x168001_1), (x168002_1), (by first | rfl | (simp; done) | (simp [*]; done)), H', ⟨by have := HK1.out; omega⟩, ⟨by (with_reducible repeat (first | refine blk_drewN ?_ _ | refine blk_drew ?_ | refine blk_alloc ?_ _)); exact BK167.out⟩, ⟨by repeat (first | (with_reducible exact HR172_2.out) | (with_reducible refine Kd.C_alloc ?_ _) | (with_reducible refine Kd.C_drewN ?_ _) | (with_reducible refine Kd.C_drew ?_) | exact HR172_2.out)⟩, ⟨by repeat (first | (with_reducible exact HR172_3.out) | (with_reducible refine Kd.C_alloc ?_ _) | (with_reducible refine Kd.C_drewN ?_ _) | (with_reducible refine Kd.C_drew ?_) | exact HR172_3.out)⟩, ⟨by repeat (first | (with_reducible first | exact HB.out | apply below_alloc | apply pw_below_drewN | apply below_drew1 | refine below_set ?_ GE167.out) | exact HB.out)⟩⟩
                · rw [if_neg c14] at H
                  exact absurd H (by simp)
              · rw [if_neg c13] at H
                have c13b0 : decide (x8_1 < (((rd_T34 t169 t168).f3).length : Int)) = false := decide_eq_false c13
                clear c13
                have H' := Aside0.mk H
                clear H
                go_wp2
                go_meet
                case rel => exact ⟨_, (x168000_1), (x168001_1), (x168002_1), H', ⟨by have := HK1.out; first | omega | exact Nat.le_refl _⟩, ⟨by (with_reducible repeat (first | refine blk_drewN ?_ _ | refine blk_drew ?_ | refine blk_alloc ?_ _)); exact BK167.out⟩, ⟨by repeat (first | (with_reducible first | exact HB.out | apply below_alloc | apply pw_below_drewN | apply below_drew1 | refine below_set ?_ GE167.out) | exact HB.out)⟩⟩
        · rw [if_neg c10] at H
          exact absurd H (by simp)
      · rw [if_neg c9] at H
        exact absurd H (by simp)
    · rw [if_neg c7] at H
      have c7b0 : decide (0 ≤ t168) = false := decide_eq_false c7
      clear c7
      (first | rw [c7b0] | (simp only [i64_w, i32_w]; rw [c7b0]) | skip)
      have H' := Aside0.mk H
      clear H
      go_wp2
      go_meet
      case rel => exact ⟨_, ((⟨#[]⟩ : ByteArray)), ((⟨#[]⟩ : ByteArray)), (false), H', ⟨by first | omega | exact Nat.le_refl _⟩, ⟨by (with_reducible repeat (first | refine blk_drewN ?_ _ | refine blk_drew ?_ | refine blk_alloc ?_ _)); exact BK167.out⟩, ⟨by repeat (first | (with_reducible first | exact HB.out | apply below_alloc | apply pw_below_drewN | apply below_drew1 | refine below_set ?_ GE167.out) | exact HB.out)⟩⟩
  case rest =>
    clear HC4
    try clear c1
    try clear p1
    try clear q1
    try clear hx1
    try clear p2
    try clear p6
    try clear c7
    try clear c7b0
    try clear c9
    try clear c9b0
    try clear c10
    try clear c10b0
    try clear c13
    try clear c13b0
    try clear c14
    try clear c14b0
    try clear c15
    try clear c15b0
    try clear c15b1
    try clear hcz16_0
    try clear hcz16_1
    try clear hcz16_2
    try clear hfz16_0
    try clear hfz16_1
    try clear hfz16_2
    try clear hx172_0
    try clear hx172_1
    try clear hx172_2
    try clear hx172_3
    try clear hx173_0
    try clear hx173_1
    try clear hx173_2
    try clear hx174_0
    try clear hx174_1
    try clear hx174_2
    try clear p1
    try clear p172
    try clear p173
    try clear p174
    try clear p2
    try clear q1
    try clear q172
    try clear q173
    try clear q174
    obtain ⟨kq, x168000_3, x168001_3, x168002_3, HA, HJ3, BK167, HB⟩ := hcut
    cases kq with
    | zero => exact absurd HA.out (by simp [beadleref16_Attribute.j1])
    | succ kj3 =>
      have H := HA.out
      clear HA
      simp only [beadleref16_Attribute.j1] at H
      have HC17 := Aside0.mk H
      clear H
      go_upto_region 9 with (fail)
      go_cut [44] (fun v44 wc => ∃ (kq : Nat) (x44_16 : Bool), v44 = .bool x44_16 ∧ Aside0 (beadleref16_Attribute.j2 kq a1 x44_16 = some (r1, r2, r3, r4)) ∧ Aside0 (kq ≤ kj3) ∧ Aside0 (wc.heap[gb167]? = some (.cells #[.string x168000_3, .string x168001_3, .bool x168002_3] 40 (0, 0))) ∧ Aside0 (Below w.heap.size w wc))
      case first =>
        have H := HC17.out
        clear HC17
        by_cases c18 : (a1.size : Int) > 5
        · rw [if_pos c18] at H
          have c18b0 : decide (5 < (a1.size : Int)) = true := decide_eq_true c18
          have c18b1 : decide (5 < a1.size) = true := decide_eq_true (by omega)
          clear c18
          (first | rw [c18b0] | (simp only [i64_w, i32_w]; rw [c18b0]) | skip)
          by_cases c19 : 0 ≤ 5
          · rw [if_pos c19] at H
            have c19b0 := eq_true c19
            have c19b1 : decide (0 ≤ 5) = true := decide_eq_true c19
            clear c19
            by_cases c20 : 5 ≤ (a1.size : Int)
            · rw [if_pos c20] at H
              have c20b0 := eq_true c20
              have c20b1 : decide (5 ≤ (a1.size : Int)) = true := decide_eq_true c20
              clear c20
              have H' := Aside0.mk H
              clear H
              go_wp2
              go_meet
              case rel => exact ⟨_, (((a1.extract 0 5).toList == ([100, 97, 116, 97, 45] : List UInt8))), (by first | rfl | (simp; done) | (simp [*]; done)), H', ⟨by have := HJ3.out; first | omega | exact Nat.le_refl _⟩, ⟨by (with_reducible repeat (first | refine blk_drewN ?_ _ | refine blk_drew ?_ | refine blk_alloc ?_ _)); exact BK167.out⟩, ⟨by repeat (first | (with_reducible first | exact HB.out | apply below_alloc | apply pw_below_drewN | apply below_drew1 | refine below_set ?_ GE167.out) | exact HB.out)⟩⟩
            · rw [if_neg c20] at H
              exact absurd H (by simp)
          · rw [if_neg c19] at H
            exact absurd H (by simp)
        · rw [if_neg c18] at H
          have c18b0 : decide (5 < (a1.size : Int)) = false := decide_eq_false c18
          have c18b1 : decide (5 < a1.size) = false := decide_eq_false (by omega)
          clear c18
          (first | rw [c18b0] | (simp only [i64_w, i32_w]; rw [c18b0]) | skip)
          have H' := Aside0.mk H
          clear H
          go_wp2
          go_meet
          case rel => exact ⟨_, (false), (by first | rfl | (simp; done) | (simp [*]; done)), H', ⟨by have := HJ3.out; first | omega | exact Nat.le_refl _⟩, ⟨by (with_reducible repeat (first | refine blk_drewN ?_ _ | refine blk_drew ?_ | refine blk_alloc ?_ _)); exact BK167.out⟩, ⟨by repeat (first | (with_reducible first | exact HB.out | apply below_alloc | apply pw_below_drewN | apply below_drew1 | refine below_set ?_ GE167.out) | exact HB.out)⟩⟩
      case rest =>
        clear HC17
        try clear c1
        try clear p1
        try clear q1
        try clear hx1
        try clear c2
        try clear p2
        try clear p6
        try clear c7
        try clear c7b0
        try clear c9
        try clear c9b0
        try clear c10
        try clear c10b0
        try clear c13
        try clear c13b0
        try clear c14
        try clear c14b0
        try clear c15
        try clear c15b0
        try clear c15b1
        try clear c17
        try clear p17
        try clear q17
        try clear hx17
        try clear c18
        try clear c18b0
        try clear c18b1
        try clear c19
        try clear c19b0
        try clear c19b1
        try clear c20
        try clear c20b0
        try clear c20b1
        try clear hcz16_0
        try clear hcz16_1
        try clear hcz16_2
        try clear hfz16_0
        try clear hfz16_1
        try clear hfz16_2
        try clear hx172_0
        try clear hx172_1
        try clear hx172_2
        try clear hx172_3
        try clear hx173_0
        try clear hx173_1
        try clear hx173_2
        try clear hx174_0
        try clear hx174_1
        try clear hx174_2
        try clear p1
        try clear p172
        try clear p173
        try clear p174
        try clear p2
        try clear p6
        try clear q1
        try clear q172
        try clear q173
        try clear q174
        obtain ⟨kq, x44_16, rfl, HA, HJ16, BK167, HB⟩ := hcut
        cases kq with
        | zero => exact absurd HA.out (by simp [beadleref16_Attribute.j2])
        | succ kj16 =>
          have H := HA.out
          clear HA
          simp only [beadleref16_Attribute.j2] at H
          by_cases c21 : x44_16 = true
          · subst c21
            have H1 : (some (a1, (⟨#[116, 101, 120, 116]⟩ : ByteArray), false, true)) = some (r1, r2, r3, r4) := by rw [if_pos rfl] at H; exact H
            clear H
            have H := H1
            clear H1
            simp only [Option.some.injEq, Prod.mk.injEq] at H
            obtain ⟨rfl, rfl, rfl, rfl⟩ := H
            have hcz22_0 : wc.cell? ⟨gb167, 0, none⟩ = some (.string x168000_3) := (blk_cell BK167.out 0).trans rfl
            have hcz22_1 : wc.cell? ⟨gb167, 1, none⟩ = some (.string x168001_3) := (blk_cell BK167.out 1).trans rfl
            have hcz22_2 : wc.cell? ⟨gb167, 2, none⟩ = some (.bool x168002_3) := (blk_cell BK167.out 2).trans rfl
            have hfz22_0 := blk_frozen BK167.out 0
            have hfz22_1 := blk_frozen BK167.out 1
            have hfz22_2 := blk_frozen BK167.out 2
            go_wp2
            refine bodyPost_ret (results_ct rfl _ _ gb167 40 #[.string a1, .string (⟨#[116, 101, 120, 116]⟩ : ByteArray), .bool false] (0, 0) _ rfl (by (with_reducible repeat (first | refine blk_drewN ?_ _ | refine blk_drew ?_ | refine blk_alloc ?_ _)); refine blk_put (cs := #[.string a1, .string (⟨#[116, 101, 120, 116]⟩ : ByteArray), .bool x168002_3]) ?_ 2 _ rfl; (with_reducible repeat (first | refine blk_drewN ?_ _ | refine blk_drew ?_ | refine blk_alloc ?_ _)); refine blk_put (cs := #[.string a1, .string x168001_3, .bool x168002_3]) ?_ 1 _ rfl; (with_reducible repeat (first | refine blk_drewN ?_ _ | refine blk_drew ?_ | refine blk_alloc ?_ _)); refine blk_put (cs := #[.string x168000_3, .string x168001_3, .bool x168002_3]) ?_ 0 _ rfl; (with_reducible repeat (first | refine blk_drewN ?_ _ | refine blk_drew ?_ | refine blk_alloc ?_ _)); exact BK167.out) Tryd.underlying40 rfl (by kernel_rfl)) rfl ?_
            exact ⟨by first | rfl | (simp [errW_none, errW_some] <;> rfl) | (simp [*, errW_none, errW_some] <;> rfl), by repeat (first | (with_reducible first | exact HB.out | apply below_alloc | apply pw_below_drewN | apply below_drew1 | refine below_set ?_ GE167.out) | exact HB.out)⟩
          · replace c21 := Bool.eq_false_iff.mpr c21
            subst c21
            have H1 : ((beadleref16_All.f).bind fun t175 => (beadleref16_Attribute.l1 kj16 a1 t175 0)) = some (r1, r2, r3, r4) := by rw [if_neg (show ¬ (false = true) by decide)] at H; exact H
            clear H
            have H := H1
            clear H1
            replace H := Option.bind_eq_some_iff.mp H
            obtain ⟨t175, A230, H⟩ := H
            replace H : (beadleref16_Attribute.l1 kj16 a1 t175 0) = some (r1, r2, r3, r4) := H
            have A23 := Aside0.mk A230
            clear A230
            have H' := Aside0.mk H
            clear H
            go_wp2_with (first | ((with_reducible refine gate_callee (f := 27) rfl ?_); refine goesL_ (some 47) rfl rfl Tryd.func27 (by kernel_rfl) rfl #[] rfl (by (try simp only [List.map_toArray, List.map_cons, List.map_nil]); first | done | rfl | (simp only [List.length_drop, List.length_take]; rfl)) ?_; (with_reducible refine (beadleref16_All.calls  t175 _ A23.out).mono ?_); rintro e w24 ⟨v176, rfl, ho0, hb⟩; refine ⟨_, rfl, ?_⟩; have n0_ := Aside0.mk (Kd.R_lower (Kd.R_newB ho0 (g := gb167) (o := .cells #[.string x168000_3, .string x168001_3, .bool x168002_3] 40 (0, 0)) (by (with_reducible repeat (first | refine blk_drewN ?_ _ | refine blk_drew ?_ | refine blk_alloc ?_ _)); exact BK167.out)) (below_size (by repeat (first | (with_reducible first | exact HB.out | apply below_alloc | apply pw_below_drewN | apply below_drew1 | refine below_set ?_ GE167.out) | exact HB.out)))); have n1_ := Aside0.mk (blk_below (g := gb167) (o := .cells #[.string x168000_3, .string x168001_3, .bool x168002_3] 40 (0, 0)) (by (with_reducible repeat (first | refine blk_drewN ?_ _ | refine blk_drew ?_ | refine blk_alloc ?_ _)); exact BK167.out) hb); have n2_ := Aside0.mk (below_step (by repeat (first | (with_reducible first | exact HB.out | apply below_alloc | apply pw_below_drewN | apply below_drew1 | refine below_set ?_ GE167.out) | exact HB.out)) hb); clear BK167; clear HB; have HO177 := n0_; have BK167 := n1_; have HB := n2_; clear n0_ n1_ n2_; (try clear hb); (try clear hb2); (try clear hk); (try clear hi); (try clear ho0)))
            go_loopg [10] kj16 (fun kq v10 w' => ∃ (x10_3 : Int) (x168000_3 : ByteArray) (x168001_3 : ByteArray) (x168002_3 : Bool), v10 = .int .i64 x10_3 ∧ Aside0 (beadleref16_Attribute.l1 kq a1 t175 x10_3 = some (r1, r2, r3, r4)) ∧ Aside0 (kq ≤ kj16) ∧ Aside0 (Kd.R k40 40 w' w.heap.size (fun k_ => k_ ≠ gb167) v176 t175) ∧ Aside0 (w'.heap[gb167]? = some (.cells #[.string x168000_3, .string x168001_3, .bool x168002_3] 40 (0, 0))) ∧ Aside0 (Below w.heap.size w w'))
            case atStart => exact ⟨(0), (x168000_3), (x168001_3), (x168002_3), (by first | rfl | (simp; done) | (simp [*]; done)), H', ⟨Nat.le_refl _⟩, ⟨by (with_reducible repeat (first | apply Kd.R_alloc | apply Kd.R_drewN | apply Kd.R_drew)); exact Kd.R_mono HO177.out (fun _ hk => hk.2)⟩, ⟨by (with_reducible repeat (first | refine blk_drewN ?_ _ | refine blk_drew ?_ | refine blk_alloc ?_ _)); exact BK167.out⟩, ⟨by repeat (first | (with_reducible first | exact HB.out | apply below_alloc | apply pw_below_drewN | apply below_drew1 | refine below_set ?_ GE167.out) | exact HB.out)⟩⟩
            case round =>
              clear H'
              try clear c1
              try clear p1
              try clear q1
              try clear hx1
              try clear c2
              try clear p2
              try clear p6
              try clear c7
              try clear c7b0
              try clear c9
              try clear c9b0
              try clear c10
              try clear c10b0
              try clear c13
              try clear c13b0
              try clear c14
              try clear c14b0
              try clear c15
              try clear c15b0
              try clear c15b1
              try clear c17
              try clear p17
              try clear q17
              try clear hx17
              try clear c18
              try clear c18b0
              try clear c18b1
              try clear c19
              try clear c19b0
              try clear c19b1
              try clear c20
              try clear c20b0
              try clear c20b1
              try clear c21
              try clear hcz16_0
              try clear hcz16_1
              try clear hcz16_2
              try clear hcz22_0
              try clear hcz22_1
              try clear hcz22_2
              try clear hfz16_0
              try clear hfz16_1
              try clear hfz16_2
              try clear hfz22_0
              try clear hfz22_1
              try clear hfz22_2
              try clear hx172_0
              try clear hx172_1
              try clear hx172_2
              try clear hx172_3
              try clear hx173_0
              try clear hx173_1
              try clear hx173_2
              try clear hx174_0
              try clear hx174_1
              try clear hx174_2
              try clear p1
              try clear p17
              try clear p172
              try clear p173
              try clear p174
              try clear p2
              try clear p6
              try clear q1
              try clear q17
              try clear q172
              try clear q173
              try clear q174
              obtain ⟨x10_3, x168000_3, x168001_3, x168002_3, rfl, HA, HK3, HO_9, BK167, HB⟩ := hrel
              cases gk with
              | zero => exact absurd HA.out (by simp [beadleref16_Attribute.l1])
              | succ k3 =>
                have H := HA.out
                clear HA
                simp only [beadleref16_Attribute.l1] at H
                by_cases c25 : x10_3 < (t175.length : Int)
                · rw [if_pos c25] at H
                  have c25b0 : decide (x10_3 < (t175.length : Int)) = true := decide_eq_true c25
                  clear c25
                  by_cases c26 : 0 ≤ x10_3
                  · rw [if_pos c26] at H
                    have c26b0 : decide (0 ≤ x10_3) = true := decide_eq_true c26
                    clear c26
                    by_cases c27 : ((rd_T40 t175 x10_3).f0).toList = a1.toList
                    · rw [if_pos c27] at H
                      have c27b0 : (((rd_T40 t175 x10_3).f0).toList == a1.toList) = true := beq_iff_eq.mpr c27
                      have c27b1 : (((rd_T40 t175 x10_3).f0).toList != a1.toList) = false := bne_eq_false_iff_eq.mpr c27
                      clear c27
                      simp only [Option.some.injEq, Prod.mk.injEq] at H
                      obtain ⟨rfl, rfl, rfl, rfl⟩ := H
                      obtain ⟨Ao28, co28, eo28⟩ := Kd.R_slice HO_9.out
                      subst eo28
                      have p178 : 0 ≤ (x10_3 : Int) := of_decide_eq_true (by first | (with_reducible assumption) | assumption)
                      have q178 : x10_3 < (t175.length : Int) := of_decide_eq_true (by first | (with_reducible assumption) | assumption)
                      obtain ⟨ad178, e178, hx178_0, hx178_1, hx178_2⟩ := at_T40 (Kd.R_reads' HO_9.out).2.2 x10_3 p178 q178
                      cases e178
                      replace p178 := eq_true p178
                      replace q178 := eq_true q178
                      have p179 : 0 ≤ (x10_3 : Int) := of_decide_eq_true (by first | (with_reducible assumption) | assumption)
                      have q179 : x10_3 < (t175.length : Int) := of_decide_eq_true (by first | (with_reducible assumption) | assumption)
                      obtain ⟨ad179, e179, hx179_0, hx179_1, hx179_2⟩ := at_T40 (Kd.R_reads' HO_9.out).2.2 x10_3 p179 q179
                      obtain rfl : ad178 = ad179 := (by injection e179)
                      replace p179 := eq_true p179
                      replace q179 := eq_true q179
                      have hcz29_0 : wr.cell? ⟨gb167, 0, none⟩ = some (.string x168000_3) := (blk_cell BK167.out 0).trans rfl
                      have hcz29_1 : wr.cell? ⟨gb167, 1, none⟩ = some (.string x168001_3) := (blk_cell BK167.out 1).trans rfl
                      have hcz29_2 : wr.cell? ⟨gb167, 2, none⟩ = some (.bool x168002_3) := (blk_cell BK167.out 2).trans rfl
                      have hfz29_0 := blk_frozen BK167.out 0
                      have hfz29_1 := blk_frozen BK167.out 1
                      have hfz29_2 := blk_frozen BK167.out 2
                      go_wp2
                      refine bodyPost_ret (results_ct rfl _ _ gb167 40 #[.string ((rd_T40 t175 x10_3).f0), .string ((rd_T40 t175 x10_3).f1), .bool ((rd_T40 t175 x10_3).f2)] (0, 0) _ rfl (by (with_reducible repeat (first | refine blk_drewN ?_ _ | refine blk_drew ?_ | refine blk_alloc ?_ _)); refine blk_put (cs := #[.string ((rd_T40 t175 x10_3).f0), .string ((rd_T40 t175 x10_3).f1), .bool x168002_3]) ?_ 2 _ rfl; (with_reducible repeat (first | refine blk_drewN ?_ _ | refine blk_drew ?_ | refine blk_alloc ?_ _)); refine blk_put (cs := #[.string ((rd_T40 t175 x10_3).f0), .string x168001_3, .bool x168002_3]) ?_ 1 _ rfl; (with_reducible repeat (first | refine blk_drewN ?_ _ | refine blk_drew ?_ | refine blk_alloc ?_ _)); refine blk_put (cs := #[.string x168000_3, .string x168001_3, .bool x168002_3]) ?_ 0 _ rfl; (with_reducible repeat (first | refine blk_drewN ?_ _ | refine blk_drew ?_ | refine blk_alloc ?_ _)); exact BK167.out) Tryd.underlying40 rfl (by kernel_rfl)) rfl ?_
                      exact ⟨by first | rfl | (simp [errW_none, errW_some] <;> rfl) | (simp [*, errW_none, errW_some] <;> rfl), by repeat (first | (with_reducible first | exact HB.out | apply below_alloc | apply pw_below_drewN | apply below_drew1 | refine below_set ?_ GE167.out) | exact HB.out)⟩
                    · rw [if_neg c27] at H
                      have c27b0 : (((rd_T40 t175 x10_3).f0).toList == a1.toList) = false := beq_eq_false_iff_ne.mpr c27
                      have c27b1 : (((rd_T40 t175 x10_3).f0).toList != a1.toList) = true := bne_iff_ne.mpr c27
                      have H' := Aside0.mk H
                      clear H
                      obtain ⟨Ao30, co30, eo30⟩ := Kd.R_slice HO_9.out
                      subst eo30
                      have p178 : 0 ≤ (x10_3 : Int) := of_decide_eq_true (by first | (with_reducible assumption) | assumption)
                      have q178 : x10_3 < (t175.length : Int) := of_decide_eq_true (by first | (with_reducible assumption) | assumption)
                      obtain ⟨ad178, e178, hx178_0, hx178_1, hx178_2⟩ := at_T40 (Kd.R_reads' HO_9.out).2.2 x10_3 p178 q178
                      cases e178
                      replace p178 := eq_true p178
                      replace q178 := eq_true q178
                      go_wp2
                      go_roundg k3
                      case measure => have := HJ3.out; have := HJ16.out; have := HK3.out; omega
                      case rel => exact ⟨(wrap64 (x10_3 + 1)), (x168000_3), (x168001_3), (x168002_3), (by first | rfl | (simp; done) | (simp [*]; done)), H', ⟨by have := HJ3.out; have := HJ16.out; have := HK3.out; omega⟩, ⟨by (with_reducible repeat (first | apply Kd.R_alloc | apply Kd.R_drewN | apply Kd.R_drew)); exact HO_9.out⟩, ⟨by (with_reducible repeat (first | refine blk_drewN ?_ _ | refine blk_drew ?_ | refine blk_alloc ?_ _)); exact BK167.out⟩, ⟨by repeat (first | (with_reducible first | exact HB.out | apply below_alloc | apply pw_below_drewN | apply below_drew1 | refine below_set ?_ GE167.out) | exact HB.out)⟩⟩
                  · rw [if_neg c26] at H
                    exact absurd H (by simp)
                · rw [if_neg c25] at H
                  have c25b0 : decide (x10_3 < (t175.length : Int)) = false := decide_eq_false c25
                  clear c25
                  simp only [Option.some.injEq, Prod.mk.injEq] at H
                  obtain ⟨rfl, rfl, rfl, rfl⟩ := H
                  obtain ⟨Ao31, co31, eo31⟩ := Kd.R_slice HO_9.out
                  subst eo31
                  have hcz32_0 : wr.cell? ⟨gb167, 0, none⟩ = some (.string x168000_3) := (blk_cell BK167.out 0).trans rfl
                  have hcz32_1 : wr.cell? ⟨gb167, 1, none⟩ = some (.string x168001_3) := (blk_cell BK167.out 1).trans rfl
                  have hcz32_2 : wr.cell? ⟨gb167, 2, none⟩ = some (.bool x168002_3) := (blk_cell BK167.out 2).trans rfl
                  have hfz32_0 := blk_frozen BK167.out 0
                  have hfz32_1 := blk_frozen BK167.out 1
                  have hfz32_2 := blk_frozen BK167.out 2
                  go_wp2
                  refine bodyPost_ret (results_ct rfl _ _ gb167 40 #[.string (⟨#[]⟩ : ByteArray), .string (⟨#[]⟩ : ByteArray), .bool false] (0, 0) _ rfl (by (with_reducible repeat (first | refine blk_drewN ?_ _ | refine blk_drew ?_ | refine blk_alloc ?_ _)); refine blk_put (cs := #[.string (⟨#[]⟩ : ByteArray), .string (⟨#[]⟩ : ByteArray), .bool x168002_3]) ?_ 2 _ rfl; (with_reducible repeat (first | refine blk_drewN ?_ _ | refine blk_drew ?_ | refine blk_alloc ?_ _)); refine blk_put (cs := #[.string (⟨#[]⟩ : ByteArray), .string x168001_3, .bool x168002_3]) ?_ 1 _ rfl; (with_reducible repeat (first | refine blk_drewN ?_ _ | refine blk_drew ?_ | refine blk_alloc ?_ _)); refine blk_put (cs := #[.string x168000_3, .string x168001_3, .bool x168002_3]) ?_ 0 _ rfl; (with_reducible repeat (first | refine blk_drewN ?_ _ | refine blk_drew ?_ | refine blk_alloc ?_ _)); exact BK167.out) Tryd.underlying40 rfl (by kernel_rfl)) rfl ?_
                  exact ⟨by first | rfl | (simp [errW_none, errW_some] <;> rfl) | (simp [*, errW_none, errW_some] <;> rfl), by repeat (first | (with_reducible first | exact HB.out | apply below_alloc | apply pw_below_drewN | apply below_drew1 | refine below_set ?_ GE167.out) | exact HB.out)⟩

/-! ### beadleref16_OldAttrs: function 14 -/
def beadleref16_OldAttrs.f  : Option ((List (S47))) := some (([(⟨(⟨#[97]⟩ : ByteArray), (⟨#[99, 104, 97, 114, 115, 101, 116]⟩ : ByteArray)⟩ : S47), (⟨(⟨#[97]⟩ : ByteArray), (⟨#[110, 97, 109, 101]⟩ : ByteArray)⟩ : S47), (⟨(⟨#[98, 111, 100, 121]⟩ : ByteArray), (⟨#[98, 103, 99, 111, 108, 111, 114]⟩ : ByteArray)⟩ : S47), (⟨(⟨#[98, 111, 100, 121]⟩ : ByteArray), (⟨#[116, 101, 120, 116]⟩ : ByteArray)⟩ : S47), (⟨(⟨#[98, 114]⟩ : ByteArray), (⟨#[99, 108, 101, 97, 114]⟩ : ByteArray)⟩ : S47), (⟨(⟨#[104, 114]⟩ : ByteArray), (⟨#[110, 111, 115, 104, 97, 100, 101]⟩ : ByteArray)⟩ : S47), (⟨(⟨#[104, 114]⟩ : ByteArray), (⟨#[115, 105, 122, 101]⟩ : ByteArray)⟩ : S47), (⟨(⟨#[105, 109, 103]⟩ : ByteArray), (⟨#[97, 108, 105, 103, 110]⟩ : ByteArray)⟩ : S47), (⟨(⟨#[105, 109, 103]⟩ : ByteArray), (⟨#[98, 111, 114, 100, 101, 114]⟩ : ByteArray)⟩ : S47), (⟨(⟨#[116, 97, 98, 108, 101]⟩ : ByteArray), (⟨#[98, 103, 99, 111, 108, 111, 114]⟩ : ByteArray)⟩ : S47), (⟨(⟨#[116, 97, 98, 108, 101]⟩ : ByteArray), (⟨#[99, 101, 108, 108, 112, 97, 100, 100, 105, 110, 103]⟩ : ByteArray)⟩ : S47), (⟨(⟨#[116, 97, 98, 108, 101]⟩ : ByteArray), (⟨#[99, 101, 108, 108, 115, 112, 97, 99, 105, 110, 103]⟩ : ByteArray)⟩ : S47), (⟨(⟨#[116, 100]⟩ : ByteArray), (⟨#[110, 111, 119, 114, 97, 112]⟩ : ByteArray)⟩ : S47), (⟨(⟨#[116, 100]⟩ : ByteArray), (⟨#[118, 97, 108, 105, 103, 110]⟩ : ByteArray)⟩ : S47), (⟨(⟨#[116, 104]⟩ : ByteArray), (⟨#[110, 111, 119, 114, 97, 112]⟩ : ByteArray)⟩ : S47), (⟨(⟨#[116, 104]⟩ : ByteArray), (⟨#[118, 97, 108, 105, 103, 110]⟩ : ByteArray)⟩ : S47)] : List (S47)))
set_option maxHeartbeats 8000000 in
set_option maxRecDepth 100000 in
theorem beadleref16_OldAttrs.calls  (r : List (S47)) (w : World) (h : beadleref16_OldAttrs.f  = some r) :
    Calls Tryd.prog 14 #[] w fun e w' => ∃ v0_ : Value, e = .returned (v0_) ∧ Kd.R k47 47 w' w.heap.size (fun _ => True) v0_ r ∧ Below w.heap.size w w' := by
  have hu47 := Tryd.underlying47
  have HB := Aside0.mk (Below.refl w.heap.size w)
  have H : (some (([(⟨(⟨#[97]⟩ : ByteArray), (⟨#[99, 104, 97, 114, 115, 101, 116]⟩ : ByteArray)⟩ : S47), (⟨(⟨#[97]⟩ : ByteArray), (⟨#[110, 97, 109, 101]⟩ : ByteArray)⟩ : S47), (⟨(⟨#[98, 111, 100, 121]⟩ : ByteArray), (⟨#[98, 103, 99, 111, 108, 111, 114]⟩ : ByteArray)⟩ : S47), (⟨(⟨#[98, 111, 100, 121]⟩ : ByteArray), (⟨#[116, 101, 120, 116]⟩ : ByteArray)⟩ : S47), (⟨(⟨#[98, 114]⟩ : ByteArray), (⟨#[99, 108, 101, 97, 114]⟩ : ByteArray)⟩ : S47), (⟨(⟨#[104, 114]⟩ : ByteArray), (⟨#[110, 111, 115, 104, 97, 100, 101]⟩ : ByteArray)⟩ : S47), (⟨(⟨#[104, 114]⟩ : ByteArray), (⟨#[115, 105, 122, 101]⟩ : ByteArray)⟩ : S47), (⟨(⟨#[105, 109, 103]⟩ : ByteArray), (⟨#[97, 108, 105, 103, 110]⟩ : ByteArray)⟩ : S47), (⟨(⟨#[105, 109, 103]⟩ : ByteArray), (⟨#[98, 111, 114, 100, 101, 114]⟩ : ByteArray)⟩ : S47), (⟨(⟨#[116, 97, 98, 108, 101]⟩ : ByteArray), (⟨#[98, 103, 99, 111, 108, 111, 114]⟩ : ByteArray)⟩ : S47), (⟨(⟨#[116, 97, 98, 108, 101]⟩ : ByteArray), (⟨#[99, 101, 108, 108, 112, 97, 100, 100, 105, 110, 103]⟩ : ByteArray)⟩ : S47), (⟨(⟨#[116, 97, 98, 108, 101]⟩ : ByteArray), (⟨#[99, 101, 108, 108, 115, 112, 97, 99, 105, 110, 103]⟩ : ByteArray)⟩ : S47), (⟨(⟨#[116, 100]⟩ : ByteArray), (⟨#[110, 111, 119, 114, 97, 112]⟩ : ByteArray)⟩ : S47), (⟨(⟨#[116, 100]⟩ : ByteArray), (⟨#[118, 97, 108, 105, 103, 110]⟩ : ByteArray)⟩ : S47), (⟨(⟨#[116, 104]⟩ : ByteArray), (⟨#[110, 111, 119, 114, 97, 112]⟩ : ByteArray)⟩ : S47), (⟨(⟨#[116, 104]⟩ : ByteArray), (⟨#[118, 97, 108, 105, 103, 110]⟩ : ByteArray)⟩ : S47)] : List (S47)))) = some r := h
  clear h
  obtain ⟨y180, hy180⟩ : ∃ y_ : List (S47), y_ = (([(⟨(⟨#[97]⟩ : ByteArray), (⟨#[99, 104, 97, 114, 115, 101, 116]⟩ : ByteArray)⟩ : S47), (⟨(⟨#[97]⟩ : ByteArray), (⟨#[110, 97, 109, 101]⟩ : ByteArray)⟩ : S47), (⟨(⟨#[98, 111, 100, 121]⟩ : ByteArray), (⟨#[98, 103, 99, 111, 108, 111, 114]⟩ : ByteArray)⟩ : S47), (⟨(⟨#[98, 111, 100, 121]⟩ : ByteArray), (⟨#[116, 101, 120, 116]⟩ : ByteArray)⟩ : S47), (⟨(⟨#[98, 114]⟩ : ByteArray), (⟨#[99, 108, 101, 97, 114]⟩ : ByteArray)⟩ : S47), (⟨(⟨#[104, 114]⟩ : ByteArray), (⟨#[110, 111, 115, 104, 97, 100, 101]⟩ : ByteArray)⟩ : S47), (⟨(⟨#[104, 114]⟩ : ByteArray), (⟨#[115, 105, 122, 101]⟩ : ByteArray)⟩ : S47), (⟨(⟨#[105, 109, 103]⟩ : ByteArray), (⟨#[97, 108, 105, 103, 110]⟩ : ByteArray)⟩ : S47), (⟨(⟨#[105, 109, 103]⟩ : ByteArray), (⟨#[98, 111, 114, 100, 101, 114]⟩ : ByteArray)⟩ : S47), (⟨(⟨#[116, 97, 98, 108, 101]⟩ : ByteArray), (⟨#[98, 103, 99, 111, 108, 111, 114]⟩ : ByteArray)⟩ : S47), (⟨(⟨#[116, 97, 98, 108, 101]⟩ : ByteArray), (⟨#[99, 101, 108, 108, 112, 97, 100, 100, 105, 110, 103]⟩ : ByteArray)⟩ : S47), (⟨(⟨#[116, 97, 98, 108, 101]⟩ : ByteArray), (⟨#[99, 101, 108, 108, 115, 112, 97, 99, 105, 110, 103]⟩ : ByteArray)⟩ : S47), (⟨(⟨#[116, 100]⟩ : ByteArray), (⟨#[110, 111, 119, 114, 97, 112]⟩ : ByteArray)⟩ : S47), (⟨(⟨#[116, 100]⟩ : ByteArray), (⟨#[118, 97, 108, 105, 103, 110]⟩ : ByteArray)⟩ : S47), (⟨(⟨#[116, 104]⟩ : ByteArray), (⟨#[110, 111, 119, 114, 97, 112]⟩ : ByteArray)⟩ : S47), (⟨(⟨#[116, 104]⟩ : ByteArray), (⟨#[118, 97, 108, 105, 103, 110]⟩ : ByteArray)⟩ : S47)] : List (S47))) := ⟨_, rfl⟩
  replace H : (some y180) = some r := by first | (rw [hy180]; with_reducible exact H) | (have H2_ := (Option.bind_some _ _).symm.trans H; rw [hy180]; with_reducible exact H2_) | (have H2_ := (Option.bind_some _ _).symm.trans H; with_reducible exact H2_) | with_reducible exact H | (rw [hy180]; exact H) | exact H
  have Ny180 := Aside0.mk hy180
  clear hy180
  obtain rfl := Option.some.inj H
  go_enter Tryd.func14, Tryd.ntmps14
  go_wp2_with (first | ((with_reducible refine gate_dst (N := 17) rfl ?_); refine Kd.R_lit k47 _ 47 ?hg (N := 17) ?hd (xs := ([(⟨(⟨#[97]⟩ : ByteArray), (⟨#[99, 104, 97, 114, 115, 101, 116]⟩ : ByteArray)⟩ : S47), (⟨(⟨#[97]⟩ : ByteArray), (⟨#[110, 97, 109, 101]⟩ : ByteArray)⟩ : S47), (⟨(⟨#[98, 111, 100, 121]⟩ : ByteArray), (⟨#[98, 103, 99, 111, 108, 111, 114]⟩ : ByteArray)⟩ : S47), (⟨(⟨#[98, 111, 100, 121]⟩ : ByteArray), (⟨#[116, 101, 120, 116]⟩ : ByteArray)⟩ : S47), (⟨(⟨#[98, 114]⟩ : ByteArray), (⟨#[99, 108, 101, 97, 114]⟩ : ByteArray)⟩ : S47), (⟨(⟨#[104, 114]⟩ : ByteArray), (⟨#[110, 111, 115, 104, 97, 100, 101]⟩ : ByteArray)⟩ : S47), (⟨(⟨#[104, 114]⟩ : ByteArray), (⟨#[115, 105, 122, 101]⟩ : ByteArray)⟩ : S47), (⟨(⟨#[105, 109, 103]⟩ : ByteArray), (⟨#[97, 108, 105, 103, 110]⟩ : ByteArray)⟩ : S47), (⟨(⟨#[105, 109, 103]⟩ : ByteArray), (⟨#[98, 111, 114, 100, 101, 114]⟩ : ByteArray)⟩ : S47), (⟨(⟨#[116, 97, 98, 108, 101]⟩ : ByteArray), (⟨#[98, 103, 99, 111, 108, 111, 114]⟩ : ByteArray)⟩ : S47), (⟨(⟨#[116, 97, 98, 108, 101]⟩ : ByteArray), (⟨#[99, 101, 108, 108, 112, 97, 100, 100, 105, 110, 103]⟩ : ByteArray)⟩ : S47), (⟨(⟨#[116, 97, 98, 108, 101]⟩ : ByteArray), (⟨#[99, 101, 108, 108, 115, 112, 97, 99, 105, 110, 103]⟩ : ByteArray)⟩ : S47), (⟨(⟨#[116, 100]⟩ : ByteArray), (⟨#[110, 111, 119, 114, 97, 112]⟩ : ByteArray)⟩ : S47), (⟨(⟨#[116, 100]⟩ : ByteArray), (⟨#[118, 97, 108, 105, 103, 110]⟩ : ByteArray)⟩ : S47), (⟨(⟨#[116, 104]⟩ : ByteArray), (⟨#[110, 111, 119, 114, 97, 112]⟩ : ByteArray)⟩ : S47), (⟨(⟨#[116, 104]⟩ : ByteArray), (⟨#[118, 97, 108, 105, 103, 110]⟩ : ByteArray)⟩ : S47)] : List (S47))) (inner := [.string (⟨#[97]⟩ : ByteArray), .string (⟨#[99, 104, 97, 114, 115, 101, 116]⟩ : ByteArray), .string (⟨#[97]⟩ : ByteArray), .string (⟨#[110, 97, 109, 101]⟩ : ByteArray), .string (⟨#[98, 111, 100, 121]⟩ : ByteArray), .string (⟨#[98, 103, 99, 111, 108, 111, 114]⟩ : ByteArray), .string (⟨#[98, 111, 100, 121]⟩ : ByteArray), .string (⟨#[116, 101, 120, 116]⟩ : ByteArray), .string (⟨#[98, 114]⟩ : ByteArray), .string (⟨#[99, 108, 101, 97, 114]⟩ : ByteArray), .string (⟨#[104, 114]⟩ : ByteArray), .string (⟨#[110, 111, 115, 104, 97, 100, 101]⟩ : ByteArray), .string (⟨#[104, 114]⟩ : ByteArray), .string (⟨#[115, 105, 122, 101]⟩ : ByteArray), .string (⟨#[105, 109, 103]⟩ : ByteArray), .string (⟨#[97, 108, 105, 103, 110]⟩ : ByteArray), .string (⟨#[105, 109, 103]⟩ : ByteArray), .string (⟨#[98, 111, 114, 100, 101, 114]⟩ : ByteArray), .string (⟨#[116, 97, 98, 108, 101]⟩ : ByteArray), .string (⟨#[98, 103, 99, 111, 108, 111, 114]⟩ : ByteArray), .string (⟨#[116, 97, 98, 108, 101]⟩ : ByteArray), .string (⟨#[99, 101, 108, 108, 112, 97, 100, 100, 105, 110, 103]⟩ : ByteArray), .string (⟨#[116, 97, 98, 108, 101]⟩ : ByteArray), .string (⟨#[99, 101, 108, 108, 115, 112, 97, 99, 105, 110, 103]⟩ : ByteArray), .string (⟨#[116, 100]⟩ : ByteArray), .string (⟨#[110, 111, 119, 114, 97, 112]⟩ : ByteArray), .string (⟨#[116, 100]⟩ : ByteArray), .string (⟨#[118, 97, 108, 105, 103, 110]⟩ : ByteArray), .string (⟨#[116, 104]⟩ : ByteArray), .string (⟨#[110, 111, 119, 114, 97, 112]⟩ : ByteArray), .string (⟨#[116, 104]⟩ : ByteArray), .string (⟨#[118, 97, 108, 105, 103, 110]⟩ : ByteArray)]) (ok := fun _ => True) (okp := fun _ => True) ?hr ?hp (fun _ hk => hk) trivial (Below.refl _ _) (Nat.le_refl _) (by simp) ?_; (case hd => rfl); (case hg => rfl); (case hr => first | (go_simp; done) | (go_simp; rfl)); (case hp => exact (Reps.c2 (show Kd.M k47 _ _ _ (⟨(⟨#[97]⟩ : ByteArray), (⟨#[99, 104, 97, 114, 115, 101, 116]⟩ : ByteArray)⟩ : S47) [.string (⟨#[97]⟩ : ByteArray), .string (⟨#[99, 104, 97, 114, 115, 101, 116]⟩ : ByteArray)] from (k47_mkM _ _ _ (⟨(⟨#[97]⟩ : ByteArray), (⟨#[99, 104, 97, 114, 115, 101, 116]⟩ : ByteArray)⟩ : S47) )) (Reps.c2 (show Kd.M k47 _ _ _ (⟨(⟨#[97]⟩ : ByteArray), (⟨#[110, 97, 109, 101]⟩ : ByteArray)⟩ : S47) [.string (⟨#[97]⟩ : ByteArray), .string (⟨#[110, 97, 109, 101]⟩ : ByteArray)] from (k47_mkM _ _ _ (⟨(⟨#[97]⟩ : ByteArray), (⟨#[110, 97, 109, 101]⟩ : ByteArray)⟩ : S47) )) (Reps.c2 (show Kd.M k47 _ _ _ (⟨(⟨#[98, 111, 100, 121]⟩ : ByteArray), (⟨#[98, 103, 99, 111, 108, 111, 114]⟩ : ByteArray)⟩ : S47) [.string (⟨#[98, 111, 100, 121]⟩ : ByteArray), .string (⟨#[98, 103, 99, 111, 108, 111, 114]⟩ : ByteArray)] from (k47_mkM _ _ _ (⟨(⟨#[98, 111, 100, 121]⟩ : ByteArray), (⟨#[98, 103, 99, 111, 108, 111, 114]⟩ : ByteArray)⟩ : S47) )) (Reps.c2 (show Kd.M k47 _ _ _ (⟨(⟨#[98, 111, 100, 121]⟩ : ByteArray), (⟨#[116, 101, 120, 116]⟩ : ByteArray)⟩ : S47) [.string (⟨#[98, 111, 100, 121]⟩ : ByteArray), .string (⟨#[116, 101, 120, 116]⟩ : ByteArray)] from (k47_mkM _ _ _ (⟨(⟨#[98, 111, 100, 121]⟩ : ByteArray), (⟨#[116, 101, 120, 116]⟩ : ByteArray)⟩ : S47) )) (Reps.c2 (show Kd.M k47 _ _ _ (⟨(⟨#[98, 114]⟩ : ByteArray), (⟨#[99, 108, 101, 97, 114]⟩ : ByteArray)⟩ : S47) [.string (⟨#[98, 114]⟩ : ByteArray), .string (⟨#[99, 108, 101, 97, 114]⟩ : ByteArray)] from (k47_mkM _ _ _ (⟨(⟨#[98, 114]⟩ : ByteArray), (⟨#[99, 108, 101, 97, 114]⟩ : ByteArray)⟩ : S47) )) (Reps.c2 (show Kd.M k47 _ _ _ (⟨(⟨#[104, 114]⟩ : ByteArray), (⟨#[110, 111, 115, 104, 97, 100, 101]⟩ : ByteArray)⟩ : S47) [.string (⟨#[104, 114]⟩ : ByteArray), .string (⟨#[110, 111, 115, 104, 97, 100, 101]⟩ : ByteArray)] from (k47_mkM _ _ _ (⟨(⟨#[104, 114]⟩ : ByteArray), (⟨#[110, 111, 115, 104, 97, 100, 101]⟩ : ByteArray)⟩ : S47) )) (Reps.c2 (show Kd.M k47 _ _ _ (⟨(⟨#[104, 114]⟩ : ByteArray), (⟨#[115, 105, 122, 101]⟩ : ByteArray)⟩ : S47) [.string (⟨#[104, 114]⟩ : ByteArray), .string (⟨#[115, 105, 122, 101]⟩ : ByteArray)] from (k47_mkM _ _ _ (⟨(⟨#[104, 114]⟩ : ByteArray), (⟨#[115, 105, 122, 101]⟩ : ByteArray)⟩ : S47) )) (Reps.c2 (show Kd.M k47 _ _ _ (⟨(⟨#[105, 109, 103]⟩ : ByteArray), (⟨#[97, 108, 105, 103, 110]⟩ : ByteArray)⟩ : S47) [.string (⟨#[105, 109, 103]⟩ : ByteArray), .string (⟨#[97, 108, 105, 103, 110]⟩ : ByteArray)] from (k47_mkM _ _ _ (⟨(⟨#[105, 109, 103]⟩ : ByteArray), (⟨#[97, 108, 105, 103, 110]⟩ : ByteArray)⟩ : S47) )) (Reps.c2 (show Kd.M k47 _ _ _ (⟨(⟨#[105, 109, 103]⟩ : ByteArray), (⟨#[98, 111, 114, 100, 101, 114]⟩ : ByteArray)⟩ : S47) [.string (⟨#[105, 109, 103]⟩ : ByteArray), .string (⟨#[98, 111, 114, 100, 101, 114]⟩ : ByteArray)] from (k47_mkM _ _ _ (⟨(⟨#[105, 109, 103]⟩ : ByteArray), (⟨#[98, 111, 114, 100, 101, 114]⟩ : ByteArray)⟩ : S47) )) (Reps.c2 (show Kd.M k47 _ _ _ (⟨(⟨#[116, 97, 98, 108, 101]⟩ : ByteArray), (⟨#[98, 103, 99, 111, 108, 111, 114]⟩ : ByteArray)⟩ : S47) [.string (⟨#[116, 97, 98, 108, 101]⟩ : ByteArray), .string (⟨#[98, 103, 99, 111, 108, 111, 114]⟩ : ByteArray)] from (k47_mkM _ _ _ (⟨(⟨#[116, 97, 98, 108, 101]⟩ : ByteArray), (⟨#[98, 103, 99, 111, 108, 111, 114]⟩ : ByteArray)⟩ : S47) )) (Reps.c2 (show Kd.M k47 _ _ _ (⟨(⟨#[116, 97, 98, 108, 101]⟩ : ByteArray), (⟨#[99, 101, 108, 108, 112, 97, 100, 100, 105, 110, 103]⟩ : ByteArray)⟩ : S47) [.string (⟨#[116, 97, 98, 108, 101]⟩ : ByteArray), .string (⟨#[99, 101, 108, 108, 112, 97, 100, 100, 105, 110, 103]⟩ : ByteArray)] from (k47_mkM _ _ _ (⟨(⟨#[116, 97, 98, 108, 101]⟩ : ByteArray), (⟨#[99, 101, 108, 108, 112, 97, 100, 100, 105, 110, 103]⟩ : ByteArray)⟩ : S47) )) (Reps.c2 (show Kd.M k47 _ _ _ (⟨(⟨#[116, 97, 98, 108, 101]⟩ : ByteArray), (⟨#[99, 101, 108, 108, 115, 112, 97, 99, 105, 110, 103]⟩ : ByteArray)⟩ : S47) [.string (⟨#[116, 97, 98, 108, 101]⟩ : ByteArray), .string (⟨#[99, 101, 108, 108, 115, 112, 97, 99, 105, 110, 103]⟩ : ByteArray)] from (k47_mkM _ _ _ (⟨(⟨#[116, 97, 98, 108, 101]⟩ : ByteArray), (⟨#[99, 101, 108, 108, 115, 112, 97, 99, 105, 110, 103]⟩ : ByteArray)⟩ : S47) )) (Reps.c2 (show Kd.M k47 _ _ _ (⟨(⟨#[116, 100]⟩ : ByteArray), (⟨#[110, 111, 119, 114, 97, 112]⟩ : ByteArray)⟩ : S47) [.string (⟨#[116, 100]⟩ : ByteArray), .string (⟨#[110, 111, 119, 114, 97, 112]⟩ : ByteArray)] from (k47_mkM _ _ _ (⟨(⟨#[116, 100]⟩ : ByteArray), (⟨#[110, 111, 119, 114, 97, 112]⟩ : ByteArray)⟩ : S47) )) (Reps.c2 (show Kd.M k47 _ _ _ (⟨(⟨#[116, 100]⟩ : ByteArray), (⟨#[118, 97, 108, 105, 103, 110]⟩ : ByteArray)⟩ : S47) [.string (⟨#[116, 100]⟩ : ByteArray), .string (⟨#[118, 97, 108, 105, 103, 110]⟩ : ByteArray)] from (k47_mkM _ _ _ (⟨(⟨#[116, 100]⟩ : ByteArray), (⟨#[118, 97, 108, 105, 103, 110]⟩ : ByteArray)⟩ : S47) )) (Reps.c2 (show Kd.M k47 _ _ _ (⟨(⟨#[116, 104]⟩ : ByteArray), (⟨#[110, 111, 119, 114, 97, 112]⟩ : ByteArray)⟩ : S47) [.string (⟨#[116, 104]⟩ : ByteArray), .string (⟨#[110, 111, 119, 114, 97, 112]⟩ : ByteArray)] from (k47_mkM _ _ _ (⟨(⟨#[116, 104]⟩ : ByteArray), (⟨#[110, 111, 119, 114, 97, 112]⟩ : ByteArray)⟩ : S47) )) (Reps.c2 (show Kd.M k47 _ _ _ (⟨(⟨#[116, 104]⟩ : ByteArray), (⟨#[118, 97, 108, 105, 103, 110]⟩ : ByteArray)⟩ : S47) [.string (⟨#[116, 104]⟩ : ByteArray), .string (⟨#[118, 97, 108, 105, 103, 110]⟩ : ByteArray)] from (k47_mkM _ _ _ (⟨(⟨#[116, 104]⟩ : ByteArray), (⟨#[118, 97, 108, 105, 103, 110]⟩ : ByteArray)⟩ : S47) )) (Reps.none _ _)))))))))))))))))); intro v181 w1 ho2 hb hg_ hnew_; clear hg_ hnew_; (first | rw [← Ny180.out] at ho2 | (simp only [Int.reduceToNat] at ho2; rw [← Ny180.out] at ho2)); have n0_ := Aside0.mk (Kd.R_lower ho2 (below_size (by repeat (first | (with_reducible first | exact HB.out | apply below_alloc | apply pw_below_drewN | apply below_drew1) | exact HB.out)))); have n1_ := Aside0.mk (below_step (by repeat (first | (with_reducible first | exact HB.out | apply below_alloc | apply pw_below_drewN | apply below_drew1) | exact HB.out)) hb); clear HB; have HO182 := n0_; have HB := n1_; clear n0_ n1_; clear hb ho2))
  go_ret
  exact ⟨_, by first | rfl | (simp [errW_none, errW_some] <;> rfl) | (simp [*, errW_none, errW_some] <;> rfl), by (with_reducible repeat (first | apply Kd.R_alloc | apply Kd.R_drewN | apply Kd.R_drew)); exact HO182.out, by repeat (first | (with_reducible first | exact HB.out | apply below_alloc | apply pw_below_drewN | apply below_drew1) | exact HB.out)⟩

end Go.Proofs.YtojjpimnjlmepaaDoor.PM
