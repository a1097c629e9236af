/- Merged by a program of this session out of its own texts: HMade. No condition beside those in each statement. -/
import Derived.Deep.CutBlock
import Derived.Test.YtomdidopflebjaaGreatDoorD6
import Derived.Test.YtomdidopflebjaaGreatDoorD7
namespace Go.Proofs.YtomdidopflebjaaGreatDoor.PM
open Go.RowKit Go.Proofs.YtomdidopflebjaaGreatDoorW.PrintWords Go.Proofs.YtomdidopflebjaaGreatDoorW.PrintLast Go.Proofs.YtomdidopflebjaaGreatDoorW.PrintMore
set_option maxHeartbeats 100000000 in
set_option maxRecDepth 100000 in
theorem beadlelaw21_made.calls (A0 : Option Addr) (c0 : Nat) (l0 : List S54) (r1 : List S113) (r2 : List S105) (w : World) (hr0 : Kd.C k54 w A0 l0.length l0) (hc0 : l0.length ≤ c0) (h : beadlelaw21_made.f l0 = some (r1, r2)) :
    Calls Tryz.prog 8 #[.slice A0 l0.length c0] w fun e w' => ∃ v0_ v1_ : Value, e = .returned (.tuple #[toPtr v0_, toPtr v1_]) ∧ Kd.R k113 113 w' w.heap.size (fun _ => True) v0_ r1 ∧ Kd.R k105 105 w' w.heap.size (fun _ => True) v1_ r2 ∧ Below w.heap.size w w' := by
  unfold beadlelaw21_made.f at h
  simp only [Option.some.injEq, Prod.mk.injEq] at h
  obtain ⟨rfl, rfl⟩ := h
  have HR0 := Aside0.mk hr0
  have HC0 := Aside0.mk hc0
  have hmx := Kd.C_max hr0
  clear hr0 hc0
  go_enter Tryz.func8, Tryz.ntmps8
  go_upto_region 2 with (first
    | (go_at_call 20; refine (new_any _).mono ?_; rintro e w1 ⟨gT, rfl, hd, hb⟩; have HT1 := Aside0.mk hd; have HB1 := Aside0.mk hb; clear hd hb)
    | (go_at_call 23; refine (rnew_any _).mono ?_; rintro e w2 ⟨gR, rfl, hd, hb⟩; have HR2 := Aside0.mk hd; have HB2 := Aside0.mk hb; clear hd hb))
  go_wp2
  have hb0 : w.heap.size ≤ w2.heap.size := Nat.le_trans HB1.out.size HB2.out.size
  have hA := R_one w2 w.heap.size hb0
  have hB := R_one (w2.alloc (.cells #[.int .i64 0] 3)) w.heap.size (Nat.le_trans hb0 (by simp))
  rw [show (w2.alloc (.cells #[.int .i64 0] 3)).heap.size = w2.heap.size + 1 by simp] at hB
  have hM : MadeAt w.heap.size gT gR ((w2.alloc (.cells #[.int .i64 0] 3)).alloc (.cells #[.int .i64 0] 3)) initM (some ⟨w2.heap.size, 0, none⟩) 1 (some ⟨w2.heap.size + 1, 0, none⟩) 1 := by
    have h2 : Below w2.heap.size w2 ((w2.alloc (.cells #[.int .i64 0] 3)).alloc (.cells #[.int .i64 0] 3)) := below_alloc (below_alloc (Below.refl _ _) _) _
    refine ⟨(HT1.out.below HB2.out).below h2, ?_, Kd.R_alloc hA _, hB, fun k hk e => ?_⟩
    · have h3 : RefAt (okAB (some ⟨w2.heap.size, 0, none⟩) (some ⟨w2.heap.size + 1, 0, none⟩)) w.heap.size w2 gR refOnly := HR2.out.mono HB1.out.size (fun k _ hk => ⟨by intro e; simp [Value.ownBlock] at e; omega, by intro e; simp [Value.ownBlock] at e; omega⟩)
      exact h3.below h2
    · simp [Value.ownBlock] at hk e
      omega
  have hbw : Below w.heap.size w ((w2.alloc (.cells #[.int .i64 0] 3)).alloc (.cells #[.int .i64 0] 3)) := below_alloc (below_alloc (below_step HB1.out HB2.out) _) _
  generalize (w2.alloc (.cells #[.int .i64 0] 3)).alloc (.cells #[.int .i64 0] 3) = w3 at hM hbw ⊢
  have HM := Aside0.mk hM
  have HBW := Aside0.mk hbw
  clear hA hB hM hbw hb0
  have hQD : (‹Exit → Act → World → Prop›) = bodyPost Tryz.prog Tryz.f8 _ := rfl
  have HQD := Aside0.mk hQD
  clear hQD
  generalize hN : min l0.length 60 = N
  have HN := Aside0.mk hN
  clear hN
  go_loopg [6, 7, 8] N (fun kq v6 v7 v8 wr => ∃ (i : Nat) (A6 : Option Addr) (c6 : Nat) (A7 : Option Addr) (c7 : Nat), v6 = .slice A6 (i + 1) c6 ∧ v7 = .slice A7 (i + 1) c7 ∧ v8 = .int .i64 (i : Int) ∧ Aside0 (i + kq = N) ∧ Aside0 (MadeAt w.heap.size gT gR wr (stM l0 i) A6 c6 A7 c7) ∧ Aside0 (Below w.heap.size w wr))
  case atStart => exact ⟨0, _, 1, _, 1, rfl, rfl, rfl, ⟨by omega⟩, HM, HBW⟩
  case round =>
    clear HT1 HB1 HR2 HB2 HM HBW
    obtain ⟨i, A6, c6, A7, c7, rfl, rfl, rfl, HI, HM, HBW⟩ := hrel
    cases gk with
    | zero =>
      as_aux_lemma =>
        have hi : i = min l0.length 60 := by have := HI.out; have := HN.out; omega
        have hst : stM l0 i = stM l0 60 := by
          rcases Nat.le_total l0.length 60 with h1 | h1
          · rw [stM_end l0 60 h1, show i = l0.length by omega]
          · rw [show i = 60 by omega]
        have HST := Aside0.mk hst
        clear hst
        rcases Nat.lt_or_ge i l0.length with h1 | h1
        · have d1 : decide ((i : Int) < (l0.length : Int)) = true := decide_eq_true (by omega)
          have d2 : decide ((i : Int) < 60) = false := decide_eq_false (by omega)
          have d3 : decide (i < l0.length) = true := decide_eq_true h1
          clear hi h1
          go_wp2
          refine bodyPost_ret (v := .tuple #[.pointer (some ⟨gT, 0, none⟩), .pointer (some ⟨gR, 0, none⟩)]) (by simp [results, Tryz.results8, go_sem]) rfl ⟨.slice (some ⟨gT, 0, none⟩) 1 1, .slice (some ⟨gR, 0, none⟩) 1 1, rfl, ?_, ?_, HBW.out⟩
          · rw [← HST.out]
            exact DomAt.R HM.out.t
          · rw [← HST.out]
            exact RefAt.R HM.out.r
        · have d1 : decide ((i : Int) < (l0.length : Int)) = false := decide_eq_false (by omega)
          have d3 : decide (i < l0.length) = false := decide_eq_false (by omega)
          clear hi h1
          go_wp2
          refine bodyPost_ret (v := .tuple #[.pointer (some ⟨gT, 0, none⟩), .pointer (some ⟨gR, 0, none⟩)]) (by simp [results, Tryz.results8, go_sem]) rfl ⟨.slice (some ⟨gT, 0, none⟩) 1 1, .slice (some ⟨gR, 0, none⟩) 1 1, rfl, ?_, ?_, HBW.out⟩
          · rw [← HST.out]
            exact DomAt.R HM.out.t
          · rw [← HST.out]
            exact RefAt.R HM.out.r
    | succ gko =>
      have hi1 : i < l0.length := by have := HI.out; have := HN.out; omega
      have hi2 : i < 60 := by have := HI.out; have := HN.out; omega
      have d1 : decide ((i : Int) < (l0.length : Int)) = true := decide_eq_true (by omega)
      have d2 : decide ((i : Int) < 60) = true := decide_eq_true (by omega)
      have d3 : decide (i < l0.length) = true := decide_eq_true hi1
      have i0 : (0 : Int) ≤ (i : Int) := by omega
      have i1 : (i : Int) < (l0.length : Int) := by omega
      have hin := invM l0 i (Nat.le_of_lt hi1)
      have HIN := Aside0.mk hin
      have hsu := stM_succ l0 i hi1
      have HSU := Aside0.mk hsu
      clear hsu hin
      obtain ⟨ad, A2, e2, e0, x0, x1, x2, x3, x4, hle2, hC2⟩ := at_T54 (Kd.C_below HR0.out HBW.out) (i : Int) i0 i1
      subst e0
      rw [Int.toNat_natCast] at x0 x1 x2 x3 x4
      generalize rd_T54 l0 (i : Int) = m at HSU x0 x1 x2 x3 x4 hle2 hC2
      generalize stM l0 i = s at HM HIN HSU
      have HC2 := Aside0.mk hC2
      have HLE2 := Aside0.mk hle2
      have HI1 := Aside0.mk hi1
      have HI2 := Aside0.mk hi2
      clear hC2 hle2 hi1 hi2
      go_upto_region 7 with (fail)
      have hbx := blk_new wr (.cells #[.string m.f0, .string m.f1, .slice A2 m.f2.length e2, .int .i64 m.f3, .int .i64 m.f4] 54)
      have hbb : Below wr.heap.size wr (wr.alloc (.cells #[.string m.f0, .string m.f1, .slice A2 m.f2.length e2, .int .i64 m.f3, .int .i64 m.f4] 54)) := below_alloc (Below.refl _ _) _
      have hbz : w.heap.size ≤ wr.heap.size := HBW.out.size
      generalize wr.alloc (.cells #[.string m.f0, .string m.f1, .slice A2 m.f2.length e2, .int .i64 m.f3, .int .i64 m.f4] 54) = wb at hbx hbb ⊢
      have HBX := Aside0.mk hbx
      have HMb := Aside0.mk (HM.out.below hbb)
      have HBWb := Aside0.mk (below_step HBW.out hbb)
      have HC2b := Aside0.mk (Kd.C_below HC2.out hbb)
      clear hbx hbb hbz x0 x1 x2 x3 x4 HM HBW HC2
      generalize wr.heap.size = bM at HBX ⊢
      clear wr
      go_cut [10, 11] (fun v10 v11 wc => ∃ x y, v10 = .pointer (some ⟨x, 0, none⟩) ∧ v11 = .pointer (some ⟨y, 0, none⟩) ∧ Aside0 (wb.heap.size ≤ x) ∧ Aside0 (wb.heap.size ≤ y) ∧ Aside0 (wc.heap[x]? = some (.cells #[.int .i64 2, .int .i64 m.f4, .string m.f0, .string ⟨#[]⟩, .slice none 0 0] 59 (0, 0))) ∧ Aside0 (wc.heap[y]? = some (.cells #[.int .i64 2, .int .i64 m.f4, .string m.f0, .string ⟨#[]⟩, .slice none 0 0, .int .i64 0, .slice none 0 0] 68 (0, 0))) ∧ Aside0 (Below wb.heap.size wb wc))
      case first =>
        as_aux_lemma =>
          have x0 := (blk_cell HBX.out 0).trans rfl
          have x4 := (blk_cell HBX.out 4).trans rfl
          have z0 := fun o => Go.Lib.cell?_alloc_some o x0
          have z4 := fun o => Go.Lib.cell?_alloc_some o x4
          have q0 := fun o o' => Go.Lib.cell?_alloc_some o' (Go.Lib.cell?_alloc_some o x0)
          have q4 := fun o o' => Go.Lib.cell?_alloc_some o' (Go.Lib.cell?_alloc_some o x4)
          go_region
          all_goals
            go_wp2
            go_meet
            case rel =>
              have h := two_new wb
              first
                | exact ⟨_, _, rfl, rfl, ⟨Nat.le_refl _⟩, ⟨Nat.le_succ _⟩, ⟨(h _ _ _ _).1⟩, ⟨(h _ _ _ _).2.1⟩, ⟨(h _ _ _ _).2.2⟩⟩
                | exact ⟨_, _, rfl, rfl, ⟨Nat.le_succ _⟩, ⟨Nat.le_refl _⟩, ⟨(h _ _ _ _).2.1⟩, ⟨(h _ _ _ _).1⟩, ⟨(h _ _ _ _).2.2⟩⟩
      case rest =>
        obtain ⟨x, y, rfl, rfl, HXL, HYL, HX, HY, HBC⟩ := hcut
        have hat : AttrAt wb.heap.size x y wc m 0 0 none none 0 0 := ⟨HX.out, Kd.R_nil _ _ _ _ _, HY.out, Kd.R_nil _ _ _ _ _⟩
        have HAT := Aside0.mk hat
        clear hat HX HY
        go_upto_block 2 with (fail)
        go_cut [] (fun wa => ∃ (j : Nat) (A B : Option Addr) (c d : Nat), Aside0 (j = min m.f2.length 8) ∧ Aside0 (attrs8 m j = attrs8 m 8 ∧ rattrs8 m j = rattrs8 m 8) ∧ Aside0 (AttrAt wb.heap.size x y wa m j j A B c d) ∧ Aside0 (Below wb.heap.size wb wa))
        case first =>
          as_aux_lemma =>
            go_wp2
            generalize hN8 : min m.f2.length 8 = n8
            have HN8 := Aside0.mk hN8
            clear hN8
            go_loopg [12] n8 (fun kq v12 wl => ∃ (j : Nat) (A B : Option Addr) (c d : Nat), v12 = .int .i64 (j : Int) ∧ Aside0 (j + kq = n8) ∧ Aside0 (AttrAt wb.heap.size x y wl m j j A B c d) ∧ Aside0 (Below wb.heap.size wb wl))
            case atStart => exact ⟨0, none, none, 0, 0, rfl, ⟨by omega⟩, HAT, HBC⟩
            case round =>
              clear HAT HBC
              obtain ⟨j, A, B, c, d, rfl, HJ, HAT, HBC⟩ := hrel
              have b2 := pw_cell_below HBC.out ((blk_cell HBX.out 2).trans rfl)
              cases gk with
              | zero =>
                as_aux_lemma =>
                  have hj : j = min m.f2.length 8 := by have := HJ.out; have := HN8.out; omega
                  have hend : attrs8 m j = attrs8 m 8 ∧ rattrs8 m j = rattrs8 m 8 := by
                    unfold attrs8 rattrs8
                    rw [hj]
                    rcases Nat.le_total m.f2.length 8 with h1 | h1
                    · rw [Nat.min_eq_left h1, List.take_of_length_le (Nat.le_refl _), List.take_of_length_le h1]
                      exact ⟨rfl, rfl⟩
                    · rw [Nat.min_eq_right h1]
                      exact ⟨rfl, rfl⟩
                  have HE := Aside0.mk hend
                  have HJE := Aside0.mk hj
                  clear hend
                  rcases Nat.lt_or_ge j m.f2.length with h1 | h1
                  · have f1 : decide ((j : Int) < (m.f2.length : Int)) = true := decide_eq_true (by omega)
                    have f2 : decide ((j : Int) < 8) = false := decide_eq_false (by omega)
                    have f3 : decide (j < m.f2.length) = true := decide_eq_true h1
                    go_wp2
                    go_meet
                    case rel => exact ⟨j, A, B, c, d, HJE, HE, HAT, HBC⟩
                  · have f1 : decide ((j : Int) < (m.f2.length : Int)) = false := decide_eq_false (by omega)
                    have f3 : decide (j < m.f2.length) = false := decide_eq_false (by omega)
                    go_wp2
                    go_meet
                    case rel => exact ⟨j, A, B, c, d, HJE, HE, HAT, HBC⟩
              | succ gk =>
                as_aux_lemma =>
                  have hj1 : j < m.f2.length := by have := HJ.out; have := HN8.out; omega
                  have hj2 : j < 8 := by have := HJ.out; have := HN8.out; omega
                  have f1 : decide ((j : Int) < (m.f2.length : Int)) = true := decide_eq_true (by omega)
                  have f2 : decide ((j : Int) < 8) = true := decide_eq_true (by omega)
                  have f3 : decide (j < m.f2.length) = true := decide_eq_true hj1
                  have j0 : (0 : Int) ≤ (j : Int) := by omega
                  have j1 : (j : Int) < (m.f2.length : Int) := by omega
                  obtain ⟨ad2, ea, y0, y1⟩ := at_T69 (Kd.C_below HC2b.out HBC.out) (j : Int) j0 j1
                  subst ea
                  rw [Int.toNat_natCast] at y0 y1
                  go_upto_region 11 with (fail)
                  have HJ1 := Aside0.mk hj1
                  have HJ2 := Aside0.mk hj2
                  clear hj1 hj2
                  go_cut [] (fun wc => ∃ A' c', Aside0 (AttrAt wb.heap.size x y wc m (j + 1) j A' B c' d) ∧ Aside0 (Below wb.heap.size wb wc))
                  case first =>
                    refine made_r11 _ _ _ _ _ _ _ _ _ _ _ _ _ _ _ _ _ _ _ _ _ _ _ _ _ _ _ _ _ _ _ _ _ _ _ _ _ _ _ _ _ _ _ _ _ _ _ _ _ _ _ _ _ _ _ _ _ _ _ _ _ _ _ _ _ _ _ _ _ _ _ _ _ _ _ _ _ _ _ _ _ _ _ _ _ _ _ _ _ _ _ _ _ _ _ _ _ _ _ _ _ _ _ _ _ _ _ _ _ _ _ _ _ _ _ _ _ _ _ _ _ _ _ _ _ _ _ _ _ _ _ _ _ _ _ _ _ _ _ _ _ _ _ _ _ _ _ _ _ _ _ _ _ _ _ _ _ _ _ _ _ _ wb wr m x y j bM A B c d e2 _ HAT.out HXL.out HYL.out HJ1.out HJ2.out HBC.out b2 y0 y1 _ _ _ _ _ _ _ _ _ HQD.out ?_
                    intro t56 t57 t58 t59 t60 t61 t62 t63 t64 t65 t66 t67 t68 t69 t70 t71 t72 t73 A' c' w' h1 h2
                    go_wp2
                    go_meet
                    case rel => exact ⟨A', c', ⟨h1⟩, ⟨h2⟩⟩
                  case rest =>
                    obtain ⟨A', c', HAT', HBC'⟩ := hcut
                    clear HAT HBC
                    have HAT := HAT'
                    have HBC := HBC'
                    clear HAT' HBC' y0 y1 b2
                    go_upto_region 12 with (fail)
                    have b2 := pw_cell_below HBC.out ((blk_cell HBX.out 2).trans rfl)
                    obtain ⟨ad3, ea3, y0, y1⟩ := at_T69 (Kd.C_below HC2b.out HBC.out) (j : Int) j0 j1
                    injection ea3 with ea3
                    subst ea3
                    rw [Int.toNat_natCast] at y0 y1
                    refine made_r12 _ _ _ _ _ _ _ _ _ _ _ _ _ _ _ _ _ _ _ _ _ _ _ _ _ _ _ _ _ _ _ _ _ _ _ _ _ _ _ _ _ _ _ _ _ _ _ _ _ _ _ _ _ _ _ _ _ _ _ _ _ _ _ _ _ _ _ _ _ _ _ _ _ _ _ _ _ _ _ _ _ _ _ _ _ _ _ _ _ _ _ _ _ _ _ _ _ _ _ _ _ _ _ _ _ _ _ _ _ _ _ _ _ _ _ _ _ _ _ _ _ _ _ _ _ _ _ _ _ _ _ _ _ _ _ _ _ _ _ _ _ _ _ _ _ _ _ _ _ _ _ _ _ _ _ _ _ _ _ _ _ _ wb wc m x y j bM A' B c' d e2 _ HAT.out HXL.out HYL.out HJ1.out HJ2.out HBC.out b2 y0 y1 _ _ _ _ _ _ _ _ HQD.out ?_
                    intro t74 t75 t76 t77 t78 t79 t80 t81 t82 t83 t84 t85 t86 t87 t88 t89 t90 t91 B' d' w' h1 h2
                    go_wp2
                    go_roundg gk
                    case measure => omega
                    case rel => exact ⟨j + 1, _, _, _, _, (by first | rfl | exact congrArg (Value.int IntKind.i64) (show wrap64 ((j : Int) + 1) = ((j + 1 : Nat) : Int) from by have := HJ2.out; unfold wrap64; omega)), ⟨by have := HJ.out; omega⟩, ⟨h1⟩, ⟨h2⟩⟩
        case rest =>
          clear HAT HBC
          obtain ⟨j, A, B, c, d, HJE, HE, HAT, HBC⟩ := hcut
          have b3 := pw_cell_below HBC.out ((blk_cell HBX.out 3).trans rfl)
          go_upto_region 14 with (fail)
          have HSZW := Aside0.mk (show w.heap.size ≤ wc.heap.size from Nat.le_trans HBWb.out.size HBC.out.size)
          have HMa := Aside0.mk (HMb.out.below HBC.out)
          have HBWa := Aside0.mk (below_step HBWb.out HBC.out)
          have HBXa := Aside0.mk (blk_below HBX.out HBC.out)
          have HMD := Aside0.mk (HIN.out.made m)
          have HJM := Aside0.mk (show j ≤ m.f2.length ∧ j ≤ 8 by have := HJE.out; omega)
          have HSZB := Aside0.mk HBWb.out.size
          clear HMb HBWb HBX HC2b b3 HJE
          go_cut [14, 15] (fun v14 v15 wc => v14 = .int .i64 (s.T.length : Int) ∧ v15 = .int .i64 (s.R.length : Int) ∧ Aside0 (MadeAt w.heap.size gT gR wc ⟨s.T ++ [⟨elemOf m, loose107⟩], s.R ++ [relemOf m], s.a, s.b⟩ A6 c6 A7 c7) ∧ Aside0 (Below w.heap.size w wc) ∧ Aside0 (wc.heap[bM]? = some (.cells #[.string m.f0, .string m.f1, .slice A2 m.f2.length e2, .int .i64 m.f3, .int .i64 m.f4] 54 (0, 0))))
          case first =>
            as_aux_lemma =>
              have hlT : s.T.length ≤ 1000000 := by have h1 := HIN.out.t.len; have := HI2.out; omega
              have hlR : s.R.length ≤ 1000000 := by have h1 := HIN.out.r.len; have := HI2.out; omega
              have HLT := Aside0.mk hlT
              have HLR := Aside0.mk hlR
              clear hlT hlR
              obtain ⟨cx0, cx1, cx2, cx3, cx4⟩ := cellsX HAT.out.hx
              obtain ⟨cy0, cy1, cy2, cy3, cy4, cy5, cy6⟩ := cellsY HAT.out.hy
              have hdr : Below wc.heap.size wc wc.drew := below_drew1 (Below.refl _ _)
              have HMa1 := Aside0.mk (HMa.out.below hdr)
              have HRB := Aside0.mk (HMa1.out.rowOk (Kd.R_below HAT.out.rb hdr) (by decide) HSZB.out)
              have HRA := Aside0.mk (Kd.R_below HAT.out.ra hdr)
              clear hdr
              have HX := Aside0.mk HAT.out.hx
              have HY := Aside0.mk HAT.out.hy
              have HXM := Aside0.mk HE.out.1
              have HYM := Aside0.mk HE.out.2
              have HZA := Aside0.mk HSZW.out
              go_region_law (first
                | ((refine goes_ Tryz.func24 (by kernel_rfl) rfl #[.pointer (some ⟨gR, 0, none⟩), .agg #[.int .i64 2, .int .i64 m.f4, .string m.f0, .string ⟨#[]⟩, .slice B j d, .int .i64 0, .slice none 0 0]] (by rfl) rfl rfl (by (try simp only [List.map_toArray, List.map_cons, List.map_nil]); first | done | rfl) ?_); refine (made_rmake HMt.out HRBt.out HYM.out HZt.out HLR.out).mono ?_; rintro e w6 ⟨rfl, hm, hf, hb⟩; refine ⟨_, rfl, ?_⟩; have HM6 := Aside0.mk hm; have HB6 := Aside0.mk (Below.trans HBt.out hb); have HX6 := Aside0.mk (hf.blk (HFt.out.blk HBXa.out (by decide)) (by decide)); clear hm hf hb)
                | ((refine goes_ Tryz.func21 (by kernel_rfl) rfl #[.pointer (some ⟨gT, 0, none⟩), .agg #[.int .i64 2, .int .i64 m.f4, .string m.f0, .string ⟨#[]⟩, .slice A j c]] (by rfl) rfl rfl (by (try simp only [List.map_toArray, List.map_cons, List.map_nil]); first | done | rfl) ?_); refine (made_make HMr.out HRAr.out HXM.out HJM.out.1 HJM.out.2 HZr.out HLT.out).mono ?_; rintro e w6 ⟨rfl, hm, hf, hb⟩; refine ⟨_, rfl, ?_⟩; have HM6 := Aside0.mk hm; have HB6 := Aside0.mk (Below.trans HBr.out hb); have HX6 := Aside0.mk (hf.blk (HFr.out.blk HBXa.out (by decide)) (by decide)); clear hm hf hb)
                | ((refine goes_ Tryz.func21 (by kernel_rfl) rfl #[.pointer (some ⟨gT, 0, none⟩), .agg #[.int .i64 2, .int .i64 m.f4, .string m.f0, .string ⟨#[]⟩, .slice A j c]] (by rfl) rfl rfl (by (try simp only [List.map_toArray, List.map_cons, List.map_nil]); first | done | rfl) ?_); refine (made_make (W := wc.drew) HMa1.out HRA.out HXM.out HJM.out.1 HJM.out.2 HZA.out HLT.out).mono ?_; rintro e w5 ⟨rfl, hm, hf, hb⟩; refine ⟨_, rfl, ?_⟩; have HMt := Aside0.mk hm; have HBt := Aside0.mk (Below.trans (below_drew1 (Below.refl _ _)) hb); have HFt := Aside0.mk hf; have HRBt := Aside0.mk (TFrame.Rok (w := wc.drew) hf HRB.out (by decide)); have HZt := Aside0.mk (Nat.le_trans HZA.out hf.size); obtain ⟨cz0, cz1, cz2, cz3, cz4, cz5, cz6⟩ := cellsY (hf.blk HY.out (by decide)); clear hm hf hb)
                | ((refine goes_ Tryz.func24 (by kernel_rfl) rfl #[.pointer (some ⟨gR, 0, none⟩), .agg #[.int .i64 2, .int .i64 m.f4, .string m.f0, .string ⟨#[]⟩, .slice B j d, .int .i64 0, .slice none 0 0]] (by rfl) rfl rfl (by (try simp only [List.map_toArray, List.map_cons, List.map_nil]); first | done | rfl) ?_); refine (made_rmake (W := wc.drew) HMa1.out HRB.out HYM.out HZA.out HLR.out).mono ?_; rintro e w5 ⟨rfl, hm, hf, hb⟩; refine ⟨_, rfl, ?_⟩; have HMr := Aside0.mk hm; have HBr := Aside0.mk (Below.trans (below_drew1 (Below.refl _ _)) hb); have HFr := Aside0.mk hf; have HRAr := Aside0.mk (TFrame.R (w := wc.drew) hf HRA.out (by decide)); have HZr := Aside0.mk (Nat.le_trans HZA.out hf.size); obtain ⟨cz0, cz1, cz2, cz3, cz4⟩ := cellsX (hf.blk HX.out (by decide)); clear hm hf hb))
              all_goals
                go_wp2
                go_meet
                case rel => exact ⟨rfl, rfl, HM6, ⟨Below.trans HBWa.out HB6.out⟩, HX6⟩
          case rest =>
            obtain ⟨rfl, rfl, HM, HBW, HX⟩ := hcut
            clear HAT HBC HMa HBWa HBXa HSZB HXL HYL HE
            obtain ⟨hp1, hp2, hp3⟩ := spot_eq m.f3 i HI2.out
            rw [hp1]
            have HIA := Aside0.mk HIN.out.a
            have HIB := Aside0.mk HIN.out.b
            have HLT := Aside0.mk HIN.out.t.pos
            have HLR := Aside0.mk HIN.out.r.pos
            have HIK : Aside0 (20 * i + 1 ≤ 100000) := ⟨by have := HI2.out; omega⟩
            generalize hpe : spot (i + 1) m.f3 = p at hp1 hp2 hp3 ⊢
            have HPE := Aside0.mk hpe
            have HP3 := Aside0.mk hp3
            clear hp1 hpe
            have hCA := (Kd.R_reads' HM.out.a).2.2
            have hCB := (Kd.R_reads' HM.out.b).2.2
            obtain ⟨ad6, eA6, ca⟩ := C_int_at hCA p hp2 (by have := HIA.out; have := HP3.out; show p < (s.a.length : Int); omega)
            obtain ⟨ad7, eA7, cb⟩ := C_int_at hCB p hp2 (by have := HIB.out; have := HP3.out; show p < (s.b.length : Int); omega)
            subst eA6
            subst eA7
            clear hCA hCB cb
            have hp3' : p < ((i + 1 : Nat) : Int) := by have := HP3.out; omega
            have HBS := Aside0.mk (show w.heap.size ≤ wc.heap.size from HBW.out.size)
            have hinfo3 := info3
            go_upto_region 15 with (fail)
            go_cut [] (fun w7 => Aside0 (MadeAt w.heap.size gT gR w7 ⟨putAt (s.T ++ [⟨elemOf m, loose107⟩]) (rd s.a p), s.R ++ [relemOf m], s.a, s.b⟩ (some ad6) c6 (some ad7) c7) ∧ Aside0 (Below w.heap.size w w7) ∧ Aside0 (w7.heap[bM]? = some (.cells #[.string m.f0, .string m.f1, .slice A2 m.f2.length e2, .int .i64 m.f3, .int .i64 m.f4] 54 (0, 0))))
            case first =>
              as_aux_lemma =>
                go_wp2_with (go_at_call 22; refine (made_put (rd s.a p) HM.out HMD.out.1 HLT.out HIK.out).mono ?_; rintro e w7 ⟨⟨xx, rfl⟩, hm, hf, hb⟩; have HM7 := Aside0.mk hm; have HB7 := Aside0.mk (Below.trans HBW.out hb); have HX7 := Aside0.mk (hf.blk HX.out (by decide)); clear hm hf hb)
                go_meet
                case rel => exact ⟨HM7, HB7, HX7⟩
            case rest =>
              clear HM HBW HX ca HBS HSZW
              obtain ⟨HM, HBW, HX⟩ := hcut
              obtain ⟨ad7', e7, cb⟩ := C_int_at (Kd.R_reads' HM.out.b).2.2 p hp2 (by have := HIB.out; have := HP3.out; show p < (s.b.length : Int); omega)
              injection e7 with e7
              subst e7
              go_upto_region 16 with (fail)
              go_cut [] (fun w7 => Aside0 (MadeAt w.heap.size gT gR w7 ⟨putAt (s.T ++ [⟨elemOf m, loose107⟩]) (rd s.a p), rputAt (s.R ++ [relemOf m]) (rd s.b p), s.a, s.b⟩ (some ad6) c6 (some ad7) c7) ∧ Aside0 (Below w.heap.size w w7) ∧ Aside0 (w7.heap[bM]? = some (.cells #[.string m.f0, .string m.f1, .slice A2 m.f2.length e2, .int .i64 m.f3, .int .i64 m.f4] 54 (0, 0))))
              case first =>
                as_aux_lemma =>
                  go_wp2_with (go_at_call 25; refine (made_rput (rd s.b p) HM.out HMD.out.2 HLR.out HIK.out).mono ?_; rintro e w8 ⟨⟨xx, rfl⟩, hm, hf, hb⟩; have HM8 := Aside0.mk hm; have HB8 := Aside0.mk (Below.trans HBW.out hb); have HX8 := Aside0.mk (hf.blk HX.out (by decide)); clear hm hf hb)
                  go_meet
                  case rel => exact ⟨HM8, HB8, HX8⟩
              case rest =>
                clear HM HBW HX cb
                obtain ⟨HM8, HB8, HX8⟩ := hcut
                have HRA8 := Aside0.mk (HM8.out.rowA HIA.out)
                go_upto_region 17 with (fail)
                go_cut [6, 7] (fun v6 v7 w7 => ∃ A9 c9 A10 c10, v6 = .slice A9 (i + 1 + 1) c9 ∧ v7 = .slice A10 (i + 1 + 1) c10 ∧ Aside0 (MadeAt w.heap.size gT gR w7 ⟨putAt (s.T ++ [⟨elemOf m, loose107⟩]) (rd s.a p), rputAt (s.R ++ [relemOf m]) (rd s.b p), s.a ++ [(s.T.length : Int)], s.b ++ [(s.R.length : Int)]⟩ A9 c9 A10 c10) ∧ Aside0 (Below w.heap.size w w7) ∧ Aside0 (w7.heap[bM]? = some (.cells #[.string m.f0, .string m.f1, .slice A2 m.f2.length e2, .int .i64 m.f3, .int .i64 m.f4] 54 (0, 0))))
                case first =>
                  as_aux_lemma =>
                    go_wp2_with (first
                      | (have h9 := HRB9.out; refine Kd.R_append (Kd.int .i64) (w0 := w9) w.heap.size rfl (.tmp 127) (.tmp 129) 30 3 (.int .i64 0) 8 rfl Tryz.underlying30 info3 rfl (by decide) (by omega) (.slice (some ad7) (i + 1) c7) s.b (s.R.length : Int) [.int .i64 (s.R.length : Int)] (fun _ => True) (fun _ => False) rfl rfl rfl (fun _ h => h.elim) (fun _ _ => trivial) HRB9.out (Below.refl _ _) HB9.out.size (by have := HIB.out; have := HI2.out; omega) ?_; intro v10 w10 hR10 hb10 hg10 hat10; obtain ⟨A10, c10, rfl, hm10⟩ := made_appendB HM9.out HIB.out hR10 hg10 hat10; have HX10 := Aside0.mk (blk_grown HX9.out hg10 (blk_ne_row (dk := Kd.int .i64) HX9.out HRB9.out (by decide))); have HB10 := Aside0.mk (Below.trans HB9.out hb10); have HM10 := Aside0.mk hm10; clear h9 hm10 hR10 hg10 hat10 hb10)
                      | (have h8 := HRA8.out; refine Kd.R_append (Kd.int .i64) (w0 := wc) w.heap.size rfl (.tmp 123) (.tmp 125) 30 3 (.int .i64 0) 8 rfl Tryz.underlying30 info3 rfl (by decide) (by omega) (.slice (some ad6) (i + 1) c6) s.a (s.T.length : Int) [.int .i64 (s.T.length : Int)] (fun _ => True) (fun _ => False) rfl rfl rfl (fun _ h => h.elim) (fun _ _ => trivial) HRA8.out (Below.refl _ _) HB8.out.size (by have := HIA.out; have := HI2.out; omega) ?_; intro v9 w9 hR9 hb9 hg9 hat9; obtain ⟨A9, c9, rfl, hm9⟩ := made_appendA HM8.out HIA.out hR9 hg9 hat9; have HX9 := Aside0.mk (blk_grown HX8.out hg9 (blk_ne_row (dk := Kd.int .i64) HX8.out HRA8.out (by decide))); have HB9 := Aside0.mk (Below.trans HB8.out hb9); have HRB9 := Aside0.mk (hm9.rowB HIB.out); have HM9 := Aside0.mk hm9; clear h8 hm9 hR9 hg9 hat9 hb9))
                    go_meet
                    case rel => exact ⟨A9, c9, A10, c10, rfl, rfl, HM10, HB10, HX10⟩
                case rest =>
                  clear HM8 HB8 HX8 HRA8
                  obtain ⟨A9, c9, A10, c10, rfl, rfl, HM10, HB10, HX10⟩ := hcut
                  have HIT := Aside0.mk (HMD.out.1.put (rd s.a p))
                  have HIR := Aside0.mk (HMD.out.2.put (rd s.b p))
                  have HSU2 := Aside0.mk (show stM l0 (i + 1) = ⟨writesT (putAt (s.T ++ [⟨elemOf m, loose107⟩]) (rd s.a p)) (chars m 6) m.f4 s.T.length, writesR (rputAt (s.R ++ [relemOf m]) (rd s.b p)) (chars m 6) m.f4 s.R.length, s.a ++ [(s.T.length : Int)], s.b ++ [(s.R.length : Int)]⟩ by rw [HSU.out, ← HPE.out, ← HIA.out]; rfl)
                  generalize putAt (s.T ++ [⟨elemOf m, loose107⟩]) (rd s.a p) = T1 at HIT HSU2 HM10
                  generalize rputAt (s.R ++ [relemOf m]) (rd s.b p) = R1 at HIR HSU2 HM10
                  clear HSU HPE HMD
                  generalize hN6 : min m.f1.size 6 = n6
                  have HN6 := Aside0.mk hN6
                  clear hN6
                  have HWI : Aside0 (wrap64 ((i : Int) + 1) = ((i + 1 : Nat) : Int)) := ⟨by have := HI2.out; unfold wrap64; omega⟩
                  go_wp2
                  go_loopg [16] n6 (fun kq v16 wl => ∃ j : Nat, v16 = .int .i64 (j : Int) ∧ Aside0 (j + kq = n6) ∧ Aside0 (MadeAt w.heap.size gT gR wl ⟨writesT T1 (chars m j) m.f4 s.T.length, writesR R1 (chars m j) m.f4 s.R.length, s.a ++ [(s.T.length : Int)], s.b ++ [(s.R.length : Int)]⟩ A9 c9 A10 c10) ∧ Aside0 (Below w.heap.size w wl) ∧ Aside0 (wl.heap[bM]? = some (.cells #[.string m.f0, .string m.f1, .slice A2 m.f2.length e2, .int .i64 m.f3, .int .i64 m.f4] 54 (0, 0))))
                  case atStart =>
                    refine ⟨0, rfl, ⟨by omega⟩, ?_, HB10, HX10⟩
                    rw [chars_zero]
                    exact HM10
                  case round =>
                    clear HM10 HB10 HX10
                    obtain ⟨j, rfl, HJ, HM, HB, HX⟩ := hrel
                    have b1 := (blk_cell HX.out 1).trans rfl
                    cases gk with
                    | zero =>
                      as_aux_lemma =>
                        have hj : j = min m.f1.size 6 := by have := HJ.out; have := HN6.out; omega
                        have HJE := Aside0.mk hj
                        clear hj
                        rcases Nat.lt_or_ge j m.f1.size with h1 | h1
                        · have f1 : decide ((j : Int) < (m.f1.size : Int)) = true := decide_eq_true (by omega)
                          have f2 : decide ((j : Int) < 6) = false := decide_eq_false (by have := HJE.out; omega)
                          have f3 : decide (j < m.f1.size) = true := decide_eq_true h1
                          go_wp2
                          go_roundg gko
                          case measure => omega
                          case rel =>
                            refine ⟨i + 1, A9, c9, A10, c10, rfl, rfl, (by first | rfl | exact congrArg (Value.int .i64) HWI.out | exact congrArg (Value.int .i64) (HWI.out.symm ▸ rfl)), ⟨by have := HI.out; omega⟩, ?_, HB⟩
                            rw [HSU2.out, ← chars_end m j HJE.out]
                            exact HM
                        · have f1 : decide ((j : Int) < (m.f1.size : Int)) = false := decide_eq_false (by omega)
                          have f3 : decide (j < m.f1.size) = false := decide_eq_false (by omega)
                          go_wp2
                          go_roundg gko
                          case measure => omega
                          case rel =>
                            refine ⟨i + 1, A9, c9, A10, c10, rfl, rfl, (by first | rfl | exact congrArg (Value.int .i64) HWI.out | exact congrArg (Value.int .i64) (HWI.out.symm ▸ rfl)), ⟨by have := HI.out; omega⟩, ?_, HB⟩
                            rw [HSU2.out, ← chars_end m j HJE.out]
                            exact HM
                    | succ gk =>
                      as_aux_lemma =>
                        have hj1 : j < m.f1.size := by have := HJ.out; have := HN6.out; omega
                        have hj2 : j < 6 := by have := HJ.out; have := HN6.out; omega
                        have f1 : decide ((j : Int) < (m.f1.size : Int)) = true := decide_eq_true (by omega)
                        have f2 : decide ((j : Int) < 6) = true := decide_eq_true (by omega)
                        have f3 : decide (j < m.f1.size) = true := decide_eq_true hj1
                        have j0 : (0 : Int) ≤ (j : Int) := by omega
                        have j1 : (j : Int) < (m.f1.size : Int) := by omega
                        have b4 := (blk_cell HX.out 4).trans rfl
                        go_upto_region 21 with (fail)
                        have HCL := Aside0.mk (chr_low m j)
                        have HJ6 := Aside0.mk hj2
                        have hIT := (writesT_inv (chars m j) (fun v hv => chars_mem hv) m.f4 s.T.length HIT.out).mono (d := 20 * i + 100) (by have := chars_length m j; omega)
                        have hIR := (writesR_inv (chars m j) (fun v hv => chars_mem hv) m.f4 s.R.length HIR.out).mono (d := 20 * i + 100) (by have := chars_length m j; omega)
                        have HITj := Aside0.mk hIT
                        have HIRj := Aside0.mk hIR
                        have HKI : Aside0 (20 * i + 100 ≤ 100000) := ⟨by have := HI2.out; omega⟩
                        have HWD := Aside0.mk (HM.out.below (below_drew1 (Below.refl _ _)))
                        clear hIT hIR hj1 hj2
                        have HWJ : Aside0 (wrap64 ((j : Int) + 1) = ((j + 1 : Nat) : Int)) := ⟨by have := HJ6.out; unfold wrap64; omega⟩
                        have hjs : j < m.f1.size := by have := HJ.out; have := HN6.out; omega
                        go_region_law ((refine goes_ Tryz.func26 (by kernel_rfl) rfl #[.pointer (some ⟨gT, 0, none⟩), .int .i64 (chr m j), .int .i64 m.f4, .int .i64 (s.T.length : Int), .int .i64 (-1)] (by rfl) rfl rfl (by (try simp only [List.map_toArray, List.map_cons, List.map_nil]); rw [← chr_val m j hjs]; first | done | rfl) ?_); refine (made_write (W := wr.drew) (chr m j) m.f4 (s.T.length : Int) HWD.out HITj.out HKI.out HCL.out.1 HCL.out.2 HB.out.size).mono ?_; rintro e w11 ⟨⟨xx, rfl⟩, hm, hf, hb⟩; refine ⟨_, rfl, ?_⟩; have HM11 := Aside0.mk hm; have HB11 := Aside0.mk (Below.trans HB.out (Below.trans (below_drew1 (Below.refl _ _)) hb)); have HX11 := Aside0.mk (TFrame.blk (w := wr.drew) hf HX.out (by decide)); clear hm hf hb b1 b4)
                        all_goals
                          have b1 := (blk_cell HX11.out 1).trans rfl
                          have b4 := (blk_cell HX11.out 4).trans rfl
                          have HWD2 := Aside0.mk (HM11.out.below (below_drew1 (Below.refl _ _)))
                          go_upto_region 22 with (fail)
                          go_region_law ((refine goes_ Tryz.func27 (by kernel_rfl) rfl #[.pointer (some ⟨gR, 0, none⟩), .int .i64 (chr m j), .int .i64 m.f4, .int .i64 (s.R.length : Int), .int .i64 (-1)] (by rfl) rfl rfl (by (try simp only [List.map_toArray, List.map_cons, List.map_nil]); rw [← chr_val m j hjs]; first | done | rfl) ?_); refine (made_rwrite (W := w11.drew) (chr m j) m.f4 (s.R.length : Int) HWD2.out HIRj.out HKI.out HCL.out.1 HCL.out.2 HB11.out.size).mono ?_; rintro e w12 ⟨⟨xx, rfl⟩, hm, hf, hb⟩; refine ⟨_, rfl, ?_⟩; have HM12 := Aside0.mk hm; have HB12 := Aside0.mk (Below.trans HB11.out (Below.trans (below_drew1 (Below.refl _ _)) hb)); have HX12 := Aside0.mk (TFrame.blk (w := w11.drew) hf HX11.out (by decide)); clear hm hf hb b1 b4)
                          all_goals
                            go_wp2
                            go_roundg gk
                            case measure => omega
                            case rel =>
                              refine ⟨j + 1, congrArg (Value.int .i64) HWJ.out, ⟨by have := HJ.out; omega⟩, ?_, HB12, HX12⟩
                              rw [chars_succ m j hjs, writesT_snoc, writesR_snoc]
                              exact HM12
end Go.Proofs.YtomdidopflebjaaGreatDoor.PM
