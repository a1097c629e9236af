/- merge.Merge at any row of rising rows of Diags (at most 1000000 rows, 1000000000 Diags): a new row, all of them in order, each once. -/
import Derived.Test.YtkkdpkfachpjeaaHHeapF
import Derived.IntWalk
namespace Go.Proofs.Ytkkdpkfachpjeaa.PS
open Go.RowKit Go.Lib Go.Proofs.Ytkkdpkfachpjeaa.OrdS Go.Proofs.Ytkkdpkfachpjeaa.Pure Go.Proofs.YtkkdpkfachpjeaaW.PrintWords Go.Proofs.YtkkdpkfachpjeaaW.PrintLast Go.Proofs.YtkkdpkfachpjeaaW.PrintMore

def merge_Merge.f (l0 : List (List S27)) : Option (List S27) := if (l0.all fun l => decide (Rise l)) = true ∧ l0.length ≤ 1000000 ∧ Mrg.size l0 ≤ 1000000000 then some (sortD l0.flatten) else none
theorem rd27' {l : List S27} {i : Nat} (h : i < l.length) : rd_T27 l (i : Int) = l[i] := by
  unfold rd_T27
  rw [Int.toNat_natCast, List.getD_eq_getElem?_getD, List.getElem?_eq_getElem h]
  rfl
def full (l : List S27) : Bool := !l.isEmpty
theorem size_full (ls : List (List S27)) : Mrg.size (ls.filter full) = Mrg.size ls := by
  induction ls with
  | nil => rfl
  | cons l ls ih =>
    rw [Mrg.size_cons, List.filter_cons]
    cases l with
    | nil => rw [if_neg (by simp [full]), ih]; simp
    | cons x xs => rw [if_pos (by rfl), Mrg.size_cons, ih]
/-- The start: no rests. -/
theorem RV.new (w : World) : RV w w (w.heap.size + 1) ((w.alloc (.cells #[] 38)).alloc (.cells #[.slice (some ⟨w.heap.size, 0, none⟩) 0 0] 55)) (.slice (some ⟨w.heap.size, 0, none⟩) 0 0) [] := by
  have h1 : Below w.heap.size w (w.alloc (.cells #[] 38)) := below_alloc (Below.refl _ _) _
  refine ⟨Nat.le_succ _, ?_, ⟨[], ?_, rfl, fun i => ?_⟩, below_alloc h1 _, (Fr.refl w).below (below_alloc h1 _)⟩
  · have := heap_alloc_new (w.alloc (.cells #[] 38)) (.cells #[.slice (some ⟨w.heap.size, 0, none⟩) 0 0] 55)
    simpa using this
  · have := World.ownsRow_lit (base := w.heap.size) (e := 38) (size := 1) w #[] 0 (Nat.le_refl _) (by simp [maxLen]) rfl
    exact this.alloc _
  · have e1 : ([] : List Hdr).getD i dH = dH := by rw [List.getD_eq_getElem?_getD]; simp
    have e2 : ([] : List (List S27)).getD i [] = [] := by rw [List.getD_eq_getElem?_getD]; simp
    rw [e1, e2]
    exact Hd.dflt _
/-- A rest at a place, with its value. -/
theorem RV.hd {w0 W1 w : World} {g b n cap : Nat} {ls : List (List S27)} (h : RV w0 W1 g w (.slice (some ⟨b, 0, none⟩) n cap) ls) (i : Nat) (hi : i < ls.length) : ∃ x : Hdr, Hd w0 x (Heap.g [] ls i) ∧ w.cell? ⟨b, i, none⟩ = some (encH x) ∧ w.frozen? ⟨b, i, none⟩ = false := by
  obtain ⟨A, c, e⟩ := h.slice_
  injection e with e1 e2 e3
  subst e2
  obtain ⟨hs, h1, h2, h3⟩ := h.row
  obtain ⟨x, fx⟩ := own_at_of (enc := encH) (d := dH) h1 (i : Int) (by omega) (by omega)
  rw [Int.toNat_natCast] at x fx
  refine ⟨hs.getD i dH, h3 i, ?_, fx⟩
  rw [x]
  unfold rdOf
  rw [Int.toNat_natCast]
theorem Hd.tail {w0 : World} {ad : Addr} {n c : Nat} {l : List S27} (h : Hd w0 ⟨some ad, n, c⟩ l) (hn : 2 ≤ n) : Hd w0 ⟨some (ad.add 3), n - 1, c - 1⟩ l.tail := by
  have h1 : n = l.length := h.n
  have h2 : l.length ≤ c := h.c
  have h3 := Kd.C_drop (m := 1) h.r (by omega) h2
  rw [if_neg (by omega), List.drop_one] at h3
  have h4 : l.tail.length = l.length - 1 := List.length_tail
  refine ⟨?_, ?_, h3⟩
  · show n - 1 = _
    omega
  · show _ ≤ c - 1
    omega
/-- A row of another type has been written. -/
theorem RV.other {w0 W1 w w9 : World} {g : Nat} {v : Value} {ls : List (List S27)} {row : Option Nat} (h : RV w0 W1 g w v ls) (hg : w.grownBy w9 row) (hr : ∀ k, row = some k → (∃ c f, w.heap[k]? = some (.cells c 27 f)) ∧ w0.heap.size ≤ k) : RV w0 w9 g w9 v ls := by
  have hne : ∀ k c t f, w.heap[k]? = some (.cells c t f) → t ≠ 27 → some k ≠ row := by
    intro k c t f h1 h2 e
    obtain ⟨⟨c', f', h3⟩, _⟩ := hr k e.symm
    rw [h1] at h3
    injection h3 with h3
    injection h3 with _ h3
    exact h2 h3
  obtain ⟨hs, h1, h2, h3⟩ := h.row
  refine ⟨h.ge, blk_grown h.cell hg (hne _ _ _ _ h.cell (by decide)), ⟨hs, own_other h1 hg ?_, h2, h3⟩, h.below.grown hg h.below.size (fun k hk => (hr k hk).2), Fr.refl _⟩
  cases e : v.ownBlock with
  | none => exact .inl rfl
  | some k =>
    obtain ⟨cs, hcs⟩ := own_typed h1 k e
    exact .inr (hne k cs 38 _ hcs (by decide))
theorem RV.base {w0 W1 w : World} {g : Nat} {v : Value} {ls : List (List S27)} (h : RV w0 W1 g w v ls) : RV w0 w0 g w v ls := ⟨h.ge, h.cell, h.row, h.below, fun k _ _ _ h1 _ _ => (h.below.block k (blk_lt h1)).trans h1⟩
theorem out_fr {W W' : World} {base : Nat} {v : Value} {xs : List S27} (h : Kd.R k27 27 W base (fun _ => True) v xs) (hf : Fr W W') : Kd.R k27 27 W' base (fun _ => True) v xs := by
  refine Kd.R_mono (Kd.R_step (Kd.R_bound h) (fun k hk1 _ => ?_)) (fun _ _ => trivial)
  obtain ⟨_, _, _, q, hq, cells, hc⟩ := hk1
  have hq27 : q = 27 := by
    rcases List.mem_cons.1 hq with e | hq
    · exact e
    · exact absurd hq (by simp [k27, Kd.iso, Kd.pair, Kd.int, Kd.string, Kd.scalar])
  subst hq27
  rw [hc]
  exact hf k _ _ _ hc (by decide) (by decide)
theorem tell_len (out : List S27) (y : S27) : (Mrg.tell out y).length ≤ out.length + 1 := by
  unfold Mrg.tell
  split
  · simp
  · split
    · omega
    · simp
/-- What holds ahead of a round of the second loop. -/
structure MS (w0 : World) (g : Nat) (all : List S27) (w : World) (vo : Value) (ls : List (List S27)) (out : List S27) : Prop where
  r : ∃ v, RV w0 w0 g w v ls
  heap : Heap.Heap [] Mrg.L ls ls.length
  inv : Mrg.Inv all out ls
  o : Kd.R k27 27 w w0.heap.size (fun _ => True) vo out
  n : ls.length ≤ 1000000
  m : out.length + Mrg.size ls ≤ 1000000000
set_option maxHeartbeats 8000000 in
set_option maxRecDepth 100000 in
theorem merge_Merge.calls (A0 : Option Addr) (c0 : Nat) (l0 : List (List S27)) (r : List S27) (w : World) (hr0 : Kd.C (Kd.slice 27 k27) w A0 l0.length l0) (hc0 : l0.length ≤ c0) (h : merge_Merge.f l0 = some r) :
    Calls Try.prog 17 #[.slice A0 l0.length c0] w fun e w' => ∃ v0_ : Value, e = .returned v0_ ∧ Kd.R k27 27 w' w.heap.size (fun _ => True) v0_ r ∧ Below w.heap.size w w' := by
  have _ := hc0
  unfold merge_Merge.f at h
  split at h
  case isFalse => cases h
  rename_i hcond
  obtain ⟨hri, hlen, hsz⟩ := hcond
  have HRES := Aside0.mk (Option.some.inj h)
  have HRI : Aside0 (∀ l ∈ l0, Rise l) := ⟨fun l hl => of_decide_eq_true (List.all_eq_true.1 hri l hl)⟩
  have HC := Aside0.mk hr0
  have HLEN := Aside0.mk hlen
  have HSZ := Aside0.mk hsz
  clear h hri hlen hsz hr0 hc0
  obtain ⟨N, hN⟩ : ∃ N, N = l0.length := ⟨_, rfl⟩
  rw [← hN] at HLEN ⊢
  have HN := Aside0.mk hN
  have qN : (N : Int) ≤ 1000000 := by have := HLEN.out; omega
  clear hN
  have HNEW := Aside0.mk (RV.new w)
  go_enter Try.func17, Try.ntmps17
  go_wp2
  generalize (w.alloc (.cells #[] 38)).alloc (.cells #[.slice (some ⟨w.heap.size, 0, none⟩) 0 0] 55) = w2 at HNEW ⊢
  obtain ⟨g, hg⟩ : ∃ g, g = w.heap.size + 1 := ⟨_, rfl⟩
  rw [← hg] at HNEW ⊢
  have HGE : Aside0 (w.heap.size ≤ g) := ⟨by omega⟩
  clear hg
  go_loopg [13] N (fun kq v13 wr => ∃ (i : Nat) (v : Value) (ls : List (List S27)), v13 = .int .i64 (i : Int) ∧ Aside0 (i + kq = N) ∧ Aside0 (RV w w g wr v ls) ∧ Aside0 (ls.Perm ((l0.take i).filter full)) ∧ Aside0 (Heap.Heap [] Mrg.L ls ls.length))
  case atStart => exact ⟨0, _, [], rfl, ⟨by omega⟩, HNEW, ⟨by simp⟩, ⟨fun k _ hk => absurd hk (Nat.not_lt_zero k)⟩⟩
  case round =>
    clear HNEW
    obtain ⟨i, v, ls, rfl, HI, HR, HP, HH⟩ := hrel
    have HLS : Aside0 (ls.length ≤ i) := ⟨by
      rw [HP.out.length_eq]
      refine Nat.le_trans (List.length_filter_le _ _) ?_
      rw [List.length_take]
      exact Nat.min_le_left _ _⟩
    have HNE : Aside0 (∀ l ∈ ls, l ≠ []) := ⟨fun l hl e => by
      have := (List.mem_filter.1 (HP.out.mem_iff.1 hl)).2
      rw [e] at this
      cases this⟩
    cases gk with
    | zero =>
      have hi : i = N := by have := HI.out; omega
      have HIN := Aside0.mk hi
      have d1 : ¬ i < N := by omega
      have hall : (l0.take i).filter full = l0.filter full := by rw [hi, HN.out, List.take_length]
      have HS : Aside0 (MS w g l0.flatten wr (.slice none 0 0) ls []) := ⟨by
        refine ⟨⟨v, HR.out⟩, HH.out, (Mrg.Inv.start l0 HRI.out).perm (by have h1 := HP.out; rw [hall] at h1; exact h1), Kd.R_nil _ _ _ _ _, Nat.le_trans HLS.out (by rw [hi]; exact HLEN.out), ?_⟩
        rw [Mrg.size_perm HP.out, hall, size_full, List.length_nil, Nat.zero_add]
        exact HSZ.out⟩
      clear hi hall HR HP HH HLS HNE
      go_wp2
      go_loopg [6] (Mrg.size ls) (fun kq v6 w4 => ∃ (l4 : List (List S27)) (out : List S27), Aside0 (kq = Mrg.size l4) ∧ Aside0 (MS w g l0.flatten w4 v6 l4 out))
      case atStart => exact ⟨ls, [], ⟨rfl⟩, HS⟩
      case round =>
        clear HS
        obtain ⟨l4, out, HQ, HM⟩ := hrel
        obtain ⟨⟨v, hr4⟩, hh4, hi4, ho4, hn4, hm4⟩ := HM.out
        have HR4 := Aside0.mk hr4.rebase
        have HH4 := Aside0.mk hh4
        have HI4 := Aside0.mk hi4
        have HO4 := Aside0.mk ho4
        have HN4 := Aside0.mk hn4
        have HM4 := Aside0.mk hm4
        have HB4 := Aside0.mk hr4.below
        obtain ⟨Av, cv, rfl⟩ := hr4.slice_
        obtain ⟨Ao, co, rfl⟩ := Kd.R_slice ho4
        have HCO := Aside0.mk (Kd.R_reads' ho4).2.2
        have hc4 := hr4.c0
        have eN : ∀ args w, (callFunc 25 args).run Try.prog w = .ok (.enter 25 args) w := enters_of Try.func25 (by kernel_rfl) rfl
        clear hr4 hh4 hi4 ho4 hn4 hm4 HM
        cases l4 with
        | nil =>
          go_wp2_with fail
          refine (rests_len _ _ _ _).mono ?_
          rintro e w5 ⟨rfl, rfl⟩
          go_wp2
          go_ret
          refine ⟨_, rfl, ?_, HB4.out⟩
          rw [← HRES.out, ← HI4.out.done]
          exact HO4.out
        | cons l t =>
          cases gk with
          | zero =>
            exfalso
            have h1 := HQ.out
            rw [Mrg.size_cons] at h1
            have h2 := List.length_pos_iff.2 (HI4.out.left l (List.mem_cons_self ..)).1
            omega
          | succ gk =>
            obtain ⟨hne, hri⟩ := HI4.out.left l (List.mem_cons_self ..)
            have hlp := List.length_pos_iff.2 hne
            obtain ⟨b, cap, e⟩ := HR4.out.form (Nat.succ_pos _)
            injection e with e1 e2 e3
            subst e1
            subst e3
            clear e2
            obtain ⟨⟨A, n0, c⟩, hd0, hx0, _⟩ := HR4.out.hd 0 (Nat.succ_pos _)
            have hd0' : Hd w ⟨A, n0, c⟩ l := hd0
            have hn0 : n0 = l.length := hd0'.n
            subst hn0
            have hle : l.length ≤ c := hd0'.c
            have hC : Kd.C k27 wr A l.length l := Kd.C_below hd0'.r HR4.out.below
            have HD0 := Aside0.mk hd0'
            have hx : wr.cell? ⟨b, 0, none⟩ = some (.slice A l.length c) := hx0
            have HLE : Aside0 (l.length ≤ c) := ⟨hle⟩
            obtain ⟨ad, rfl, y0, y1, y2⟩ := at_T27 hC 0 (by decide) (by omega)
            have ha : ∀ a : Addr, a.add ((0 : Int).toNat * 3) = a := fun a => by unfold Addr.add; simp
            rw [ha] at y0 y1 y2
            have hy : rd_T27 l 0 = Mrg.hd l := rfl
            rw [hy] at y0 y1 y2
            have HC4 := Aside0.mk hC
            have HLP := Aside0.mk hlp
            have HNEL := Aside0.mk hne
            obtain ⟨m, hm⟩ : ∃ m, m = (l :: t).length := ⟨_, rfl⟩
            obtain ⟨n, hn⟩ : ∃ n, n = l.length := ⟨_, rfl⟩
            obtain ⟨q, hq⟩ : ∃ q, q = out.length := ⟨_, rfl⟩
            rw [← hm] at hc4 HR4
            rw [← hn] at hx HLP HD0 HLE
            rw [← hq] at HO4 HM4 HCO ⊢
            have HM := Aside0.mk hm
            have HN := Aside0.mk hn
            have HQL := Aside0.mk hq
            have q0 : decide (0 < m) = true := decide_eq_true (by rw [hm]; exact Nat.succ_pos _)
            have q1 : 0 < m := by rw [hm]; exact Nat.succ_pos _
            have q2 : 0 < n := HLP.out
            obtain ⟨Y, hY⟩ : ∃ Y, Y = Mrg.hd l := ⟨_, rfl⟩
            rw [← hY] at y0 y1 y2
            have HY := Aside0.mk hY
            clear hne hri hlp hx0 hle hd0 hd0' hC ha hy hm hn hq hY
            have hu38 := Try.underlying38
            have hu55 := Try.underlying55
            go_wp2_with fail
            refine (rests_len _ _ _ _).mono ?_
            rintro e w5 ⟨rfl, rfl⟩
            by_cases hq0 : q = 0
            · have d0 : decide (q = 0) = true := decide_eq_true hq0
              have hout : out = [] := List.eq_nil_of_length_eq_zero (by rw [← HQL.out]; exact hq0)
              have HTELL : Aside0 (Mrg.tell out Y = out ++ [Y]) := ⟨by unfold Mrg.tell; rw [if_pos hout]⟩
              clear hout
              subst hq0
              go_wp2_with fail
              go_quiet (fail)
              have HWQ := pw_below_drewN (Below.refl wr.heap.size wr) nq
              have HR6 := Aside0.mk (HR4.out.mono HWQ)
              have HO6 := Aside0.mk (Kd.R_below HO4.out HWQ)
              have HX6 : Aside0 (∀ v w, wr.cell? v = some w → (wr.drewN nq).cell? v = some w) := ⟨fun v w h => h⟩
              have z0' := HX6.out _ _ y0
              have z1' := HX6.out _ _ y1
              have z2' := HX6.out _ _ y2
              clear HX6 HWQ y0 y1 y2
              clear HR4 HO4 HC4 HB4 hx hc4 HCO
              generalize wr.drewN nq = w6 at *
              have hsw := HR6.out.below.size
              have hq9 := HM4.out
              rw [Mrg.size_cons] at hq9
              go_upto_region 14 with (at_builtin; refine Kd.R_append k27 (w0 := w6) w.heap.size rfl (.tmp 51) (.tmp 55) 38 27 (.agg #[.int .i64 0, .int .i64 0, .string ⟨#[]⟩]) 32 rfl Try.underlying38 infoD27 rfl (by decide) (by omega) (.slice Ao 0 co) out Y [.int .i64 Y.f0, .int .i64 Y.f1, .string Y.f2] (fun _ => True) (fun _ => False) rfl rfl (k27_mkM _ _ _ Y) (fun _ h => h.elim) (fun _ _ => trivial) HO6.out (Below.refl _ _) hsw (by have := HQL.out; omega) ?_; intro v9 w9 hR9 hb9 hg9 _; have HO9 := Aside0.mk hR9; have HG9 := Aside0.mk hg9; clear hR9 hb9 hg9)
              have hty : ∀ k, (Value.slice Ao 0 co).ownBlock = some k → (∃ c f, w6.heap[k]? = some (.cells c 27 f)) ∧ w.heap.size ≤ k := fun k hk => by
                obtain ⟨inner, hown⟩ := Kd.R_own HO6.out
                obtain ⟨cs, hcs⟩ := own_typed hown k hk
                exact ⟨⟨cs, _, hcs⟩, own_base hown k hk⟩
              have HR9 := Aside0.mk (HR6.out.other HG9.out hty)
              have HT9 : Aside0 (Kd.R k27 27 w9 w.heap.size (fun _ => True) v9 (Mrg.tell out Y)) := ⟨by rw [HTELL.out]; exact HO9.out⟩
              clear hty HO9 HG9 HR6 HO6 z0' z1' z2' hsw hq9
              have HMP := Aside0.mk (HI4.out.tell (fun k hk => by
                obtain ⟨j, hj, e⟩ := List.getElem_of_mem hk
                have := HH4.out.min Mrg.ordL (j + 1) (j + 1) (Nat.le_refl _) (by simp; exact hj)
                have e2 : Heap.g [] (l :: t) (j + 1) = k := by rw [Heap.g_of [] _ _ (by simp; exact hj), List.getElem_cons_succ, e]
                rw [e2] at this
                exact this))
              have HTL := Aside0.mk (tell_len out Y)
              by_cases hn1 : n = 1
              · have d2 : decide (n = 1) = true := decide_eq_true hn1
                have d3 : ((n : Int) == 1) = true := by rw [beq_iff_eq]; omega
                have HN1 := Aside0.mk hn1
                clear hn1
                go_wp2_with fail
                refine (heap_pop HR9.out HN4.out (fun k hk => (HI4.out.left k hk).1) HH4.out).mono ?_
                rintro e w8 ⟨⟨xx, rfl⟩, v8, ls8, hr8, hp8, hh8, hb8⟩
                have HT8 := Aside0.mk (out_fr HT9.out hr8.fr)
                have HR8 := Aside0.mk hr8.base
                have HP8 := Aside0.mk hp8
                have HH8 := Aside0.mk hh8
                clear hr8 hp8 hh8 hb8
                go_wp2
                go_roundg gk
                case measure => omega
                case rel =>
                  have hs8 := Mrg.size_perm HP8.out
                  have hq := HQ.out
                  rw [Mrg.size_cons] at hq
                  have hi := HMP.out
                  rw [← HY.out, if_pos (by rw [← HN.out, HN1.out])] at hi
                  refine ⟨ls8, Mrg.tell out Y, ⟨by rw [hs8]; have := HN.out; have := HN1.out; omega⟩, ⟨⟨⟨_, HR8.out⟩, HH8.out, hi.perm HP8.out, HT8.out, ?_, ?_⟩⟩⟩
                  · rw [HP8.out.length_eq]
                    have := HN4.out
                    simp only [List.length_cons] at this
                    omega
                  · rw [hs8]
                    have := HM4.out
                    rw [Mrg.size_cons] at this
                    have := HTL.out
                    have := HQL.out
                    have := HN.out
                    have := HN1.out
                    omega
              · have d2 : decide (n = 1) = false := decide_eq_false hn1
                have d3 : ((n : Int) == 1) = false := by rw [beq_eq_false_iff_ne]; omega
                have HN2 : Aside0 (2 ≤ n) := ⟨by have := HLP.out; omega⟩
                have hc9 := HR9.out.c0
                have hr9' := HR9.out
                rw [HM.out] at hr9'
                have HR9' := Aside0.mk hr9'
                clear hr9'
                obtain ⟨u9, hcell9, hfz9⟩ := HR9.out.cell_ 0 (Nat.succ_pos _)
                have hcn : n ≤ c := HLE.out
                have hc1 : ¬ c = 1 := by have := HN2.out; omega
                have hc2 : ¬ c = 0 := by have := HN2.out; omega
                have hc3 : 1 ≤ c := by omega
                have hc4' : 1 ≤ n := by have := HN2.out; omega
                have hNb : (n : Int) ≤ 1000000000 := by have := HM4.out; rw [Mrg.size_cons] at this; have := HN.out; omega
                clear hn1
                go_wp2_with fail
                go_region
                all_goals
                  have hput := HR9'.out.put 0 (Nat.succ_pos _) ⟨some (ad.add 3), n - 1, c - 1⟩ l.tail (HD0.out.tail HN2.out)
                  have hset : (l :: t).set 0 l.tail = l.tail :: t := rfl
                  rw [hset] at hput
                  have had : ad.add 3 = ⟨ad.block, ad.off + 3, none⟩ := rfl
                  rw [had] at hput
                  simp only [encH] at hput
                  have hr10 := hput.mono (below_drew1 (Below.refl _ _))
                  have HR10 := Aside0.mk hr10
                  have hd10 := Heap.Dn.root (y := l.tail) (Nat.le_refl _) HH4.out (Nat.succ_pos _)
                  rw [hset] at hd10
                  have HD10 := Aside0.mk hd10
                  have hle10 : (l.tail :: t).length = (l :: t).length := rfl
                  have hne10 : ∀ k ∈ l.tail :: t, k ≠ [] := fun k hk => by
                    rcases List.mem_cons.1 hk with e | hk
                    · intro e2
                      have h1 : l.tail.length = l.length - 1 := List.length_tail
                      rw [← e, e2] at h1
                      have := HN2.out
                      have := HN.out
                      simp at h1
                      omega
                    · exact (HI4.out.left k (List.mem_cons_of_mem _ hk)).1
                  have HNE10 := Aside0.mk hne10
                  clear hput hset had hr10 hd10 hle10 hne10
                  generalize (World.setCell w9 ⟨b, 0, none⟩ (Value.slice (some ⟨ad.block, ad.off + 3, none⟩) (n - 1) (c - 1))).drew = w10 at HR10 ⊢
                  have mx := HR10.out.c0
                  go_wp2_with fail
                  refine (heap_fix HR10.out (Nat.succ_pos _) HN4.out HNE10.out HD10.out).mono ?_
                  rintro e w8 ⟨rfl, ls8, hr8, hp8, hh8, hb8⟩
                  have HT8 := Aside0.mk (out_fr HT9.out hr8.fr)
                  have HR8 := Aside0.mk hr8.base
                  have HP8 := Aside0.mk hp8
                  have HH8 := Aside0.mk hh8
                  clear hr8 hp8 hh8 hb8
                  go_wp2
                  go_roundg gk
                  case measure => omega
                  case rel =>
                    have hs8 := Mrg.size_perm HP8.out
                    rw [Mrg.size_cons] at hs8
                    have h1 : l.tail.length = l.length - 1 := List.length_tail
                    have hq := HQ.out
                    rw [Mrg.size_cons] at hq
                    have hi := HMP.out
                    rw [← HY.out, if_neg (by rw [← HN.out]; have := HN2.out; omega)] at hi
                    refine ⟨ls8, Mrg.tell out Y, ⟨by rw [hs8]; have := HN.out; have := HN2.out; omega⟩, ⟨⟨⟨_, HR8.out⟩, HH8.out, hi.perm HP8.out, HT8.out, ?_, ?_⟩⟩⟩
                    · rw [HP8.out.length_eq]
                      exact HN4.out
                    · rw [hs8]
                      have := HM4.out
                      rw [Mrg.size_cons] at this
                      have := HTL.out
                      have := HQL.out
                      have := HN.out
                      have := HN2.out
                      omega
            · have d0 : decide (q = 0) = false := decide_eq_false hq0
              have d9 : ((q : Int) == 0) = false := by rw [beq_eq_false_iff_ne]; omega
              obtain ⟨p, hp⟩ : ∃ p, p + 1 = q := ⟨q - 1, by omega⟩
              have q3 : (q : Int) - 1 = (p : Int) := by omega
              have q4 : (0 : Int) ≤ (p : Int) := by omega
              have q5 : p < q := by omega
              have q6 : (q : Int) ≤ 1000000000 := by have := HM4.out; omega
              obtain ⟨ao, eo, z0, z1, z2⟩ := at_T27 HCO.out (p : Int) q4 (by omega)
              subst eo
              rw [Int.toNat_natCast] at z0 z1 z2
              have hlast : out.getLast? = some (rd_T27 out (p : Int)) := by
                have : out.length = p + 1 := by rw [← HQL.out, hp]
                rw [List.getLast?_eq_getElem?, this, Nat.add_sub_cancel, List.getElem?_eq_getElem (by omega), rd27' (by omega)]
              have q7 : IntKind.i64.wrap ((q : Int) - 1) = (p : Int) := by rw [q3]; exact IntWalk.i64_in _ (by omega)
              have q8 : ((p : Int)).toNat = p := Int.toNat_natCast p
              have hone : out ≠ [] := fun e => hq0 (by rw [HQL.out, e]; rfl)
              have HLAST := Aside0.mk hlast
              have HONE := Aside0.mk hone
              clear hlast hone hp hq0
              generalize rd_T27 out (p : Int) = X at z0 z1 z2 HLAST
              by_cases hXY : X = Y
              · have HTELL : Aside0 (Mrg.tell out Y = out) := ⟨by unfold Mrg.tell; rw [if_neg HONE.out, if_pos (by rw [HLAST.out, hXY])]⟩
                have heq : ∀ (w : World), Sem.run Try.prog (binOp .neq 27 (.agg #[.int .i64 X.f0, .int .i64 X.f1, .string X.f2]) (.agg #[.int .i64 Y.f0, .int .i64 Y.f1, .string Y.f2])) w = .ok (.bool false) w := fun w => by
                  have := neq27 X Y w
                  rw [decide_eq_true hXY] at this
                  exact this
                clear hXY
                go_wp2_with fail
                go_quiet (fail)
                have HWQ := pw_below_drewN (Below.refl wr.heap.size wr) nq
                have HR6 := Aside0.mk (HR4.out.mono HWQ)
                have HO6 := Aside0.mk (Kd.R_below HO4.out HWQ)
                have HX6 : Aside0 (∀ v w, wr.cell? v = some w → (wr.drewN nq).cell? v = some w) := ⟨fun v w h => h⟩
                have z0' := HX6.out _ _ y0
                have z1' := HX6.out _ _ y1
                have z2' := HX6.out _ _ y2
                clear HX6 HWQ y0 y1 y2
                clear HR4 HO4 HC4 HB4 hx hc4 HCO
                generalize wr.drewN nq = w6 at *
                go_upto_region 14 with (fail)
                obtain ⟨v9, hv9⟩ : ∃ v9 : Value, v9 = .slice (some ao) q co := ⟨_, rfl⟩
                have HT9 : Aside0 (Kd.R k27 27 w6 w.heap.size (fun _ => True) v9 (Mrg.tell out Y)) := ⟨by rw [HTELL.out, hv9]; exact HO6.out⟩
                rw [← hv9]
                have HR9 := Aside0.mk HR6.out.rebase
                clear HR6 HO6 z0' z1' z2' hv9
                have HMP := Aside0.mk (HI4.out.tell (fun k hk => by
                  obtain ⟨j, hj, e⟩ := List.getElem_of_mem hk
                  have := HH4.out.min Mrg.ordL (j + 1) (j + 1) (Nat.le_refl _) (by simp; exact hj)
                  have e2 : Heap.g [] (l :: t) (j + 1) = k := by rw [Heap.g_of [] _ _ (by simp; exact hj), List.getElem_cons_succ, e]
                  rw [e2] at this
                  exact this))
                have HTL := Aside0.mk (tell_len out Y)
                by_cases hn1 : n = 1
                · have d2 : decide (n = 1) = true := decide_eq_true hn1
                  have d3 : ((n : Int) == 1) = true := by rw [beq_iff_eq]; omega
                  have HN1 := Aside0.mk hn1
                  clear hn1
                  go_wp2_with fail
                  refine (heap_pop HR9.out HN4.out (fun k hk => (HI4.out.left k hk).1) HH4.out).mono ?_
                  rintro e w8 ⟨⟨xx, rfl⟩, v8, ls8, hr8, hp8, hh8, hb8⟩
                  have HT8 := Aside0.mk (out_fr HT9.out hr8.fr)
                  have HR8 := Aside0.mk hr8.base
                  have HP8 := Aside0.mk hp8
                  have HH8 := Aside0.mk hh8
                  clear hr8 hp8 hh8 hb8
                  go_wp2
                  go_roundg gk
                  case measure => omega
                  case rel =>
                    have hs8 := Mrg.size_perm HP8.out
                    have hq := HQ.out
                    rw [Mrg.size_cons] at hq
                    have hi := HMP.out
                    rw [← HY.out, if_pos (by rw [← HN.out, HN1.out])] at hi
                    refine ⟨ls8, Mrg.tell out Y, ⟨by rw [hs8]; have := HN.out; have := HN1.out; omega⟩, ⟨⟨⟨_, HR8.out⟩, HH8.out, hi.perm HP8.out, HT8.out, ?_, ?_⟩⟩⟩
                    · rw [HP8.out.length_eq]
                      have := HN4.out
                      simp only [List.length_cons] at this
                      omega
                    · rw [hs8]
                      have := HM4.out
                      rw [Mrg.size_cons] at this
                      have := HTL.out
                      have := HQL.out
                      have := HN.out
                      have := HN1.out
                      omega
                · have d2 : decide (n = 1) = false := decide_eq_false hn1
                  have d3 : ((n : Int) == 1) = false := by rw [beq_eq_false_iff_ne]; omega
                  have HN2 : Aside0 (2 ≤ n) := ⟨by have := HLP.out; omega⟩
                  have hc9 := HR9.out.c0
                  have hr9' := HR9.out
                  rw [HM.out] at hr9'
                  have HR9' := Aside0.mk hr9'
                  clear hr9'
                  obtain ⟨u9, hcell9, hfz9⟩ := HR9.out.cell_ 0 (Nat.succ_pos _)
                  have hcn : n ≤ c := HLE.out
                  have hc1 : ¬ c = 1 := by have := HN2.out; omega
                  have hc2 : ¬ c = 0 := by have := HN2.out; omega
                  have hc3 : 1 ≤ c := by omega
                  have hc4' : 1 ≤ n := by have := HN2.out; omega
                  have hNb : (n : Int) ≤ 1000000000 := by have := HM4.out; rw [Mrg.size_cons] at this; have := HN.out; omega
                  clear hn1
                  go_wp2_with fail
                  go_region
                  all_goals
                    have hput := HR9'.out.put 0 (Nat.succ_pos _) ⟨some (ad.add 3), n - 1, c - 1⟩ l.tail (HD0.out.tail HN2.out)
                    have hset : (l :: t).set 0 l.tail = l.tail :: t := rfl
                    rw [hset] at hput
                    have had : ad.add 3 = ⟨ad.block, ad.off + 3, none⟩ := rfl
                    rw [had] at hput
                    simp only [encH] at hput
                    have hr10 := hput.mono (below_drew1 (Below.refl _ _))
                    have HR10 := Aside0.mk hr10
                    have hd10 := Heap.Dn.root (y := l.tail) (Nat.le_refl _) HH4.out (Nat.succ_pos _)
                    rw [hset] at hd10
                    have HD10 := Aside0.mk hd10
                    have hle10 : (l.tail :: t).length = (l :: t).length := rfl
                    have hne10 : ∀ k ∈ l.tail :: t, k ≠ [] := fun k hk => by
                      rcases List.mem_cons.1 hk with e | hk
                      · intro e2
                        have h1 : l.tail.length = l.length - 1 := List.length_tail
                        rw [← e, e2] at h1
                        have := HN2.out
                        have := HN.out
                        simp at h1
                        omega
                      · exact (HI4.out.left k (List.mem_cons_of_mem _ hk)).1
                    have HNE10 := Aside0.mk hne10
                    clear hput hset had hr10 hd10 hle10 hne10
                    generalize (World.setCell w6 ⟨b, 0, none⟩ (Value.slice (some ⟨ad.block, ad.off + 3, none⟩) (n - 1) (c - 1))).drew = w10 at HR10 ⊢
                    have mx := HR10.out.c0
                    go_wp2_with fail
                    refine (heap_fix HR10.out (Nat.succ_pos _) HN4.out HNE10.out HD10.out).mono ?_
                    rintro e w8 ⟨rfl, ls8, hr8, hp8, hh8, hb8⟩
                    have HT8 := Aside0.mk (out_fr HT9.out hr8.fr)
                    have HR8 := Aside0.mk hr8.base
                    have HP8 := Aside0.mk hp8
                    have HH8 := Aside0.mk hh8
                    clear hr8 hp8 hh8 hb8
                    go_wp2
                    go_roundg gk
                    case measure => omega
                    case rel =>
                      have hs8 := Mrg.size_perm HP8.out
                      rw [Mrg.size_cons] at hs8
                      have h1 : l.tail.length = l.length - 1 := List.length_tail
                      have hq := HQ.out
                      rw [Mrg.size_cons] at hq
                      have hi := HMP.out
                      rw [← HY.out, if_neg (by rw [← HN.out]; have := HN2.out; omega)] at hi
                      refine ⟨ls8, Mrg.tell out Y, ⟨by rw [hs8]; have := HN.out; have := HN2.out; omega⟩, ⟨⟨⟨_, HR8.out⟩, HH8.out, hi.perm HP8.out, HT8.out, ?_, ?_⟩⟩⟩
                      · rw [HP8.out.length_eq]
                        exact HN4.out
                      · rw [hs8]
                        have := HM4.out
                        rw [Mrg.size_cons] at this
                        have := HTL.out
                        have := HQL.out
                        have := HN.out
                        have := HN2.out
                        omega
              · have HTELL : Aside0 (Mrg.tell out Y = out ++ [Y]) := ⟨by unfold Mrg.tell; rw [if_neg HONE.out, if_neg (by rw [HLAST.out]; exact fun e => hXY (Option.some.inj e))]⟩
                have heq : ∀ (w : World), Sem.run Try.prog (binOp .neq 27 (.agg #[.int .i64 X.f0, .int .i64 X.f1, .string X.f2]) (.agg #[.int .i64 Y.f0, .int .i64 Y.f1, .string Y.f2])) w = .ok (.bool true) w := fun w => by
                  have := neq27 X Y w
                  rw [decide_eq_false hXY] at this
                  exact this
                clear hXY
                go_wp2_with fail
                go_quiet (fail)
                have HWQ := pw_below_drewN (Below.refl wr.heap.size wr) nq
                have HR6 := Aside0.mk (HR4.out.mono HWQ)
                have HO6 := Aside0.mk (Kd.R_below HO4.out HWQ)
                have HX6 : Aside0 (∀ v w, wr.cell? v = some w → (wr.drewN nq).cell? v = some w) := ⟨fun v w h => h⟩
                have z0' := HX6.out _ _ y0
                have z1' := HX6.out _ _ y1
                have z2' := HX6.out _ _ y2
                clear HX6 HWQ y0 y1 y2
                clear HR4 HO4 HC4 HB4 hx hc4 HCO
                generalize wr.drewN nq = w6 at *
                have hsw := HR6.out.below.size
                have hq9 := HM4.out
                rw [Mrg.size_cons] at hq9
                go_upto_region 14 with (at_builtin; refine Kd.R_append k27 (w0 := w6) w.heap.size rfl (.tmp 51) (.tmp 55) 38 27 (.agg #[.int .i64 0, .int .i64 0, .string ⟨#[]⟩]) 32 rfl Try.underlying38 infoD27 rfl (by decide) (by omega) (.slice (some ao) q co) out Y [.int .i64 Y.f0, .int .i64 Y.f1, .string Y.f2] (fun _ => True) (fun _ => False) rfl rfl (k27_mkM _ _ _ Y) (fun _ h => h.elim) (fun _ _ => trivial) HO6.out (Below.refl _ _) hsw (by have := HQL.out; omega) ?_; intro v9 w9 hR9 hb9 hg9 _; have HO9 := Aside0.mk hR9; have HG9 := Aside0.mk hg9; clear hR9 hb9 hg9)
                have hty : ∀ k, (Value.slice (some ao) q co).ownBlock = some k → (∃ c f, w6.heap[k]? = some (.cells c 27 f)) ∧ w.heap.size ≤ k := fun k hk => by
                  obtain ⟨inner, hown⟩ := Kd.R_own HO6.out
                  obtain ⟨cs, hcs⟩ := own_typed hown k hk
                  exact ⟨⟨cs, _, hcs⟩, own_base hown k hk⟩
                have HR9 := Aside0.mk (HR6.out.other HG9.out hty)
                have HT9 : Aside0 (Kd.R k27 27 w9 w.heap.size (fun _ => True) v9 (Mrg.tell out Y)) := ⟨by rw [HTELL.out]; exact HO9.out⟩
                clear hty HO9 HG9 HR6 HO6 z0' z1' z2' hsw hq9
                have HMP := Aside0.mk (HI4.out.tell (fun k hk => by
                  obtain ⟨j, hj, e⟩ := List.getElem_of_mem hk
                  have := HH4.out.min Mrg.ordL (j + 1) (j + 1) (Nat.le_refl _) (by simp; exact hj)
                  have e2 : Heap.g [] (l :: t) (j + 1) = k := by rw [Heap.g_of [] _ _ (by simp; exact hj), List.getElem_cons_succ, e]
                  rw [e2] at this
                  exact this))
                have HTL := Aside0.mk (tell_len out Y)
                by_cases hn1 : n = 1
                · have d2 : decide (n = 1) = true := decide_eq_true hn1
                  have d3 : ((n : Int) == 1) = true := by rw [beq_iff_eq]; omega
                  have HN1 := Aside0.mk hn1
                  clear hn1
                  go_wp2_with fail
                  refine (heap_pop HR9.out HN4.out (fun k hk => (HI4.out.left k hk).1) HH4.out).mono ?_
                  rintro e w8 ⟨⟨xx, rfl⟩, v8, ls8, hr8, hp8, hh8, hb8⟩
                  have HT8 := Aside0.mk (out_fr HT9.out hr8.fr)
                  have HR8 := Aside0.mk hr8.base
                  have HP8 := Aside0.mk hp8
                  have HH8 := Aside0.mk hh8
                  clear hr8 hp8 hh8 hb8
                  go_wp2
                  go_roundg gk
                  case measure => omega
                  case rel =>
                    have hs8 := Mrg.size_perm HP8.out
                    have hq := HQ.out
                    rw [Mrg.size_cons] at hq
                    have hi := HMP.out
                    rw [← HY.out, if_pos (by rw [← HN.out, HN1.out])] at hi
                    refine ⟨ls8, Mrg.tell out Y, ⟨by rw [hs8]; have := HN.out; have := HN1.out; omega⟩, ⟨⟨⟨_, HR8.out⟩, HH8.out, hi.perm HP8.out, HT8.out, ?_, ?_⟩⟩⟩
                    · rw [HP8.out.length_eq]
                      have := HN4.out
                      simp only [List.length_cons] at this
                      omega
                    · rw [hs8]
                      have := HM4.out
                      rw [Mrg.size_cons] at this
                      have := HTL.out
                      have := HQL.out
                      have := HN.out
                      have := HN1.out
                      omega
                · have d2 : decide (n = 1) = false := decide_eq_false hn1
                  have d3 : ((n : Int) == 1) = false := by rw [beq_eq_false_iff_ne]; omega
                  have HN2 : Aside0 (2 ≤ n) := ⟨by have := HLP.out; omega⟩
                  have hc9 := HR9.out.c0
                  have hr9' := HR9.out
                  rw [HM.out] at hr9'
                  have HR9' := Aside0.mk hr9'
                  clear hr9'
                  obtain ⟨u9, hcell9, hfz9⟩ := HR9.out.cell_ 0 (Nat.succ_pos _)
                  have hcn : n ≤ c := HLE.out
                  have hc1 : ¬ c = 1 := by have := HN2.out; omega
                  have hc2 : ¬ c = 0 := by have := HN2.out; omega
                  have hc3 : 1 ≤ c := by omega
                  have hc4' : 1 ≤ n := by have := HN2.out; omega
                  have hNb : (n : Int) ≤ 1000000000 := by have := HM4.out; rw [Mrg.size_cons] at this; have := HN.out; omega
                  clear hn1
                  go_wp2_with fail
                  go_region
                  all_goals
                    have hput := HR9'.out.put 0 (Nat.succ_pos _) ⟨some (ad.add 3), n - 1, c - 1⟩ l.tail (HD0.out.tail HN2.out)
                    have hset : (l :: t).set 0 l.tail = l.tail :: t := rfl
                    rw [hset] at hput
                    have had : ad.add 3 = ⟨ad.block, ad.off + 3, none⟩ := rfl
                    rw [had] at hput
                    simp only [encH] at hput
                    have hr10 := hput.mono (below_drew1 (Below.refl _ _))
                    have HR10 := Aside0.mk hr10
                    have hd10 := Heap.Dn.root (y := l.tail) (Nat.le_refl _) HH4.out (Nat.succ_pos _)
                    rw [hset] at hd10
                    have HD10 := Aside0.mk hd10
                    have hle10 : (l.tail :: t).length = (l :: t).length := rfl
                    have hne10 : ∀ k ∈ l.tail :: t, k ≠ [] := fun k hk => by
                      rcases List.mem_cons.1 hk with e | hk
                      · intro e2
                        have h1 : l.tail.length = l.length - 1 := List.length_tail
                        rw [← e, e2] at h1
                        have := HN2.out
                        have := HN.out
                        simp at h1
                        omega
                      · exact (HI4.out.left k (List.mem_cons_of_mem _ hk)).1
                    have HNE10 := Aside0.mk hne10
                    clear hput hset had hr10 hd10 hle10 hne10
                    generalize (World.setCell w9 ⟨b, 0, none⟩ (Value.slice (some ⟨ad.block, ad.off + 3, none⟩) (n - 1) (c - 1))).drew = w10 at HR10 ⊢
                    have mx := HR10.out.c0
                    go_wp2_with fail
                    refine (heap_fix HR10.out (Nat.succ_pos _) HN4.out HNE10.out HD10.out).mono ?_
                    rintro e w8 ⟨rfl, ls8, hr8, hp8, hh8, hb8⟩
                    have HT8 := Aside0.mk (out_fr HT9.out hr8.fr)
                    have HR8 := Aside0.mk hr8.base
                    have HP8 := Aside0.mk hp8
                    have HH8 := Aside0.mk hh8
                    clear hr8 hp8 hh8 hb8
                    go_wp2
                    go_roundg gk
                    case measure => omega
                    case rel =>
                      have hs8 := Mrg.size_perm HP8.out
                      rw [Mrg.size_cons] at hs8
                      have h1 : l.tail.length = l.length - 1 := List.length_tail
                      have hq := HQ.out
                      rw [Mrg.size_cons] at hq
                      have hi := HMP.out
                      rw [← HY.out, if_neg (by rw [← HN.out]; have := HN2.out; omega)] at hi
                      refine ⟨ls8, Mrg.tell out Y, ⟨by rw [hs8]; have := HN.out; have := HN2.out; omega⟩, ⟨⟨⟨_, HR8.out⟩, HH8.out, hi.perm HP8.out, HT8.out, ?_, ?_⟩⟩⟩
                      · rw [HP8.out.length_eq]
                        exact HN4.out
                      · rw [hs8]
                        have := HM4.out
                        rw [Mrg.size_cons] at this
                        have := HTL.out
                        have := HQL.out
                        have := HN.out
                        have := HN2.out
                        omega
    | succ gko =>
      have hi : i < N := by have := HI.out; omega
      have d1 : decide (i < N) = true := decide_eq_true hi
      have i0 : (0 : Int) ≤ (i : Int) := by omega
      have i1 : (i : Int) ≤ 1000000 := by have := HLEN.out; omega
      have HIN := Aside0.mk hi
      obtain ⟨ad, Ai, ci, eA, hcell, hle, hC⟩ := at_L3 HC.out (i : Int) i0 (by rw [← HN.out]; omega)
      subst eA
      rw [Int.toNat_natCast] at hcell
      have hli : rd_L3 l0 (i : Int) = Heap.g [] l0 i := by unfold rd_L3 Heap.g; rw [Int.toNat_natCast]
      rw [hli] at hcell hle hC
      have hx := HR.out.below.cell (World.block_lt_of_cell? w _ hcell) |>.trans hcell
      have HD : Aside0 (Hd w ⟨Ai, (Heap.g [] l0 i).length, ci⟩ (Heap.g [] l0 i)) := ⟨⟨rfl, hle, hC⟩⟩
      have htk : l0.take (i + 1) = l0.take i ++ [Heap.g [] l0 i] := by rw [Heap.g_of [] l0 i (by rw [← HN.out]; exact hi), List.take_succ_eq_append_getElem (by rw [← HN.out]; exact hi)]
      have HTK := Aside0.mk htk
      clear hcell hle hC hli htk
      have hw1 : wrap64 ((i : Int) + 1) = ((i + 1 : Nat) : Int) := by unfold wrap64; omega
      have HW := Aside0.mk hw1
      clear hw1
      generalize hl : Heap.g [] l0 i = l at HD HTK hx
      clear hl
      by_cases h0 : 0 < l.length
      · have HL0 := Aside0.mk h0
        have q0 : decide (0 < l.length) = true := decide_eq_true h0
        go_wp2_with fail
        refine (heap_push HR.out (by have := HLS.out; have := HIN.out; have := HLEN.out; omega) HNE.out HH.out ⟨Ai, l.length, ci⟩ l HD.out (List.length_pos_iff.1 h0)).mono ?_
        rintro e w3 ⟨rfl, v3, ls3, hr3, hp3, hh3, hb3⟩
        have HR3 := Aside0.mk hr3
        have HP3 := Aside0.mk hp3
        have HH3 := Aside0.mk hh3
        clear hr3 hp3 hh3
        go_wp2
        go_roundg gko
        case measure => omega
        case rel =>
          refine ⟨i + 1, v3, ls3, rfl, ⟨by have := HI.out; omega⟩, HR3, ⟨?_⟩, HH3⟩
          rw [HTK.out, List.filter_append, show [l].filter full = [l] by
            cases l with
            | nil => exact absurd HL0.out (by simp)
            | cons y ys => rfl]
          exact HP3.out.trans (HP.out.append_right _)
      · have q0 : decide (0 < l.length) = false := decide_eq_false h0
        have HL0 := Aside0.mk h0
        go_wp2
        go_roundg gko
        case measure => omega
        case rel =>
          refine ⟨i + 1, v, ls, rfl, ⟨by have := HI.out; omega⟩, HR, ⟨?_⟩, HH⟩
          rw [HTK.out, List.filter_append, show [l].filter full = [] by
            cases l with
            | nil => rfl
            | cons y ys => exact absurd (Nat.succ_pos _) HL0.out, List.append_nil]
          exact HP.out
end Go.Proofs.Ytkkdpkfachpjeaa.PS
