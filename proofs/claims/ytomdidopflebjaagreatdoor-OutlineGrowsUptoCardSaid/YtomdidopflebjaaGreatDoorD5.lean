/- Merged by a program of this session out of its own texts: HMadeC, HMadeR. No condition beside those in each statement. -/
import Derived.Deep.CutBlock
import Derived.Test.YtomdidopflebjaaGreatDoorD4
namespace Go.Proofs.YtomdidopflebjaaGreatDoor.PM
open Go.RowKit Go.Proofs.YtomdidopflebjaaGreatDoorW.PrintWords Go.Proofs.YtomdidopflebjaaGreatDoorW.PrintLast Go.Proofs.YtomdidopflebjaaGreatDoorW.PrintMore
theorem cellsX {W : World} {x : Nat} {f4 : Int} {f0 : ByteArray} {v : Value} (h : W.heap[x]? = some (.cells #[.int .i64 2, .int .i64 f4, .string f0, .string ⟨#[]⟩, v] 59 (0, 0))) :
    W.cell? ⟨x, 0, none⟩ = some (.int .i64 2) ∧ W.cell? ⟨x, 1, none⟩ = some (.int .i64 f4) ∧ W.cell? ⟨x, 2, none⟩ = some (.string f0) ∧ W.cell? ⟨x, 3, none⟩ = some (.string ⟨#[]⟩) ∧ W.cell? ⟨x, 4, none⟩ = some v :=
  ⟨(blk_cell h 0).trans rfl, (blk_cell h 1).trans rfl, (blk_cell h 2).trans rfl, (blk_cell h 3).trans rfl, (blk_cell h 4).trans rfl⟩
theorem cellsY {W : World} {x : Nat} {f4 : Int} {f0 : ByteArray} {v : Value} (h : W.heap[x]? = some (.cells #[.int .i64 2, .int .i64 f4, .string f0, .string ⟨#[]⟩, v, .int .i64 0, .slice none 0 0] 68 (0, 0))) :
    W.cell? ⟨x, 0, none⟩ = some (.int .i64 2) ∧ W.cell? ⟨x, 1, none⟩ = some (.int .i64 f4) ∧ W.cell? ⟨x, 2, none⟩ = some (.string f0) ∧ W.cell? ⟨x, 3, none⟩ = some (.string ⟨#[]⟩) ∧ W.cell? ⟨x, 4, none⟩ = some v ∧ W.cell? ⟨x, 5, none⟩ = some (.int .i64 0) ∧ W.cell? ⟨x, 6, none⟩ = some (.slice none 0 0) :=
  ⟨(blk_cell h 0).trans rfl, (blk_cell h 1).trans rfl, (blk_cell h 2).trans rfl, (blk_cell h 3).trans rfl, (blk_cell h 4).trans rfl, (blk_cell h 5).trans rfl, (blk_cell h 6).trans rfl⟩
theorem made_make {base base2 gT gR j c c6 c7 : Nat} {W : World} {s : MS} {A A6 A7 : Option Addr} {m : S54} (h : MadeAt base gT gR W s A6 c6 A7 c7) (hr0 : Kd.R k71 71 W base2 (fun _ => True) (.slice A j c) (attrs8 m j)) (h8 : attrs8 m j = attrs8 m 8) (hj : j ≤ m.f2.length) (hj8 : j ≤ 8) (hb : base ≤ W.heap.size) (hl : s.T.length ≤ 1000000) :
    Calls Tryz.prog 21 #[.pointer (some ⟨gT, 0, none⟩), .agg #[.int .i64 2, .int .i64 m.f4, .string m.f0, .string ⟨#[]⟩, .slice A j c]] W fun e W' => e = .returned (.int .i64 (s.T.length : Int)) ∧ MadeAt base gT gR W' ⟨s.T ++ [⟨elemOf m, loose107⟩], s.R, s.a, s.b⟩ A6 c6 A7 c7 ∧ TFrame [110, 113] W W' ∧ Below base W W' := by
  have e8 : (elemOf m).f4 = attrs8 m j := h8.symm
  have hlen : (elemOf m).f4.length = j := by rw [e8, attrs8_length m j hj]
  have hr : Kd.R k71 71 W base2 (fun _ => True) (.slice A (elemOf m).f4.length c) (elemOf m).f4 := by rw [hlen, e8]; exact hr0
  have hcall := make_any base gT W s.T (elemOf m) A c h.t hb (Kd.R_reads' hr).2.2 (Kd.R_reads' hr).2.1 (by show (1 : Int) ≤ 2; decide) (by show (2 : Int) ≤ 4; decide) hl (by rw [hlen]; omega)
  rw [hlen] at hcall
  exact hcall.mono (fun e W' h1 => ⟨h1.1, h.dom h1.2.1 h1.2.2.1, h1.2.2.1, h1.2.2.2⟩)
theorem made_rmake {base gT gR j c c6 c7 : Nat} {W : World} {s : MS} {A A6 A7 : Option Addr} {m : S54} (h : MadeAt base gT gR W s A6 c6 A7 c7) (hr0 : Kd.R k72 72 W base (okAB A6 A7) (.slice A j c) (rattrs8 m j)) (h8 : rattrs8 m j = rattrs8 m 8) (hb : base ≤ W.heap.size) (hl : s.R.length ≤ 1000000) :
    Calls Tryz.prog 24 #[.pointer (some ⟨gR, 0, none⟩), .agg #[.int .i64 2, .int .i64 m.f4, .string m.f0, .string ⟨#[]⟩, .slice A j c, .int .i64 0, .slice none 0 0]] W fun e W' => e = .returned (.int .i64 (s.R.length : Int)) ∧ MadeAt base gT gR W' ⟨s.T, s.R ++ [relemOf m], s.a, s.b⟩ A6 c6 A7 c7 ∧ TFrame [68, 105] W W' ∧ Below base W W' := by
  have hr : Kd.R k72 72 W base (okAB A6 A7) (.slice A j c) (relemOf m).f4 := by show Kd.R k72 72 W base (okAB A6 A7) (.slice A j c) (rattrs8 m 8); rw [← h8]; exact hr0
  have hcall := rmake_any base gR W s.R (relemOf m) (.slice A j c) h.r h.ok hb hr (by show (1 : Int) ≤ 2; decide) (by show (2 : Int) ≤ 4; decide) hl
  exact hcall.mono (fun e W' h1 => ⟨h1.1, h.ref h1.2.1 h1.2.2.1, h1.2.2.1, h1.2.2.2⟩)
theorem made_put {base gT gR c6 c7 K : Nat} {W : World} {T : List S110} {R : List S68} {a b : List Int} {A6 A7 : Option Addr} {m : S54} (p : Int) (h : MadeAt base gT gR W ⟨T ++ [⟨elemOf m, loose107⟩], R, a, b⟩ A6 c6 A7 c7) (hi : InvT K (T ++ [⟨elemOf m, loose107⟩])) (h1 : 0 < T.length) (hK : K ≤ 100000) :
    Calls Tryz.prog 22 #[.pointer (some ⟨gT, 0, none⟩), .int .i64 (T.length : Int), .int .i64 p, .int .i64 (-1)] W fun e W' => (∃ x, e = .returned (.int .i64 x)) ∧ MadeAt base gT gR W' ⟨putAt (T ++ [⟨elemOf m, loose107⟩]) p, R, a, b⟩ A6 c6 A7 c7 ∧ TFrame [110, 113] W W' ∧ Below base W W' := by
  have hlen : (T ++ [(⟨elemOf m, loose107⟩ : S110)]).length - 1 = T.length := by simp
  have hcall := put_any base gT W (T ++ [⟨elemOf m, loose107⟩]) p h.t hi.wf (by simp; omega) (by have := hi.len; omega) (by rw [hlen, rd_app]; rw [if_neg (by omega), if_pos rfl]; rfl)
  rw [hlen] at hcall
  exact hcall.mono (fun e W' h1 => ⟨h1.1, h.dom h1.2.1 h1.2.2.1, h1.2.2.1, h1.2.2.2⟩)
theorem made_rput {base gT gR c6 c7 K : Nat} {W : World} {T : List S110} {R : List S68} {a b : List Int} {A6 A7 : Option Addr} {m : S54} (p : Int) (h : MadeAt base gT gR W ⟨T, R ++ [relemOf m], a, b⟩ A6 c6 A7 c7) (hi : InvR K (R ++ [relemOf m])) (h1 : 0 < R.length) (hK : K ≤ 100000) :
    Calls Tryz.prog 25 #[.pointer (some ⟨gR, 0, none⟩), .int .i64 (R.length : Int), .int .i64 p, .int .i64 (-1)] W fun e W' => (∃ x, e = .returned (.bool x)) ∧ MadeAt base gT gR W' ⟨T, rputAt (R ++ [relemOf m]) p, a, b⟩ A6 c6 A7 c7 ∧ TFrame [68, 105] W W' ∧ Below base W W' := by
  have hlen : (R ++ [relemOf m]).length - 1 = R.length := by simp
  have hcall := rput_any base gR K W (R ++ [relemOf m]) p h.r h.ok hi.wf (by omega) (by simp; omega) (by have := hi.len; omega) (by rw [hlen, rrd_app]; rw [if_neg (by omega), if_pos rfl]; rfl)
  rw [hlen] at hcall
  exact hcall.mono (fun e W' h1 => ⟨h1.1, h.ref h1.2.1 h1.2.2.1, h1.2.2.1, h1.2.2.2⟩)
theorem made_write {base gT gR c6 c7 K : Nat} {W : World} {s : MS} {A6 A7 : Option Addr} (v at_ p : Int) (h : MadeAt base gT gR W s A6 c6 A7 c7) (hi : InvT K s.T) (hK : K ≤ 100000) (h0 : 0 ≤ v) (h1 : v ≤ 127) (hb : base ≤ W.heap.size) :
    Calls Tryz.prog 26 #[.pointer (some ⟨gT, 0, none⟩), .int .i64 v, .int .i64 at_, .int .i64 p, .int .i64 (-1)] W fun e W' => (∃ x, e = .returned (.int .i64 x)) ∧ MadeAt base gT gR W' ⟨writeAt s.T v at_ p, s.R, s.a, s.b⟩ A6 c6 A7 c7 ∧ TFrame [110, 113] W W' ∧ Below base W W' :=
  (write_any base gT W s.T v at_ p h.t hb hi.wf h0 h1 (by have := hi.len; omega) (fun i hk => Nat.le_trans (hi.txt' i hk) (by omega))).mono (fun e W' h1 => ⟨h1.1, h.dom h1.2.1 h1.2.2.1, h1.2.2.1, h1.2.2.2⟩)
theorem made_rwrite {base gT gR c6 c7 K : Nat} {W : World} {s : MS} {A6 A7 : Option Addr} (v at_ p : Int) (h : MadeAt base gT gR W s A6 c6 A7 c7) (hi : InvR K s.R) (hK : K ≤ 100000) (h0 : 0 ≤ v) (h1 : v ≤ 127) (hb : base ≤ W.heap.size) :
    Calls Tryz.prog 27 #[.pointer (some ⟨gR, 0, none⟩), .int .i64 v, .int .i64 at_, .int .i64 p, .int .i64 (-1)] W fun e W' => (∃ x, e = .returned (.bool x)) ∧ MadeAt base gT gR W' ⟨s.T, rwriteAt s.R v at_ p, s.a, s.b⟩ A6 c6 A7 c7 ∧ TFrame [68, 105] W W' ∧ Below base W W' :=
  (rwrite_any base gR K W s.R v at_ p h.r h.ok hb hi.wf (by omega) (by have := hi.len; omega) h0 h1 (fun i hk => Nat.le_trans (hi.txt' i hk) (by omega))).mono (fun e W' h1 => ⟨h1.1, h.ref h1.2.1 h1.2.2.1, h1.2.2.1, h1.2.2.2⟩)
theorem C_int_at {w : World} {A : Option Addr} {n : Nat} {xs : List Int} (h : Kd.C (Kd.int .i64) w A n xs) (i : Int) (h0 : 0 ≤ i) (h1 : i < n) : ∃ ad, A = some ad ∧ w.cell? (ad.add i.toNat) = some (.int .i64 (rd xs i)) := by
  obtain ⟨ad, c, e, _, hK, hc0⟩ := Kd.C_get h (0 : Int) i h0 h1
  have hc : ∀ j u, c[j]? = some u → w.cell? (ad.add (i.toNat * 1 + j)) = some u := hc0
  obtain rfl : c = [.int .i64 (rd xs i)] := hK
  exact ⟨ad, e, by have hq := hc 0 _ rfl; rwa [Nat.mul_one, Nat.add_zero] at hq⟩
theorem own_len (A : Option Addr) (n c n' c' : Nat) : (Value.slice A n c).ownBlock = (Value.slice A n' c').ownBlock := by cases A <;> rfl
theorem MadeAt.rowOk {α : Type} {d : Kd α} {e base base2 gT gR c6 c7 : Nat} {W : World} {s : MS} {A6 A7 : Option Addr} {u : Value} {xs : List α} (h : MadeAt base gT gR W s A6 c6 A7 c7) (hr : d.R e W base2 (fun _ => True) u xs) (ht : ∀ q, q ∈ e :: d.E → q ≠ 3) (hb : base ≤ base2) : d.R e W base (okAB A6 A7) u xs := by
  have h1 := Kd.R_apartR (Kd.R_apartR (Kd.R_lower hr hb) h.a ht) h.b ht
  exact Kd.R_mono h1 (fun k hk => ⟨by rw [own_len A6 0 0 s.a.length c6]; exact hk.1.2, by rw [own_len A7 0 0 s.b.length c7]; exact hk.2⟩)
theorem made_appendA {base gT gR c6 c7 n : Nat} {W w1 : World} {s : MS} {A6 A7 : Option Addr} {v1 : Value} {x : Int} (h : MadeAt base gT gR W s A6 c6 A7 c7) (hn : s.a.length = n) (hR : (Kd.int .i64).R 3 w1 base (fun _ => True) v1 (s.a ++ [x])) (hg : W.grownBy w1 (Value.slice A6 n c6).ownBlock) (hat : v1.ownBlock = (Value.slice A6 n c6).ownBlock ∨ ∃ b, v1.ownBlock = some b ∧ W.heap.size ≤ b) :
    ∃ A c, v1 = .slice A (n + 1) c ∧ MadeAt base gT gR w1 ⟨s.T, s.R, s.a ++ [x], s.b⟩ A c A7 c7 := by
  subst hn
  obtain ⟨A, c, e⟩ := Kd.R_slice hR
  subst e
  have hl : (s.a ++ [x]).length = s.a.length + 1 := by simp
  rw [hl] at hR hat ⊢
  refine ⟨A, c, rfl, ?_⟩
  have hty := Kd.R_typed h.a
  have hf : TFrame [3] W w1 := TFrame.grown hg (fun k hk => by obtain ⟨cs, hc⟩ := hty k hk; exact ⟨cs, _, _, hc, by decide⟩)
  refine ⟨TreeAt.frame h.t hf (by decide), ?_, by show (Kd.int .i64).R 3 w1 base (fun _ => True) (.slice A (s.a ++ [x]).length c) (s.a ++ [x]); rw [hl]; exact hR, Kd.R_grown2 h.b rfl hg (fun k hk => h.ne k hk), ?_⟩
  · obtain ⟨hlow, v, hb, hr⟩ := h.r
    refine ⟨hlow, v, hf.blk hb (by decide), ?_⟩
    have h1 := Kd.R_grown (Kd.R_bound hr) hg (fun k hk => by rw [own_len A6 s.a.length c6 0 0]; exact hk.1.1)
    refine Kd.R_mono h1 (fun k hk => ⟨?_, hk.1.2⟩)
    rw [own_len A 0 0 (s.a.length + 1) c]
    rcases hat with hat | ⟨b, hb1, hb2⟩
    · rw [hat, own_len A6 s.a.length c6 0 0]; exact hk.1.1
    · rw [hb1]
      intro e
      injection e with e
      have := hk.2.2.1
      omega
  · intro k hk e
    have hk' : (Value.slice A (s.a.length + 1) c).ownBlock = some k := by rw [← hk]; exact own_len _ _ _ _ _
    rcases hat with hat | ⟨b, hb1, hb2⟩
    · rw [hat] at hk'
      exact h.ne k hk' e
    · rw [hb1] at hk'
      injection hk' with hk'
      have := Kd.R_lt h.b k e.symm
      omega
theorem made_appendB {base gT gR c6 c7 n : Nat} {W w1 : World} {s : MS} {A6 A7 : Option Addr} {v1 : Value} {x : Int} (h : MadeAt base gT gR W s A6 c6 A7 c7) (hn : s.b.length = n) (hR : (Kd.int .i64).R 3 w1 base (fun _ => True) v1 (s.b ++ [x])) (hg : W.grownBy w1 (Value.slice A7 n c7).ownBlock) (hat : v1.ownBlock = (Value.slice A7 n c7).ownBlock ∨ ∃ b, v1.ownBlock = some b ∧ W.heap.size ≤ b) :
    ∃ A c, v1 = .slice A (n + 1) c ∧ MadeAt base gT gR w1 ⟨s.T, s.R, s.a, s.b ++ [x]⟩ A6 c6 A c := by
  subst hn
  obtain ⟨A, c, e⟩ := Kd.R_slice hR
  subst e
  have hl : (s.b ++ [x]).length = s.b.length + 1 := by simp
  rw [hl] at hR hat ⊢
  refine ⟨A, c, rfl, ?_⟩
  have hty := Kd.R_typed h.b
  have hf : TFrame [3] W w1 := TFrame.grown hg (fun k hk => by obtain ⟨cs, hc⟩ := hty k hk; exact ⟨cs, _, _, hc, by decide⟩)
  refine ⟨TreeAt.frame h.t hf (by decide), ?_, Kd.R_grown2 h.a rfl hg (fun k hk e => h.ne k e.symm hk.symm), by show (Kd.int .i64).R 3 w1 base (fun _ => True) (.slice A (s.b ++ [x]).length c) (s.b ++ [x]); rw [hl]; exact hR, ?_⟩
  · obtain ⟨hlow, v, hb, hr⟩ := h.r
    refine ⟨hlow, v, hf.blk hb (by decide), ?_⟩
    have h1 := Kd.R_grown (Kd.R_bound hr) hg (fun k hk => by rw [own_len A7 s.b.length c7 0 0]; exact hk.1.2)
    refine Kd.R_mono h1 (fun k hk => ⟨hk.1.1, ?_⟩)
    rw [own_len A 0 0 (s.b.length + 1) c]
    rcases hat with hat | ⟨b, hb1, hb2⟩
    · rw [hat, own_len A7 s.b.length c7 0 0]; exact hk.1.2
    · rw [hb1]
      intro e
      injection e with e
      have := hk.2.2.1
      omega
  · intro k hk e
    have e' : some k = (Value.slice A (s.b.length + 1) c).ownBlock := by rw [e]; exact own_len _ _ _ _ _
    rcases hat with hat | ⟨b, hb1, hb2⟩
    · rw [hat] at e'
      exact h.ne k hk e'
    · rw [hb1] at e'
      injection e' with e'
      have := Kd.R_lt h.a k hk
      omega
def chr (m : S54) (j : Nat) : Int := bt m.f1 (j : Int) % 128
theorem chars_succ (m : S54) (j : Nat) (hj : j < m.f1.size) : chars m (j + 1) = chars m j ++ [chr m j] := by
  have hl : j < m.f1.data.toList.length := by rw [data_length]; exact hj
  have e : bt m.f1 (j : Int) = ((m.f1.data.toList[j]'hl).toNat : Int) := by
    unfold bt
    rw [dif_pos (by rw [Int.toNat_natCast]; exact hj)]
    rfl
  unfold chars chr
  rw [List.take_add_one, List.getElem?_eq_getElem hl, List.map_append, e]
  rfl
theorem chr_low (m : S54) (j : Nat) : 0 ≤ chr m j ∧ chr m j ≤ 127 := by unfold chr; omega
theorem chr_val (m : S54) (j : Nat) (hj : j < m.f1.size) : IntKind.i64.wrap (bits BinOp.and IntKind.u8 ((m.f1[j]'hj).toNat : Int) 127) = chr m j := by
  have h0 : (0 : Int) ≤ ((m.f1[j]'hj).toNat : Int) := by omega
  have h1 : ((m.f1[j]'hj).toNat : Int) < 256 := by have := (m.f1[j]'hj).toNat_lt; omega
  have e : bt m.f1 (j : Int) = ((m.f1[j]'hj).toNat : Int) := by
    unfold bt
    rw [dif_pos (by rw [Int.toNat_natCast]; exact hj)]
    rfl
  rw [show bits BinOp.and IntKind.u8 ((m.f1[j]'hj).toNat : Int) 127 = ((m.f1[j]'hj).toNat : Int) % 128 from bits_mask .u8 8 (by decide) wraps_u8 7 (by decide) _ h0 h1]
  unfold chr
  rw [e, IntKind.wrap_i64]
  omega
theorem chars_end (m : S54) (j : Nat) (hj : j = min m.f1.size 6) : chars m j = chars m 6 := by
  unfold chars
  rcases Nat.le_total m.f1.size 6 with h | h
  · rw [List.take_of_length_le (by rw [data_length]; omega), List.take_of_length_le (by rw [data_length]; exact h)]
  · rw [hj, Nat.min_eq_right h]
theorem writesT_snoc (T : List S110) (cs : List Int) (v at_ n : Int) : writesT T (cs ++ [v]) at_ n = writeAt (writesT T cs at_ n) v at_ n := by unfold writesT; rw [List.foldl_append]; rfl
theorem writesR_snoc (T : List S68) (cs : List Int) (v at_ n : Int) : writesR T (cs ++ [v]) at_ n = rwriteAt (writesR T cs at_ n) v at_ n := by unfold writesR; rw [List.foldl_append]; rfl
theorem chars_zero (m : S54) : chars m 0 = [] := by unfold chars; rw [List.take_zero]; rfl
theorem MadeAt.rowA {base gT gR c6 c7 n : Nat} {W : World} {T : List S110} {R : List S68} {a b : List Int} {A6 A7 : Option Addr} (h : MadeAt base gT gR W ⟨T, R, a, b⟩ A6 c6 A7 c7) (hn : a.length = n) : (Kd.int .i64).R 3 W base (fun _ => True) (.slice A6 n c6) a := by
  subst hn
  exact h.a
theorem MadeAt.rowB {base gT gR c6 c7 n : Nat} {W : World} {T : List S110} {R : List S68} {a b : List Int} {A6 A7 : Option Addr} (h : MadeAt base gT gR W ⟨T, R, a, b⟩ A6 c6 A7 c7) (hn : b.length = n) : (Kd.int .i64).R 3 W base (fun _ => True) (.slice A7 n c7) b := by
  subst hn
  exact h.b
theorem spot_eq (f : Int) (i : Nat) (hi : i < 60) : (wrap64 (f.tmod ((i : Int) + 1) + ((i : Int) + 1))).tmod ((i : Int) + 1) = spot (i + 1) f ∧ 0 ≤ spot (i + 1) f ∧ spot (i + 1) f < (i : Int) + 1 := by
  have h1 : f.tmod ((i : Int) + 1) < (i : Int) + 1 := Int.tmod_lt_of_pos _ (by omega)
  have h2 : -((i : Int) + 1) < f.tmod ((i : Int) + 1) := Int.lt_tmod_of_pos _ (by omega)
  have hw : wrap64 (f.tmod ((i : Int) + 1) + ((i : Int) + 1)) = f.tmod ((i : Int) + 1) + ((i : Int) + 1) := by unfold wrap64; omega
  have e : ((i + 1 : Nat) : Int) = (i : Int) + 1 := by omega
  unfold spot
  rw [e, hw]
  exact ⟨rfl, Int.tmod_nonneg _ (by omega), Int.tmod_lt_of_pos _ (by omega)⟩
end Go.Proofs.YtomdidopflebjaaGreatDoor.PM
namespace Go.Proofs.YtomdidopflebjaaGreatDoor.PM
open Go.RowKit
def findR (n : Nat) : Code → Option Code
  | .region i ops d => if i = n then some (.region i ops d) else none
  | .seq a b => match findR n a with
    | some c => some c
    | none => findR n b
  | .cond _ a b => match findR n a with
    | some c => some c
    | none => findR n b
  | .block _ c => findR n c
  | .loop c => findR n c
  | .scope c => findR n c
  | _ => none
noncomputable def regC (n : Nat) : Code := (Tryz.f8.body.bind (findR n)).getD .skip
end Go.Proofs.YtomdidopflebjaaGreatDoor.PM
