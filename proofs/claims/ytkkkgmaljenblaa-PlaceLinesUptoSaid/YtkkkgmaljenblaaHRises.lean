/- The walks of beadlelaw03.speaks and beadlelaw03.PlaceRises: what they answer, in plain words. Conditions: those of each statement. -/
import Derived.Test.YtkkkgmaljenblaaHAt
import Derived.Test.YtkkkgmaljenblaaLineCol
import Derived.IntWalk
import Derived.Laws.BitsLemmas
namespace Go.Proofs.Ytkkkgmaljenblaa.PL
open Go.RowKit Go.Proofs.YtkkkgmaljenblaaW.PrintWords Go.Proofs.YtkkkgmaljenblaaW.PrintLast Go.Proofs.YtkkkgmaljenblaaW.PrintMore

theorem infoR27 : (Try.prog.info? 27).map (fun i => (i.zero, i.size, i.bytes)) = some (some (.agg #[.int .i64 0, .int .i64 0]), 2, 16) := by kernel_rfl
theorem i64_and3 (n : Int) : bits .and .i64 n 3 = n % 4 := by
  have h127 : (BitVec.ofInt 64 3).toNat = 2 ^ 2 - 1 := by decide
  have key : (BitVec.ofInt 64 n &&& BitVec.ofInt 64 3).toNat = (n % ((2 ^ 64 : Nat) : Int)).toNat % 2 ^ 2 := by
    rw [BitVec.toNat_and, BitVec.toNat_ofInt, h127, Nat.and_two_pow_sub_one_eq_mod]
  show IntKind.i64.wrap ((BitVec.ofInt 64 n &&& BitVec.ofInt 64 3).toNat : Nat) = n % 4
  rw [key, IntKind.wrap_i64]
  omega
theorem at_int {w : World} {A : Option Addr} {n : Nat} {xs : List Int} (h : Kd.C (Kd.int .i64) w A n xs) (i : Int) (h0 : 0 ≤ i) (h1 : i < n) : ∃ ad, A = some ad ∧ w.cell? (ad.add i.toNat) = some (.int .i64 (xs.getD i.toNat 0)) := by
  obtain ⟨ad, c, e, _, hK, hc⟩ := Kd.C_get h 0 i h0 h1
  have hK' : c = [.int .i64 (xs.getD i.toNat 0)] := hK
  subst hK'
  refine ⟨ad, e, ?_⟩
  have := hc 0 _ rfl
  simpa [Kd.int, Kd.scalar] using this
theorem at_bool {w : World} {A : Option Addr} {n : Nat} {xs : List Bool} (h : Kd.C Kd.bool w A n xs) (i : Int) (h0 : 0 ≤ i) (h1 : i < n) : ∃ ad, A = some ad ∧ w.cell? (ad.add i.toNat) = some (.bool (xs.getD i.toNat false)) := by
  obtain ⟨ad, c, e, _, hK, hc⟩ := Kd.C_get h false i h0 h1
  have hK' : c = [.bool (xs.getD i.toNat false)] := hK
  subst hK'
  refine ⟨ad, e, ?_⟩
  have := hc 0 _ rfl
  simpa [Kd.bool, Kd.scalar] using this

/-- A row of the call's own whose places rise: what New and At say of it. -/
theorem New_any (A : Option Addr) (c : Nat) (xs : List S27) (w : World) (hr : Kd.C k27 w A xs.length xs) (hc : xs.length ≤ c) (hl : xs.length ≤ 1048576) :
    Calls Try.prog 6 #[.slice A xs.length c] w fun e w' => e = .returned (.pointer (some ⟨w.heap.size, 0, none⟩)) ∧ Below w.heap.size w w' ∧ ∃ A c A' c', TabAt w' w.heap.size (plc xs xs.length) (nl xs xs.length) A c A' c' :=
  (New_calls A c xs w hr hc hl).mono fun _ _ ⟨he, _, _, h⟩ => ⟨he, h.bel, tab_of_new h⟩

theorem nl_rises (xs : List S27) (k : Nat) : (nl xs k).Pairwise (· ≤ ·) := by
  unfold nl
  rw [List.pairwise_map]
  refine List.Pairwise.filter _ (List.Pairwise.imp (R := (· < ·)) (fun h => ?_) List.pairwise_lt_range)
  simp; omega
theorem nl_mem (xs : List S27) (k : Nat) : ∀ y ∈ nl xs k, 0 ≤ y ∧ y < k := by
  intro y hy
  unfold nl at hy
  obtain ⟨j, hj, rfl⟩ := List.mem_map.1 hy
  have := List.mem_range.1 (List.mem_filter.1 hj).1
  simp; omega


set_option maxHeartbeats 1000000 in
theorem speaks_calls (w : World) : Calls Try.prog 5 #[] w fun e w' => e = .returned (.bool true) ∧ Below w.heap.size w w' := by
  have hC : ∀ W : World, Kd.C k27 (W.alloc (.cells #[.int .i64 10, .int .i64 0] 27)) (some ⟨W.heap.size, 0, none⟩) 1 [⟨10, 0⟩] := by
    intro W
    refine ⟨rfl, by simp, fun _ => ⟨_, rfl, fun j p hj => ?_⟩⟩
    match j, hj with
    | 0, hj =>
      simp at hj; subst hj
      refine ⟨_, rfl, k27_mk _ _, fun i u hu => ?_⟩
      rw [add_plain]
      refine cell_of_block (heap_alloc_new _ _) _ _ ?_
      match i, hu with
      | 0, hu => simpa using hu
      | 1, hu => simpa using hu
    | j + 1, hj => simp at hj
  have e1 : plc [(⟨10, 0⟩ : S27)] 1 = [0] := rfl
  have e2 : nl [(⟨10, 0⟩ : S27)] 1 = [0] := rfl
  have e3 : lineCol [0] [0] 1 = (2, 1) := rfl
  have hN : Calls Try.prog 6 #[.slice (some ⟨w.heap.size, 0, none⟩) 1 1] (w.alloc (.cells #[.int .i64 10, .int .i64 0] 27)) (fun e w' => e = .returned (.pointer (some ⟨w.heap.size + 1, 0, none⟩)) ∧ Aside0 (Below w.heap.size w w') ∧ ∃ A c A' c', Aside0 (TabAt w' (w.heap.size + 1) [0] [0] A c A' c')) := by
    have h := New_any (some ⟨w.heap.size, 0, none⟩) 1 [⟨10, 0⟩] _ (hC w) (by simp) (by simp)
    refine h.mono fun e w' ⟨he, hb, A, c, A', c', ht⟩ => ⟨?_, ⟨?_⟩, A, c, A', c', ⟨?_⟩⟩
    · rw [he, World.size_alloc]
    · exact below_then ((Below.refl _ w).alloc (Nat.le_refl _) _) (by simp) hb
    · rw [World.size_alloc] at ht
      exact ht
  have HN := Aside0.mk hN
  clear hN hC e1 e2
  go_enter Try.func5, Try.ntmps5
  go_wp2_with fail
  refine HN.out.mono ?_
  rintro e w1 ⟨rfl, HB, A, c, A', c', HT⟩
  go_wp2_with fail
  refine (At_calls _ _ _ _ _ _ _ _ _ HT.out (by simp) (by simp) (by simp) (by simp) (by simp)).mono ?_
  rintro e w2 ⟨rfl, hb2⟩
  have HB2 := Aside0.mk hb2
  clear hb2
  rw [e3]
  go_wp2
  go_ret
  exact ⟨rfl, below_then HB.out HB.out.size HB2.out⟩

/-- The places of a law's scalars: 1 to 4 apart. -/
def pR (gaps : List Int) : Nat → Int
  | 0 => 0
  | k + 1 => pR gaps k + (1 + gaps.getD k 0 % 4)
def rl (gaps : List Int) (lines : List Bool) (k : Nat) : List S27 := (List.range k).map fun i => ⟨if lines.getD i false = true then 10 else 97, pR gaps (i + 1)⟩
theorem rl_len (gaps : List Int) (lines : List Bool) (k : Nat) : (rl gaps lines k).length = k := by simp [rl]
theorem rl_snoc (gaps : List Int) (lines : List Bool) (k : Nat) : rl gaps lines (k + 1) = rl gaps lines k ++ [⟨if lines.getD k false = true then 10 else 97, pR gaps (k + 1)⟩] := by
  simp [rl, List.range_succ]
theorem pR_bd (gaps : List Int) (k : Nat) : (k : Int) ≤ pR gaps k ∧ pR gaps k ≤ 4 * k := by
  induction k with
  | zero => simp [pR]
  | succ k ih => simp only [pR]; omega

theorem rl_get (gaps : List Int) (lines : List Bool) (n : Nat) (j : Nat) (h : j < n) : (rd_T27 (rl gaps lines n) (j : Int)).f1 = pR gaps (j + 1) := by
  unfold rd_T27 rl
  rw [List.getD_eq_getElem?_getD, List.getElem?_map, Int.toNat_natCast, List.getElem?_range h]
  rfl
theorem plc_rl (gaps : List Int) (lines : List Bool) (n : Nat) : plc (rl gaps lines n) n = (List.range n).map (fun i => pR gaps (i + 1)) := by
  unfold plc
  rw [List.take_of_length_le (by rw [rl_len]; exact Nat.le_refl _)]
  simp [rl]
theorem pR_lt (gaps : List Int) (i j : Nat) (h : i < j) : pR gaps i < pR gaps j := by
  induction j with
  | zero => omega
  | succ j ih =>
    simp only [pR]
    rcases Nat.lt_or_ge i j with h2 | h2
    · have := ih h2; omega
    · obtain rfl : i = j := by omega
      omega
theorem plc_rises (gaps : List Int) (lines : List Bool) (n : Nat) : (plc (rl gaps lines n) n).Pairwise (· < ·) := by
  rw [plc_rl, List.pairwise_map]
  exact List.Pairwise.imp (R := (· < ·)) (fun h => pR_lt gaps _ _ (by omega)) List.pairwise_lt_range
theorem nl_lt (xs : List S27) (k : Nat) : (nl xs k).Pairwise (· < ·) := by
  unfold nl
  rw [List.pairwise_map]
  refine List.Pairwise.filter _ (List.Pairwise.imp (R := (· < ·)) (fun h => ?_) List.pairwise_lt_range)
  simp; omega
/-- Is a place among the first k? -/
def thB (y : Int) (xs : List S27) (k : Nat) : Bool := (List.range k).any fun j : Nat => (rd_T27 xs (j : Int)).f1 == y
theorem thB_succ (y : Int) (xs : List S27) (k : Int) (h0 : 0 ≤ k) : thB y xs (k.toNat + 1) = (thB y xs k.toNat || ((rd_T27 xs k).f1 == y)) := by
  unfold thB
  rw [List.range_succ, List.any_append]
  have e : ((k.toNat : Nat) : Int) = k := by omega
  simp [e]
theorem thB_iff (y : Int) (xs : List S27) : thB y xs xs.length = true ↔ y ∈ plc xs xs.length := by
  unfold thB plc
  rw [List.take_length, List.any_eq_true]
  constructor
  · rintro ⟨j, hj, h⟩
    have hj' := List.mem_range.1 hj
    have h2 : (rd_T27 xs (j : Int)).f1 = y := by simpa using h
    rw [← h2]
    refine List.mem_map.2 ⟨xs[j], List.getElem_mem _, ?_⟩
    unfold rd_T27
    rw [List.getD_eq_getElem?_getD, Int.toNat_natCast, List.getElem?_eq_getElem hj']
    rfl
  · intro h
    obtain ⟨z, hz, rfl⟩ := List.mem_map.1 h
    obtain ⟨j, hj, rfl⟩ := List.getElem_of_mem hz
    refine ⟨j, List.mem_range.2 hj, ?_⟩
    unfold rd_T27
    rw [List.getD_eq_getElem?_getD, Int.toNat_natCast, List.getElem?_eq_getElem hj]
    simp
theorem line_bd (ps ls : List Int) (y : Int) (N : Nat) (h1 : ps.length ≤ N) (h2 : ls.length ≤ N) (h3 : ∀ z ∈ ls, 0 ≤ z ∧ z ≤ N) : 1 ≤ (lineCol ps ls y).1 ∧ (lineCol ps ls y).1 ≤ N + 1 ∧ -(N : Int) ≤ (lineCol ps ls y).2 ∧ (lineCol ps ls y).2 ≤ N + 1 := by
  have b1 := below_le ps y
  have b2 := below_le ls (below ps y : Int)
  unfold lineCol
  by_cases h0 : below ls (below ps y : Int) = 0
  · rw [if_pos h0]
    refine ⟨by simp, ?_, ?_, ?_⟩ <;> simp only <;> omega
  · rw [if_neg h0]
    have hz : ls.getD (below ls (below ps y : Int) - 1) 0 ∈ ls := by
      rw [List.getD_eq_getElem?_getD, List.getElem?_eq_getElem (by omega)]
      exact List.getElem_mem _
    have := h3 _ hz
    refine ⟨?_, ?_, ?_, ?_⟩ <;> simp only <;> omega
structure RI (w wr : World) (gaps : List Int) (lines : List Bool) (k : Nat) (v : Value) : Prop where
  own : Kd.R k27 27 wr w.heap.size (fun _ => True) v (rl gaps lines k)
  bel : Below w.heap.size w wr

set_option maxRecDepth 100000 in
set_option maxHeartbeats 4000000 in
theorem Rises_walk (A0 : Option Addr) (c0 : Nat) (gaps : List Int) (A1 : Option Addr) (c1 : Nat) (lines : List Bool) (x : Int) (w : World) (hg : Kd.C (Kd.int .i64) w A0 gaps.length gaps) (hn : Kd.C Kd.bool w A1 lines.length lines) :
    Calls Try.prog 4 #[.slice A0 gaps.length c0, .slice A1 lines.length c1, .int .i64 x] w fun e w' => e = .returned (.bool true) ∧ Below w.heap.size w w' := by
  have HG := Aside0.mk hg
  have HN := Aside0.mk hn
  have hgl := hg.2.1
  have hnl := hn.2.1
  clear hg hn
  go_enter Try.func4, Try.ntmps4
  go_wp2_with fail
  refine (speaks_calls _).mono ?_
  rintro e w1 ⟨rfl, hb1⟩
  have HB1 := Aside0.mk hb1
  clear hb1
  go_wp2_with fail
  go_loopg [7, 8, 9] gaps.length (fun kq v p i wr => ∃ (k : Int), i = .int .i64 k ∧ p = .int .i64 (pR gaps k.toNat) ∧ 0 ≤ k ∧ k ≤ gaps.length ∧ k ≤ lines.length ∧ k ≤ 200 ∧ Aside0 (RI w wr gaps lines k.toNat v) ∧ Aside0 ((kq : Int) + k = gaps.length))
  case atStart =>
    exact ⟨0, rfl, rfl, by omega, by omega, by omega, by omega, ⟨⟨Kd.R_nil _ _ _ _ _, HB1.out⟩⟩, ⟨by omega⟩⟩
  case round =>
    obtain ⟨k, rfl, rfl, hk0, hk1, hk2, hk3, HI, HM⟩ := hrel
    obtain ⟨hp0, hp1⟩ := pR_bd gaps k.toNat
    by_cases hlt : k < (gaps.length : Int) ∧ k < (lines.length : Int) ∧ k < 200
    · obtain ⟨hl1, hl2, hl3⟩ := hlt
      obtain ⟨ad, e0, hx0⟩ := at_int (Kd.C_below HG.out HI.out.bel) k hk0 hl1
      obtain ⟨bd, e1, hx1⟩ := at_bool (Kd.C_below HN.out HI.out.bel) k hk0 hl2
      subst e0 e1
      obtain ⟨n, hn⟩ : ∃ n, n = gaps.getD k.toNat 0 := ⟨_, rfl⟩
      obtain ⟨l, hl⟩ : ∃ l, l = lines.getD k.toNat false := ⟨_, rfl⟩
      rw [← hn] at hx0
      rw [← hl] at hx1
      have hand := i64_and3 n
      have hmod : 0 ≤ n % 4 ∧ n % 4 < 4 := by omega
      obtain ⟨g, hg⟩ : ∃ g, g = n % 4 := ⟨_, rfl⟩
      rw [← hg] at hand hmod
      obtain ⟨hg0, hg1⟩ := hmod
      obtain ⟨p, hp⟩ : ∃ p, p = pR gaps k.toNat := ⟨_, rfl⟩
      rw [← hp] at hp0 hp1 ⊢
      have hpn : pR gaps (k.toNat + 1) = p + (1 + g) := by rw [pR, ← hp, ← hn, hg]
      have hsn := rl_snoc gaps lines k.toNat
      rw [← hl, hpn] at hsn
      have HP := Aside0.mk hpn
      have HS := Aside0.mk hsn
      clear hn hl hg hp hpn hsn
      have HK := Aside0.mk hk0
      have HL := Aside0.mk (And.intro hl1 (And.intro hl2 hl3))
      have hq0 := eq_true hk0
      have hq1 := eq_true hl1
      have hq2 := eq_true hl2
      have hkA : -1 < k := by omega
      have hd1 : decide (k < (gaps.length : Int)) = true := decide_eq_true hl1
      have hd2 : decide (k < (lines.length : Int)) = true := decide_eq_true hl2
      have hd3 : decide (k < 200) = true := decide_eq_true hl3
      cases l with
      | true =>
        go_wp2_with (at_builtin; refine Kd.R_append k27 (w0 := w) w.heap.size rfl (.tmp 48) (.tmp 53) 24 27 (.agg #[(.int .i64 0), (.int .i64 0)]) 16 rfl Try.underlying24 infoR27 rfl (by decide) (by omega) _ (rl gaps lines k.toNat) ⟨10, p + (1 + g)⟩ [.int .i64 10, .int .i64 (p + (1 + g))] (fun _ => True) (fun _ => False) rfl rfl (k27_mkM _ _ _ _) (fun _ hk => hk.elim) (fun _ _ => trivial) HI.out.own HI.out.bel HI.out.bel.size (by rw [rl_len]; omega) ?_; intro v1 w2 hown hbel _ _; have HO := Aside0.mk hown; have HBL := Aside0.mk hbel; clear hown hbel)
        go_roundg (gk - 1)
        case measure => have := HM.out; have := HL.out; omega
        case rel => exact ⟨k + 1, rfl, by rw [show (k + 1).toNat = k.toNat + 1 from by have := HK.out; omega, HP.out], by have := HK.out; omega, by have := HL.out; omega, by have := HL.out; omega, by have := HL.out; omega, ⟨⟨by rw [show (k + 1).toNat = k.toNat + 1 from by have := HK.out; omega, HS.out]; exact HO.out, HBL.out⟩⟩, ⟨by have := HM.out; have := HL.out; omega⟩⟩
      | false =>
        go_wp2_with (at_builtin; refine Kd.R_append k27 (w0 := w) w.heap.size rfl (.tmp 48) (.tmp 53) 24 27 (.agg #[(.int .i64 0), (.int .i64 0)]) 16 rfl Try.underlying24 infoR27 rfl (by decide) (by omega) _ (rl gaps lines k.toNat) ⟨97, p + (1 + g)⟩ [.int .i64 97, .int .i64 (p + (1 + g))] (fun _ => True) (fun _ => False) rfl rfl (k27_mkM _ _ _ _) (fun _ hk => hk.elim) (fun _ _ => trivial) HI.out.own HI.out.bel HI.out.bel.size (by rw [rl_len]; omega) ?_; intro v1 w2 hown hbel _ _; have HO := Aside0.mk hown; have HBL := Aside0.mk hbel; clear hown hbel)
        go_roundg (gk - 1)
        case measure => have := HM.out; have := HL.out; omega
        case rel => exact ⟨k + 1, rfl, by rw [show (k + 1).toNat = k.toNat + 1 from by have := HK.out; omega, HP.out], by have := HK.out; omega, by have := HL.out; omega, by have := HL.out; omega, by have := HL.out; omega, ⟨⟨by rw [show (k + 1).toNat = k.toNat + 1 from by have := HK.out; omega, HS.out]; exact HO.out, HBL.out⟩⟩, ⟨by have := HM.out; have := HL.out; omega⟩⟩
    · obtain ⟨hq0, hq1⟩ : (k : Int) = (k.toNat : Int) ∧ k.toNat ≤ 200 := by omega
      obtain ⟨n, hn⟩ : ∃ n, n = k.toNat := ⟨_, rfl⟩
      rw [← hn] at hq0 hq1 hp0 hp1 HI ⊢
      obtain rfl := hq0
      obtain ⟨xs, hxs⟩ : ∃ xs, xs = rl gaps lines n := ⟨_, rfl⟩
      have hxl : xs.length = n := by rw [hxs, rl_len]
      have hR := HI.out.own
      rw [← hxs] at hR
      obtain ⟨A, c, rfl, hc, hC⟩ := Kd.R_reads hR
      have HX := Aside0.mk hxs
      have HXL := Aside0.mk hxl
      have HC := Aside0.mk hC
      have HCC := Aside0.mk hc
      have HB := Aside0.mk HI.out.bel
      clear HI hR hC hc hxs hxl hn
      obtain ⟨p, hp⟩ : ∃ p, p = pR gaps n := ⟨_, rfl⟩
      rw [← hp] at hp0 hp1 ⊢
      clear hp HG HN HM
      have hexit : (decide (n < gaps.length) = false) ∨ (decide (n < gaps.length) = true ∧ decide (n < lines.length) = false) ∨ (decide (n < gaps.length) = true ∧ decide (n < lines.length) = true ∧ decide (n < 200) = false ∧ decide ((n : Int) < 200) = false) := by
        simp only [decide_eq_false_iff_not, decide_eq_true_eq]
        omega
      clear hlt
      rcases hexit with h1 | ⟨h1, h2⟩ | ⟨h1, h2, h3, h4⟩
      all_goals
        go_wp2_with fail
        refine (New_any A c xs _ HC.out HCC.out (by have := HXL.out; omega)).mono ?_
        rintro e w2 ⟨rfl, hb2, A2, c2, A3, c3, ht⟩
        have HT := Aside0.mk ht
        have HB2 := Aside0.mk (below_then HB.out HB.out.size hb2)
        have HC2 := Aside0.mk (Kd.C_below HC.out hb2)
        clear hb2 ht
        have hr1 : -(p + 3) < x.tmod (p + 3) := Int.lt_tmod_of_pos x (by omega)
        have hr2 : x.tmod (p + 3) < p + 3 := Int.tmod_lt_of_pos x (by omega)
        have hy1 : 0 ≤ (x.tmod (p + 3) + p + 3) % (p + 3) := Int.emod_nonneg _ (by omega)
        have hy2 : (x.tmod (p + 3) + p + 3) % (p + 3) < p + 3 := Int.emod_lt_of_pos _ (by omega)
        go_wp2_with fail
        obtain ⟨y, hy⟩ : ∃ y, y = (x.tmod (p + 3) + p + 3) % (p + 3) := ⟨_, rfl⟩
        rw [← hy] at hy1 hy2 ⊢
        clear hy hr1 hr2
        have hps : (plc xs xs.length).Pairwise (· < ·) := by rw [HXL.out, HX.out]; exact plc_rises _ _ _
        have hlls : (nl xs xs.length).Pairwise (· < ·) := nl_lt _ _
        have HPS := Aside0.mk hps
        have HLS := Aside0.mk hlls
        have hpl : (plc xs xs.length).length ≤ 1048576 := by have := HXL.out; simp [plc]; omega
        have hll : (nl xs xs.length).length ≤ 1048576 := by have := HXL.out; have := nl_len xs xs.length; omega
        have hmem : ∀ z ∈ nl xs xs.length, 0 ≤ z ∧ z ≤ 1048576 := fun z hz => by have := HXL.out; have := nl_mem xs xs.length z hz; omega
        refine (At_calls _ _ _ _ _ _ _ y _ HT.out (pw_le hps) (pw_le hlls) hpl hll hmem).mono ?_
        rintro e w3 ⟨rfl, hb3⟩
        have HT2 := Aside0.mk (HT.out.below hb3)
        have HB3 := Aside0.mk (below_then HB2.out HB2.out.size hb3)
        have HC3 := Aside0.mk (Kd.C_below HC2.out hb3)
        have HH := Aside0.mk (And.intro hpl (And.intro hll hmem))
        clear hb3 hps hlls hpl hll hmem
        obtain ⟨a, b, hab⟩ : ∃ a b, lineCol (plc xs xs.length) (nl xs xs.length) y = (a, b) := ⟨_, _, rfl⟩
        have HAB := Aside0.mk hab
        rw [hab]
        clear hab
        go_wp2_with fail
        refine (At_calls _ _ _ _ _ _ _ (y + 1) _ HT2.out (pw_le HPS.out) (pw_le HLS.out) HH.out.1 HH.out.2.1 HH.out.2.2).mono ?_
        rintro e w4 ⟨rfl, hb4⟩
        have HB4 := Aside0.mk (below_then HB3.out HB3.out.size hb4)
        have HC4 := Aside0.mk (Kd.C_below HC3.out hb4)
        clear hb4
        obtain ⟨a', b', hab'⟩ : ∃ a' b', lineCol (plc xs xs.length) (nl xs xs.length) (y + 1) = (a', b') := ⟨_, _, rfl⟩
        have HAB' := Aside0.mk hab'
        rw [hab']
        clear hab'
        have hfin : (thB y xs xs.length = true ∧ ((a' = a ∧ b' = b + 1) ∨ (a' = a + 1 ∧ b' = 1))) ∨ (thB y xs xs.length = false ∧ a' = a ∧ b' = b) := by
          cases ht : thB y xs xs.length with
          | true =>
            have := line_in _ _ y HPS.out HLS.out ((thB_iff y xs).1 ht)
            rw [HAB.out, HAB'.out] at this
            exact .inl ⟨rfl, this⟩
          | false =>
            have := line_out (plc xs xs.length) (nl xs xs.length) y (fun h => by rw [(thB_iff y xs).2 h] at ht; exact absurd ht (by decide))
            rw [HAB.out, HAB'.out] at this
            simp only [Prod.mk.injEq] at this
            exact .inr ⟨rfl, this⟩
        have HF := Aside0.mk hfin
        have hxn : (xs.length : Int) ≤ 200 := by have := HXL.out; omega
        obtain ⟨ha1, ha2, hb1, hb2⟩ := line_bd (plc xs xs.length) (nl xs xs.length) y 1048576 HH.out.1 HH.out.2.1 (fun z hz => by have := HH.out.2.2 z hz; omega)
        rw [HAB.out] at ha1 ha2 hb1 hb2
        simp only at ha1 ha2 hb1 hb2
        clear hfin HAB HAB' HPS HLS HH HT HT2 HC2 HC3 HB2 HB3 HX
        go_wp2_with fail
        go_loopg [16, 17] xs.length (fun kq th i w' => ∃ (k : Int), i = .int .i64 k ∧ th = .bool (thB y xs k.toNat) ∧ 0 ≤ k ∧ k ≤ xs.length ∧ Aside0 (Drawn0 w4 w') ∧ Aside0 ((kq : Int) + k = xs.length))
        case atStart => exact ⟨0, rfl, rfl, by omega, by omega, ⟨Drawn0.refl _⟩, ⟨by omega⟩⟩
        case round =>
          obtain ⟨k, rfl, rfl, hk0, hk1, ⟨hw⟩, HM⟩ := hrel
          obtain ⟨q, rfl⟩ := hw.out
          clear hw
          by_cases hlt : k < (xs.length : Int)
          · obtain ⟨ad, rfl, hx0, hx1⟩ := at_T27 (Kd.C_drewN HC4.out q) k hk0 hlt
            have HK := Aside0.mk hk0
            have HL := Aside0.mk hlt
            have HTS := Aside0.mk (thB_succ y xs k hk0)
            have hkA : -1 < k := by omega
            have hd := decide_eq_true hlt
            have hq0 := eq_true hk0
            have hq1 := eq_true hlt
            cases hth : thB y xs k.toNat with
            | true =>
              have HTH := Aside0.mk hth
              clear hth
              go_wp2
              go_roundg (gk - 1)
              case measure => have := HM.out; have := HL.out; omega
              case rel => exact ⟨k + 1, rfl, by rw [show (k + 1).toNat = k.toNat + 1 from by have := HK.out; omega, HTS.out, HTH.out]; rfl, by have := HK.out; omega, by have := HL.out; omega, ⟨by repeat (first | exact Drawn0.refl _ | apply Drawn0.step)⟩, ⟨by have := HM.out; have := HL.out; omega⟩⟩
            | false =>
              have HTH := Aside0.mk hth
              clear hth
              go_wp2
              go_roundg (gk - 1)
              case measure => have := HM.out; have := HL.out; omega
              case rel => exact ⟨k + 1, rfl, by rw [show (k + 1).toNat = k.toNat + 1 from by have := HK.out; omega, HTS.out, HTH.out]; rfl, by have := HK.out; omega, by have := HL.out; omega, ⟨by repeat (first | exact Drawn0.refl _ | apply Drawn0.step)⟩, ⟨by have := HM.out; have := HL.out; omega⟩⟩
          · obtain rfl : k = (xs.length : Int) := by omega
            rw [Int.toNat_natCast]
            have hd : decide (xs.length < xs.length) = false := by simp
            obtain ⟨th, hth⟩ : ∃ th, th = thB y xs xs.length := ⟨_, rfl⟩
            have hF := HF.out
            rw [← hth] at hF ⊢
            clear hth hlt hk0 hk1
            rcases hF with ⟨rfl, ⟨rfl, rfl⟩ | ⟨rfl, rfl⟩⟩ | ⟨rfl, rfl, rfl⟩
            all_goals
              go_wp2
              go_ret
              exact ⟨by simp, by first | exact HB4.out | exact pw_below_drewN HB4.out _⟩

def beadlelaw03_PlaceRises.f (_ : List Int) (_ : List Bool) (_ : Int) : Option Bool := some true
theorem beadlelaw03_PlaceRises.calls (A0 : Option Addr) (c0 : Nat) (l0 : List Int) (A1 : Option Addr) (c1 : Nat) (l1 : List Bool) (a2 : Int) (r : Bool) (w : World) (hr0 : Kd.C (Kd.int .i64) w A0 l0.length l0) (_hc0 : l0.length ≤ c0) (hr1 : Kd.C Kd.bool w A1 l1.length l1) (_hc1 : l1.length ≤ c1)
    (h : beadlelaw03_PlaceRises.f l0 l1 a2 = some r) : Calls Try.prog 4 #[.slice A0 l0.length c0, .slice A1 l1.length c1, .int .i64 a2] w fun e w' => e = .returned (.bool r) ∧ Below w.heap.size w w' := by
  obtain rfl := Option.some.inj h
  exact Rises_walk A0 c0 l0 A1 c1 l1 a2 w hr0 hr1
end Go.Proofs.Ytkkkgmaljenblaa.PL
