/- The walk of beadlelaw03.PlaceLines: what it answers, in plain words. Conditions: those of each statement. -/
import Derived.Test.YtkkkgmaljenblaaHRises
import Derived.Test.YtkkkgmaljenblaaRefAt
namespace Go.Proofs.Ytkkkgmaljenblaa.PL
open Go.RowKit Go.Proofs.YtkkkgmaljenblaaW.PrintWords Go.Proofs.YtkkkgmaljenblaaW.PrintLast Go.Proofs.YtkkkgmaljenblaaW.PrintMore

/-- The places of a law's scalars. -/
def plA (ss : List Int) : Nat → Int
  | 0 => 0
  | k + 1 => plA ss k + 1 + ss.getD k 0 % 4
theorem plA_bd (ss : List Int) (k : Nat) : (k : Int) ≤ plA ss k ∧ plA ss k ≤ 4 * k := by
  induction k with
  | zero => simp [plA]
  | succ k ih => simp only [plA]; omega
def ll (vs ss : List Int) (k : Nat) : List S27 := (List.range k).map fun i => ⟨vs.getD i 0, plA ss i⟩
def lw (vs ss : List Int) (k : Nat) : List S29 := (List.range k).map fun i => ⟨vs.getD i 0, plA ss i, false⟩
def fl27 (xs : List S27) : List Value := xs.flatMap fun x => [.int .i64 x.f0, .int .i64 x.f1]
def fl29 (xs : List S29) : List Value := xs.flatMap fun x => [.int .i64 x.f0, .int .i64 x.f1, .bool x.f2]
theorem ll_snoc (vs ss : List Int) (k : Nat) : fl27 (ll vs ss (k + 1)) = fl27 (ll vs ss k) ++ [.int .i64 (vs.getD k 0), .int .i64 (plA ss k)] := by
  simp [ll, fl27, List.range_succ]
theorem lw_snoc (vs ss : List Int) (k : Nat) : fl29 (lw vs ss (k + 1)) = fl29 (lw vs ss k) ++ [.int .i64 (vs.getD k 0), .int .i64 (plA ss k), .bool false] := by
  simp [lw, fl29, List.range_succ]
theorem infoR29 : (Try.prog.info? 29).map (fun i => (i.zero, i.size, i.bytes)) = some (some (.agg #[.int .i64 0, .int .i64 0, .bool false]), 3, 24) := by kernel_rfl

theorem ll_succ (vs ss : List Int) (k : Nat) : ll vs ss (k + 1) = ll vs ss k ++ [⟨vs.getD k 0, plA ss k⟩] := by simp [ll, List.range_succ]
theorem lw_succ (vs ss : List Int) (k : Nat) : lw vs ss (k + 1) = lw vs ss k ++ [⟨vs.getD k 0, plA ss k, false⟩] := by simp [lw, List.range_succ]
theorem ll_len (vs ss : List Int) (k : Nat) : (ll vs ss k).length = k := by simp [ll]
theorem lw_len (vs ss : List Int) (k : Nat) : (lw vs ss k).length = k := by simp [lw]
theorem ll_get (vs ss : List Int) (n j : Nat) (h : j < n) : rd_T27 (ll vs ss n) (j : Int) = ⟨vs.getD j 0, plA ss j⟩ := by
  unfold rd_T27 ll
  rw [List.getD_eq_getElem?_getD, List.getElem?_map, Int.toNat_natCast, List.getElem?_range h]
  rfl
theorem lw_get (vs ss : List Int) (n j : Nat) (h : j < n) : rd_T29 (lw vs ss n) (j : Int) = ⟨vs.getD j 0, plA ss j, false⟩ := by
  unfold rd_T29 lw
  rw [List.getD_eq_getElem?_getD, List.getElem?_map, Int.toNat_natCast, List.getElem?_range h]
  rfl
theorem reps_ll (W : World) (base : Nat) (ok : Nat → Prop) (vs ss : List Int) (k : Nat) : Reps (k27.M W base ok) 2 (ll vs ss k) (fl27 (ll vs ss k)) := by
  induction k with
  | zero => exact Reps.none _ _
  | succ k ih =>
    rw [ll_snoc, ll_succ]
    exact Reps.snoc ih (k27_mkM _ _ _ _) rfl
theorem reps_lw (W : World) (base : Nat) (ok : Nat → Prop) (vs ss : List Int) (k : Nat) : Reps (k29.M W base ok) 3 (lw vs ss k) (fl29 (lw vs ss k)) := by
  induction k with
  | zero => exact Reps.none _ _
  | succ k ih =>
    rw [lw_snoc, lw_succ]
    exact Reps.snoc ih (k29_mkM _ _ _ _) rfl
theorem reads27 {W : World} {base n : Nat} {v : Value} {vs ss : List Int} (h : W.ownsRow base 27 2 v n (fl27 (ll vs ss n))) : ∃ A c, v = .slice A (ll vs ss n).length c ∧ (ll vs ss n).length ≤ c ∧ Kd.C k27 W A (ll vs ss n).length (ll vs ss n) :=
  Kd.R_reads (d := k27) (e := 27) (ok := fun _ => True) ⟨fun _ _ => trivial, _, by rw [ll_len]; exact h, reps_ll _ _ _ _ _ _⟩
theorem reads29 {W : World} {base n : Nat} {v : Value} {vs ss : List Int} (h : W.ownsRow base 29 3 v n (fl29 (lw vs ss n))) : ∃ A c, v = .slice A (lw vs ss n).length c ∧ (lw vs ss n).length ≤ c ∧ Kd.C k29 W A (lw vs ss n).length (lw vs ss n) :=
  Kd.R_reads (d := k29) (e := 29) (ok := fun _ => True) ⟨fun _ _ => trivial, _, by rw [lw_len]; exact h, reps_lw _ _ _ _ _ _⟩
theorem plA_lt (ss : List Int) (i j : Nat) (h : i < j) : plA ss i < plA ss j := by
  induction j with
  | zero => omega
  | succ j ih =>
    simp only [plA]
    rcases Nat.lt_or_ge i j with h2 | h2
    · have := ih h2; omega
    · obtain rfl : i = j := by omega
      omega
theorem plc_ll (vs ss : List Int) (n : Nat) : plc (ll vs ss n) n = (List.range n).map (fun i => plA ss i) := by
  unfold plc
  rw [List.take_of_length_le (by rw [ll_len]; exact Nat.le_refl _)]
  simp [ll]
theorem ll_rises (vs ss : List Int) (n : Nat) : (plc (ll vs ss n) n).Pairwise (· < ·) := by
  rw [plc_ll, List.pairwise_map]
  exact List.Pairwise.imp (R := (· < ·)) (fun h => plA_lt ss _ _ (by omega)) List.pairwise_lt_range
/-- The reference tells what the table tells. -/
theorem ref_says (vs ss : List Int) (n : Nat) (hn : n ≤ 1048576) (x : Int) : ∃ k, beadleref03_At.f k (lw vs ss n) x = some (lineCol (plc (ll vs ss n) n) (nl (ll vs ss n) n) x) := by
  have h := ref_loop (lw vs ss n) (plc (ll vs ss n) n) (nl (ll vs ss n) n) x (by rw [lw_len, plc_ll]; simp) (by rw [lw_len]; exact hn) (fun i hi => by
      rw [lw_len] at hi
      rw [lw_get vs ss n i hi, plc_ll]; show plA ss i = _; rw [List.getD_eq_getElem?_getD, List.getElem?_map, List.getElem?_range hi]; rfl) (fun i hi => by
      rw [lw_len] at hi
      rw [lw_get vs ss n i hi]
      unfold nl
      simp only [List.mem_map, List.mem_filter, List.mem_range, beq_iff_eq]
      constructor
      · intro h; exact ⟨i, ⟨hi, by rw [ll_get vs ss n i hi]; exact h⟩, rfl⟩
      · rintro ⟨j, ⟨hj, hv⟩, e⟩
        have : j = i := by have e' : (j : Int) = (i : Int) := e; omega
        subst this
        rw [ll_get vs ss n j hi] at hv; exact hv) (ll_rises vs ss n) (nl_lt _ _) (fun z hz => by have := nl_mem _ _ z hz; omega) (Nat.le_trans (nl_len _ _) hn) n (2 * n + 2) 0 (Nat.zero_le _) (by rw [lw_len]; omega) (by omega)
  refine ⟨2 * n + 2, ?_⟩
  unfold beadleref03_At.f
  have e : st (nl (ll vs ss n) n) ((0 : Nat) : Int) = (1, 1) := by
    unfold st
    rw [below_zero _ _ (fun z hz => by have := nl_mem _ _ z hz; omega)]; rfl
  rw [e] at h
  rw [st_line]
  exact h
structure LI (w wr : World) (vs ss : List Int) (k : Nat) (v7 v8 : Value) : Prop where
  o7 : wr.ownsRow w.heap.size 27 2 v7 k (fl27 (ll vs ss k))
  o8 : wr.ownsRow w.heap.size 29 3 v8 k (fl29 (lw vs ss k))
  bel : Below w.heap.size w wr

set_option maxRecDepth 100000 in
set_option maxHeartbeats 4000000 in
theorem Lines_walk (A0 : Option Addr) (c0 : Nat) (vs : List Int) (A1 : Option Addr) (c1 : Nat) (ss : List Int) (x : Int) (w : World) (hg : Kd.C (Kd.int .i64) w A0 vs.length vs) (hn : Kd.C (Kd.int .i64) w A1 ss.length ss) (hl : vs.length ≤ 1048576) :
    Calls Try.prog 3 #[.slice A0 vs.length c0, .slice A1 ss.length c1, .int .i64 x] w fun e w' => e = .returned (.bool true) ∧ Below w.heap.size w w' := by
  have HG := Aside0.mk hg
  have HN := Aside0.mk hn
  have hnl := hn.2.1
  clear hg hn
  go_enter Try.func3, Try.ntmps3
  go_wp2_with fail
  refine (speaks_calls _).mono ?_
  rintro e w1 ⟨rfl, hb1⟩
  have HB1 := Aside0.mk hb1
  clear hb1
  go_wp2_with fail
  go_loopg [7, 8, 9, 10] vs.length (fun kq v7 v8 p i wr => ∃ (k : Int) (a7 a8 : Value), a7 = v7 ∧ a8 = v8 ∧ i = .int .i64 k ∧ p = .int .i64 (plA ss k.toNat) ∧ 0 ≤ k ∧ k ≤ vs.length ∧ Aside0 (LI w wr vs ss k.toNat a7 a8) ∧ Aside0 ((kq : Int) + k = vs.length))
  case atStart =>
    exact ⟨0, _, _, rfl, rfl, rfl, rfl, by omega, by omega, ⟨⟨own_nil _ _ _ _, own_nil _ _ _ _, HB1.out⟩⟩, ⟨by omega⟩⟩
  case round =>
    obtain ⟨k, a7, a8, rfl, rfl, rfl, rfl, hk0, hk1, HI, HM⟩ := hrel
    obtain ⟨hp0, hp1⟩ := plA_bd ss k.toNat
    by_cases hlt : k < (vs.length : Int)
    · obtain ⟨ad, e0, hx0⟩ := at_int (Kd.C_below HG.out HI.out.bel) k hk0 hlt
      subst e0
      obtain ⟨n, hn⟩ : ∃ n, n = vs.getD k.toNat 0 := ⟨_, rfl⟩
      have hx0' := hn
      rw [← hn] at hx0
      obtain ⟨p, hp⟩ : ∃ p, p = plA ss k.toNat := ⟨_, rfl⟩
      rw [← hp] at hp0 hp1 ⊢
      have h7 := ll_snoc vs ss k.toNat
      have h8 := lw_snoc vs ss k.toNat
      rw [← hn, ← hp] at h7 h8
      have H7 := Aside0.mk h7
      have H8 := Aside0.mk h8
      have HP := Aside0.mk hp
      clear hn h7 h8 hp
      have HK := Aside0.mk hk0
      have HL := Aside0.mk hlt
      have hcl : ∀ W : World, Below w.heap.size w W → W.cell? (ad.add k.toNat) = some (.int .i64 n) := fun W hW => by
        obtain ⟨ad', e', hx'⟩ := at_int (Kd.C_below HG.out hW) k hk0 hlt
        cases e'
        rw [hx', hx0']
      have HCL := Aside0.mk hcl
      clear hcl hx0'
      have hkA : -1 < k := by omega
      have hkB : k < 1048576 := by omega
      have hb1 : k.toNat + 1 ≤ maxLen := by simp only [maxLen]; omega
      have hb2 : (k.toNat + 1) * 16 ≤ 140737488355328 := by omega
      have hb3 : (k.toNat + 1) * 24 ≤ 140737488355328 := by omega
      have hd1 : decide (k < (vs.length : Int)) = true := decide_eq_true hlt
      have hq0 := eq_true hk0
      have hq1 := eq_true hlt
      have hbe := HI.out.bel.size
      obtain ⟨i1, hi0, hz0, hz1, hz2⟩ := info_parts infoR27
      obtain ⟨i2, hj0, hy0, hy1, hy2⟩ := info_parts infoR29
      go_upto_region 9 with (fail)
      go_cut [7, 8] (fun v7 v8 wc => Aside0 (LI w wc vs ss (k.toNat + 1) v7 v8))
      case first =>
        have HNE : Aside0 (a7.ownBlock = none ∨ a7.ownBlock ≠ a8.ownBlock) := ⟨own_type_ne HI.out.o7 HI.out.o8 (by decide)⟩
        have HNE' : Aside0 (a8.ownBlock = none ∨ a8.ownBlock ≠ a7.ownBlock) := ⟨own_type_ne HI.out.o8 HI.out.o7 (by decide)⟩
        have HvN : Aside0 (∀ b, wr.heap.size ≤ b → a7.ownBlock ≠ some b) := ⟨fun b hb h => absurd (own_lt HI.out.o7 _ h) (by omega)⟩
        go_region_held3 (fun w' => w'.cell? (ad.add k.toNat) = some (.int .i64 n)) (first | exact HCL.out _ (by repeat (first | exact HI.out.bel | exact HB7.out | exact HB8.out | apply Below.drew | (refine Below.alloc ?_ (by first | omega | (simp; done) | (simp; omega)) _))) | go_keep)
          (first | ((refine step_append_lies _ rfl (.tmp 26) (.tmp 33) 24 (by rfl) w.heap.size 27 i1 _ 2 16 Try.underlying24 hi0 hz0 hz1 hz2 rfl (by omega) a7 k.toNat (fl27 (ll vs ss k.toNat)) (by rfl) ?_ _ 1 1 [.int .i64 n, .int .i64 p] (by rfl) (by rfl) ?_ ?_ (by omega) hb1 hb2 ?_ _ rfl ?_; (· (repeat (first | exact HI.out.o7 | apply World.ownsRow.drew | apply World.ownsRow.alloc))); (· (refine World.news_of_block (cs := #[.int .i64 n, .int .i64 p]) (t := 27) (fr := (0, 0)) ?_; first | exact block_drew (heap_alloc_new _ _) | exact heap_alloc_new _ _ | exact block_drew (new_two _ _ _) | exact block_drew (block_alloc (heap_alloc_new _ _) _))); (· (simp [Value.oneCell'])); (· (first | omega | (simp; done) | (simp; omega))); intro g7 c7 w7 ho7 hg7 hat7 hlt7; have HO7 := Aside0.mk ho7; have HG7 := Aside0.mk hg7; have HB7 := Aside0.mk (Below.grown (show Below w.heap.size w _ from (by repeat (first | exact HI.out.bel | apply Below.drew | (refine Below.alloc ?_ (by first | omega | (simp; done) | (simp; omega)) _)))) hg7 (by first | omega | (simp; done) | (simp; omega)) (fun b e => own_base HI.out.o7 b e)); have hs7 := HB7.out.size; have HO8' := Aside0.mk (own_other (v := a8) (xs := fl29 (lw vs ss k.toNat)) (e := 29) (size := 3) (n := k.toNat) (base := w.heap.size) (by repeat (first | exact HI.out.o8 | apply World.ownsRow.drew | apply World.ownsRow.alloc)) hg7 HNE'.out); clear ho7 hg7)) | ((refine step_append_lies _ rfl (.tmp 35) (.tmp 42) 25 (by rfl) w.heap.size 29 i2 _ 3 24 Try.underlying25 hj0 hy0 hy1 hy2 rfl (by omega) a8 k.toNat (fl29 (lw vs ss k.toNat)) (by rfl) ?_ _ 1 1 [.int .i64 n, .int .i64 p, .bool false] (by rfl) (by rfl) ?_ ?_ (by omega) hb1 hb3 ?_ _ rfl ?_; (· (repeat (first | exact HI.out.o8 | exact HO8'.out | apply World.ownsRow.drew | apply World.ownsRow.alloc))); (· (refine World.news_of_block (cs := #[.int .i64 n, .int .i64 p, .bool false]) (t := 29) (fr := (0, 0)) ?_; first | exact block_drew (heap_alloc_new _ _) | exact heap_alloc_new _ _ | exact block_drew (new_two _ _ _) | exact block_drew (block_alloc (heap_alloc_new _ _) _) | exact far_block HG7.out (block_drew (heap_alloc_new _ _)) (HvN.out _ (by simp)) | exact far_block HG7.out (block_drew (new_two _ _ _)) (HvN.out _ (by simp)) | exact far_block HG7.out (block_drew (block_alloc (heap_alloc_new _ _) _)) (HvN.out _ (by simp)))); (· (simp [Value.oneCell'])); (· (have hs7 := HB7.out.size; first | omega | (simp; done) | (simp; omega))); intro g8 c8 w8 ho8 hg8 hat8 hlt8; have HG8 := Aside0.mk hg8; have HO8 := Aside0.mk ho8; have HB8 := Aside0.mk (Below.grown (show Below w.heap.size w _ from (by repeat (first | exact HB7.out | apply Below.drew | (refine Below.alloc ?_ (by first | omega | (simp; done) | (simp; omega)) _)))) hg8 (by first | omega | (simp; done) | (simp; omega)) (fun b e => own_base HI.out.o8 b e)); have HO7' := Aside0.mk (own_other (by repeat (first | exact HO7.out | apply World.ownsRow.drew | apply World.ownsRow.alloc)) hg8 (own_type_ne HO7.out HO8'.out (by decide))); clear hg8 ho8)))
        all_goals
          go_wp2
          go_meet
          case rel => exact ⟨⟨by rw [H7.out]; exact HO7'.out, by rw [H8.out]; exact HO8.out, HB8.out⟩⟩
      case rest =>
        have HI2 := hcut
        clear HI hcut hbe
        obtain ⟨m, hm⟩ : ∃ m, m = ss.getD k.toNat 0 := ⟨_, rfl⟩
        have hand := i64_and3 m
        have hmod : 0 ≤ m % 4 ∧ m % 4 < 4 := by omega
        obtain ⟨g, hg⟩ : ∃ g, g = m % 4 := ⟨_, rfl⟩
        rw [← hg] at hand hmod
        obtain ⟨hg0, hg1⟩ := hmod
        have hpn : plA ss (k.toNat + 1) = p + 1 + g := by rw [plA, ← HP.out, ← hm, hg]
        have HPN := Aside0.mk hpn
        clear hpn
        by_cases hs : k < (ss.length : Int)
        · obtain ⟨bd, e1, hx1⟩ := at_int (Kd.C_below HN.out HI2.out.bel) k HK.out hs
          subst e1
          rw [← hm] at hx1
          clear hm hg
          have hd2 : decide (k < (ss.length : Int)) = true := decide_eq_true hs
          have hq2 := eq_true hs
          go_wp2
          go_roundg (gk - 1)
          case measure => have := HM.out; have := HL.out; omega
          case rel => exact ⟨k + 1, _, _, rfl, rfl, rfl, by rw [show (k + 1).toNat = k.toNat + 1 from by have := HK.out; omega, HPN.out], by have := HK.out; omega, by have := HL.out; omega, by rw [show (k + 1).toNat = k.toNat + 1 from by have := HK.out; omega]; exact HI2, ⟨by have := HM.out; have := HL.out; omega⟩⟩
        · have hm0 : m = 0 := by rw [hm, List.getD_eq_getElem?_getD, List.getElem?_eq_none (by have := HK.out; omega)]; rfl
          have hg2 : g = 0 := by rw [hg, hm0]; rfl
          have HG2 := Aside0.mk hg2
          clear hm hg hm0 hg2 hand
          have hd2 : decide (k < (ss.length : Int)) = false := decide_eq_false hs
          go_wp2
          go_roundg (gk - 1)
          case measure => have := HM.out; have := HL.out; omega
          case rel => exact ⟨k + 1, _, _, rfl, rfl, rfl, by rw [show (k + 1).toNat = k.toNat + 1 from by have := HK.out; omega, HPN.out, HG2.out, Int.add_zero], by have := HK.out; omega, by have := HL.out; omega, by rw [show (k + 1).toNat = k.toNat + 1 from by have := HK.out; omega]; exact HI2, ⟨by have := HM.out; have := HL.out; omega⟩⟩
    · obtain ⟨n, hn⟩ : ∃ n, n = vs.length := ⟨_, rfl⟩
      obtain rfl : k = (n : Int) := by omega
      rw [Int.toNat_natCast] at HI hp0 hp1 ⊢
      obtain ⟨A, c, rfl, hc, hC⟩ := reads27 HI.out.o7
      obtain ⟨A2, c2, rfl, hc2, hC2⟩ := reads29 HI.out.o8
      obtain ⟨kr, hkr⟩ := ref_says vs ss n (by omega) x
      obtain ⟨a, b, hab⟩ : ∃ a b, lineCol (plc (ll vs ss n) n) (nl (ll vs ss n) n) x = (a, b) := ⟨_, _, rfl⟩
      rw [hab] at hkr
      have hR := fun W hW => beadleref03_At.calls kr A2 c2 (lw vs ss n) x a b W (Kd.C_below hC2 hW) hc2 hkr
      have hps := ll_rises vs ss n
      have hln := ll_len vs ss n
      have hlls : (nl (ll vs ss n) n).Pairwise (· < ·) := nl_lt _ _
      have hpl : (plc (ll vs ss n) n).length ≤ 1048576 := by rw [plc_ll]; simp; omega
      have hll : (nl (ll vs ss n) n).length ≤ 1048576 := by have := nl_len (ll vs ss n) n; omega
      have hmem : ∀ z ∈ nl (ll vs ss n) n, 0 ≤ z ∧ z ≤ 1048576 := fun z hz => by have := nl_mem (ll vs ss n) n z hz; omega
      obtain ⟨xs, hxs⟩ : ∃ xs, xs = ll vs ss n := ⟨_, rfl⟩
      rw [← hxs] at hc hC hab hps hln hlls hpl hll hmem ⊢
      obtain ⟨ws, hws⟩ : ∃ ws, ws = lw vs ss n := ⟨_, rfl⟩
      rw [← hws] at hR ⊢
      rw [← hln] at hab hps hlls hpl hll hmem
      have hN := New_any A c xs wr hC hc (by omega)
      have HA := fun T A c A' c' W (hT : TabAt W T (plc xs xs.length) (nl xs xs.length) A c A' c') => At_calls T _ _ A c A' c' x W hT (pw_le hps) (pw_le hlls) hpl hll hmem
      rw [hab] at HA
      have HA' := Aside0.mk HA
      have HN' := Aside0.mk hN
      have HR' := Aside0.mk hR
      have HB := Aside0.mk HI.out.bel
      have hd : decide (n < vs.length) = false := by simp; omega
      obtain ⟨p, hp⟩ : ∃ p, p = plA ss n := ⟨_, rfl⟩
      rw [← hp] at hp0 hp1 ⊢
      clear HI hC2 hc2 hkr hR hps hlls hpl hll hmem hN hab HA hC hc hxs hws hln hn HM HG HN hp hlt
      go_wp2_with fail
      refine HN'.out.mono ?_
      rintro e w2 ⟨rfl, hb2, A3, c3, A4, c4, ht⟩
      have HT := Aside0.mk ht
      have HB2 := Aside0.mk hb2
      clear hb2 ht
      go_wp2_with fail
      refine (HA'.out _ _ _ _ _ _ HT.out).mono ?_
      rintro e w3 ⟨rfl, hb3⟩
      have HB3 := Aside0.mk (below_then HB2.out HB2.out.size hb3)
      clear hb3
      go_wp2_with fail
      refine (HR'.out _ HB3.out).mono ?_
      rintro e w4 ⟨rfl, hb4⟩
      obtain ⟨q, rfl⟩ := hb4.out
      clear hb4
      go_wp2_with fail
      refine (At_nil x _).mono ?_
      rintro e w5 ⟨rfl, hb5⟩
      have HB5 := Aside0.mk (below_then HB.out HB.out.size (below_then (pw_below_drewN HB3.out q) (by have := HB3.out.size; simpa using this) hb5))
      clear hb5
      go_wp2
      go_ret
      exact ⟨by simp, HB5.out⟩

def beadlelaw03_PlaceLines.f (l0 _ : List Int) (_ : Int) : Option Bool := if l0.length ≤ 1048576 then some true else none
theorem beadlelaw03_PlaceLines.calls (A0 : Option Addr) (c0 : Nat) (l0 : List Int) (A1 : Option Addr) (c1 : Nat) (l1 : List Int) (a2 : Int) (r : Bool) (w : World) (hr0 : Kd.C (Kd.int .i64) w A0 l0.length l0) (_hc0 : l0.length ≤ c0) (hr1 : Kd.C (Kd.int .i64) w A1 l1.length l1) (_hc1 : l1.length ≤ c1)
    (h : beadlelaw03_PlaceLines.f l0 l1 a2 = some r) : Calls Try.prog 3 #[.slice A0 l0.length c0, .slice A1 l1.length c1, .int .i64 a2] w fun e w' => e = .returned (.bool r) ∧ Below w.heap.size w w' := by
  unfold beadlelaw03_PlaceLines.f at h
  by_cases hl : l0.length ≤ 1048576
  · rw [if_pos hl] at h
    obtain rfl := Option.some.inj h
    exact Lines_walk A0 c0 l0 A1 c1 l1 a2 w hr0 hr1 hl
  · rw [if_neg hl] at h
    exact absurd h (by simp)
end Go.Proofs.Ytkkkgmaljenblaa.PL
