/- slices.Compact at a row of Diags: neighbours that are one are made one; what is left over is made nothing. -/
import Derived.Test.YtkkdpkfachpjeaaPSx0
import Derived.Shelf.SlicesQ.Load
import Derived.Shelf.SlicesQ.Reverse
import Derived.Shelf.GgSortFunc.RowK
import Derived.Sort.WalkB12
import Derived.Lib.SliceRun
import Derived.Lib.SlicesCompact
import Derived.Deep.QuietTactic
import Derived.BigQuiet
import Derived.Outline
namespace Go.Proofs.Ytkkdpkfachpjeaa.PS
open Go.RowKit Go.Lib Go.Sort Go.Proofs.YtkkdpkfachpjeaaW.PrintWords Go.Proofs.YtkkdpkfachpjeaaW.PrintLast Go.Proofs.YtkkdpkfachpjeaaW.PrintMore

instance : Inhabited S27 := ⟨z27⟩
def enc27 (x : S27) : List Value := [.int .i64 x.f0, .int .i64 x.f1, .string x.f2]
theorem s27_ext {x y : S27} (h0 : x.f0 = y.f0) (h1 : x.f1 = y.f1) (h2 : x.f2.toList = y.f2.toList) : x = y := by
  obtain ⟨a, b, c⟩ := x
  obtain ⟨a', b', c'⟩ := y
  simp only at h0 h1 h2
  subst h0; subst h1
  rw [ByteArray.toList_eq, ByteArray.toList_eq] at h2
  congr
  cases c; cases c'
  simp only [ByteArray.mk.injEq]
  exact Array.toList_inj.1 h2
instance : DecidableEq S27 := fun x y => decidable_of_iff (x.f0 = y.f0 ∧ x.f1 = y.f1 ∧ x.f2.toList = y.f2.toList) ⟨fun h => s27_ext h.1 h.2.1 h.2.2, fun h => by subst h; exact ⟨rfl, rfl, rfl⟩⟩
theorem eq27 (x y : S27) : (x.f0 == y.f0 && (x.f1 == y.f1 && (x.f2.toList == y.f2.toList))) = decide (x = y) := by
  rw [Bool.eq_iff_iff, decide_eq_true_iff, Bool.and_eq_true, Bool.and_eq_true, beq_iff_eq, beq_iff_eq, beq_iff_eq]
  exact ⟨fun h => s27_ext h.1 h.2.1 h.2.2, fun h => by subst h; exact ⟨rfl, rfl, rfl⟩⟩
theorem eqA27 (d : Nat) (w : World) (x0 y0 : Int) (x1 y1 : Int) (x2 y2 : ByteArray) :
    (Op.equalIn (d + 2) 27 (.agg #[.int .i64 x0, .int .i64 x1, .string x2]) (.agg #[.int .i64 y0, .int .i64 y1, .string y2])).run Try.prog w = .ok (x0 == y0 && (x1 == y1 && (x2.toList == y2.toList))) w := by
  refine eqA_of Try.underlying27 (by kernel_rfl) ?_
  refine eqf_cons (by rfl) (by go_simp; rfl) (by go_simp; rfl) (by go_simp) ?_
  refine eqf_cons (by rfl) (by go_simp; rfl) (by go_simp; rfl) (by go_simp) ?_
  exact eqf_last (by rfl) (by go_simp; rfl) (by go_simp; rfl) (by go_simp)
theorem eql27 (x y : S27) (w : World) : Sem.run Try.prog (binOp .eql 27 (.agg (enc27 x).toArray) (.agg (enc27 y).toArray)) w = .ok (.bool (decide (x = y))) w := by
  rw [← eq27]
  have h := eqA27 9998 w x.f0 y.f0 x.f1 y.f1 x.f2 y.f2
  simp only [binOp, Op.equal, Op.maxDepth]
  show Sem.run Try.prog ((fun b => Value.bool b) <$> Op.equalIn 10000 27 (.agg #[.int .i64 x.f0, .int .i64 x.f1, .string x.f2]) (.agg #[.int .i64 y.f0, .int .i64 y.f1, .string y.f2])) w = _
  simp [h]
theorem neq27 (x y : S27) (w : World) : Sem.run Try.prog (binOp .neq 27 (.agg (enc27 x).toArray) (.agg (enc27 y).toArray)) w = .ok (.bool (!decide (x = y))) w := by
  rw [← eq27]
  have h := eqA27 9998 w x.f0 y.f0 x.f1 y.f1 x.f2 y.f2
  simp only [binOp, Op.equal, Op.maxDepth]
  show Sem.run Try.prog ((fun b => Value.bool (!b)) <$> Op.equalIn 10000 27 (.agg #[.int .i64 x.f0, .int .i64 x.f1, .string x.f2]) (.agg #[.int .i64 y.f0, .int .i64 y.f1, .string y.f2])) w = _
  simp [h]
theorem guard27 (op : BinOp) (a b : Operand) (x y : S27) (w : World) : Sem.run Try.prog (eqGuard op 27 a b (.agg (enc27 x).toArray) (.agg (enc27 y).toArray)) w = .ok () w := run_eqGuard_agg w op 27 a b _ _ (by kernel_rfl)
theorem k3 (x : S27) : (enc27 x).length = 3 := rfl
theorem c3 {w : World} {blk : Nat} {d : Array S27} (h : HoldsK enc27 3 w blk 0 d) (i : Nat) (hi : i < d.size) :
    w.cell? ⟨blk, i * 3, none⟩ = some (.int .i64 d[i]!.f0) ∧ w.cell? ⟨blk, i * 3 + 1, none⟩ = some (.int .i64 d[i]!.f1) ∧ w.cell? ⟨blk, i * 3 + 2, none⟩ = some (.string d[i]!.f2) := by
  have e : ∀ c v, (enc27 d[i]!)[c]? = some v → w.cell? ⟨blk, i * 3 + c, none⟩ = some v := fun c v hv => by
    have := HoldsK.cells h k3 hi c v hv
    rw [Addr.add_lit, Nat.zero_add] at this
    exact this
  exact ⟨e 0 _ rfl, e 1 _ rfl, e 2 _ rfl⟩
theorem f3 {w : World} {blk : Nat} {d : Array S27} (h : HoldsK enc27 3 w blk 0 d) (i : Nat) (hi : i < d.size) :
    w.frozen? ⟨blk, i * 3, none⟩ = false ∧ w.frozen? ⟨blk, i * 3 + 1, none⟩ = false ∧ w.frozen? ⟨blk, i * 3 + 2, none⟩ = false := by
  have e : ∀ c, c < 3 → w.frozen? ⟨blk, i * 3 + c, none⟩ = false := fun c hc => by
    have := (h.cell hi hc).2
    rw [Nat.zero_add] at this
    exact this
  exact ⟨e 0 (by decide), e 1 (by decide), e 2 (by decide)⟩
theorem flat_get (d : Array S27) (t : Nat) (h : t < d.size * 3) : (flatK enc27 3 d)[t]! = (enc27 d[t / 3]!)[t % 3]! := get_flatK enc27 3 d t h
theorem setMany_lay (d d2 : Array S27) (s : Nat) (hs : s + d2.size ≤ d.size) : setMany (flatK enc27 3 d) (s * 3) (flatK enc27 3 d2).toList = flatK enc27 3 (lay d s d2.toList) := by
  have hsz : (lay d s d2.toList).size = d.size := by
    have key : ∀ (xs : List S27) (e : Array S27) (q : Nat), (lay e q xs).size = e.size := by
      intro xs
      induction xs with
      | nil => intro e q; rfl
      | cons x xs ih => intro e q; rw [lay, ih]; simp
    exact key _ _ _
  refine ext_get! (by simp [hsz]) fun t ht => ?_
  have ht' : t < d.size * 3 := by simpa using ht
  rw [get_setMany _ _ _ t (by simpa using ht'), flat_get (lay d s d2.toList) t (by rw [hsz]; exact ht')]
  have hlay : (lay d s d2.toList)[t / 3]! = if s ≤ t / 3 ∧ t / 3 < s + d2.size then d2[t / 3 - s]! else d[t / 3]! := by
    have h := lay_get? d2.toList d s (t / 3) (by simpa using hs)
    rw [Array.getElem!_eq_getD, Array.getD_eq_getD_getElem?, h]
    simp only [Array.length_toList]
    split
    · rw [Array.getElem!_eq_getD, Array.getD_eq_getD_getElem?]
      simp
    · rw [Array.getElem!_eq_getD, Array.getD_eq_getD_getElem?]
  rw [hlay]
  have hl : (flatK enc27 3 d2).toList.length = d2.size * 3 := by simp
  by_cases hc : s ≤ t / 3 ∧ t / 3 < s + d2.size
  · rw [if_pos hc, if_pos (by rw [hl]; omega)]
    have e : (flatK enc27 3 d2).toList[t - s * 3]! = (flatK enc27 3 d2)[t - s * 3]! := by
      rw [getElem!_pos (flatK enc27 3 d2).toList (t - s * 3) (by rw [hl]; omega), getElem!_pos (flatK enc27 3 d2) (t - s * 3) (by simp; omega)]
      simp
    rw [e, flat_get d2 _ (by omega), show (t - s * 3) / 3 = t / 3 - s from by omega, show (t - s * 3) % 3 = t % 3 from by omega]
  · rw [if_neg hc, if_neg (by rw [hl]; omega), flat_get d t ht']
theorem setMany_one (d : Array S27) (s : Nat) (u : S27) (hs : s < d.size) : setMany (flatK enc27 3 d) (s * 3) (enc27 u) = flatK enc27 3 (d.setIfInBounds s u) := by
  refine ext_get! (by simp) fun t ht => ?_
  have ht' : t < d.size * 3 := by simpa using ht
  rw [get_setMany _ _ _ t (by simpa using ht'), flat_get (d.setIfInBounds s u) t (by simpa using ht'), k3]
  by_cases hc : t / 3 = s
  · have e : (d.setIfInBounds s u)[t / 3]! = u := by
      rw [Array.getElem!_eq_getD, Array.getD_eq_getD_getElem?, Array.getElem?_setIfInBounds, if_pos hc.symm, if_pos hs]
      rfl
    rw [if_pos (by omega), e, show t - s * 3 = t % 3 from by omega]
  · have e : (d.setIfInBounds s u)[t / 3]! = d[t / 3]! := by
      rw [Array.getElem!_eq_getD, Array.getD_eq_getD_getElem?, Array.getElem?_setIfInBounds, if_neg (fun h => hc h.symm), Array.getElem!_eq_getD, Array.getD_eq_getD_getElem?]
    rw [if_neg (by omega), flat_get d t ht', e]
theorem store_world {w wr : World} {n blk : Nat} {dk : Array S27} {i : Nat} (hi : i < dk.size) (hwr : wr = putRowK enc27 3 (Sort.ahead w n) blk 0 dk) (x : S27) :
    (((wr.setCell ⟨blk, i * 3, none⟩ (.int .i64 x.f0)).setCell ⟨blk, i * 3 + 1, none⟩ (.int .i64 x.f1)).setCell ⟨blk, i * 3 + 2, none⟩ (.string x.f2)).drew = putRowK enc27 3 (Sort.ahead w (n + 1)) blk 0 (dk.setIfInBounds i x) := by
  subst hwr
  have e : ((((putRowK enc27 3 (Sort.ahead w n) blk 0 dk).setCell ⟨blk, i * 3, none⟩ (.int .i64 x.f0)).setCell ⟨blk, i * 3 + 1, none⟩ (.int .i64 x.f1)).setCell ⟨blk, i * 3 + 2, none⟩ (.string x.f2)) = (putRowK enc27 3 (Sort.ahead w n) blk 0 dk).setCells blk (0 + i * 3) (enc27 x) := by
    rw [Nat.zero_add]
    rfl
  rw [e]
  unfold putRowK
  rw [setCells_putRow _ _ _ _ _ _ (by rw [k3, size_flatK]; omega), setMany_one dk i x hi]
  rfl
theorem zero_flat (n : Nat) : Builtin.zeroCells #[.int .i64 0, .int .i64 0, .string ⟨#[]⟩] n = flatK enc27 3 (Array.replicate n z27) := by
  unfold Builtin.zeroCells
  refine ext_get! (by simp) fun t ht => ?_
  have ht' : t < n * 3 := by simpa using ht
  rw [flat_get _ t (by simpa using ht')]
  have e1 : (Array.replicate n z27)[t / 3]! = z27 := by
    rw [Array.getElem!_eq_getD, Array.getD_eq_getD_getElem?, Array.getElem?_replicate, if_pos (by omega)]
    rfl
  rw [e1]
  have e2 : ((Array.range (n * 3)).map fun i => (#[Value.int .i64 0, Value.int .i64 0, Value.string ⟨#[]⟩] : Array Value)[i % 3]!)[t]! = (#[Value.int .i64 0, Value.int .i64 0, Value.string ⟨#[]⟩] : Array Value)[t % 3]! := by
    rw [Array.getElem!_eq_getD, Array.getD_eq_getD_getElem?]
    simp [ht']
  show ((Array.range (n * 3)).map fun i => (#[Value.int .i64 0, Value.int .i64 0, Value.string ⟨#[]⟩] : Array Value)[i % 3]!)[t]! = _
  rw [e2]
  have h3 : t % 3 < 3 := Nat.mod_lt _ (by decide)
  generalize t % 3 = m at h3
  match m, h3 with
  | 0, _ => rfl
  | 1, _ => rfl
  | 2, _ => rfl
theorem clear27 (w : World) (blk s n c ty : Nat) (dk : Array S27) (hH : HoldsK enc27 3 w blk 0 dk) (hn : 0 < n) (hs : s + n ≤ dk.size) :
    (Builtin.clear_ #[38] ty #[.slice (some ⟨blk, s * 3, none⟩) n c]).run Try.prog w = .ok (.tuple #[]) (w.setCells blk (s * 3) (flatK enc27 3 (Array.replicate n z27)).toList) := by
  have hst := stores_of_holds Try.prog hH (s * 3) (flatK enc27 3 (Array.replicate n z27)).toList (by simp; omega) (fun v hv => by
    obtain ⟨i, hi, rfl⟩ := List.getElem_of_mem hv
    have hi' : i < n * 3 := by simpa using hi
    have e : (flatK enc27 3 (Array.replicate n z27)).toList[i] = (flatK enc27 3 (Array.replicate n z27))[i]! := by
      rw [getElem!_pos _ i (by simpa using hi')]
      simp
    rw [e, flat_get _ i (by simpa using hi')]
    have e1 : (Array.replicate n z27)[i / 3]! = z27 := by
      rw [Array.getElem!_eq_getD, Array.getD_eq_getD_getElem?, Array.getElem?_replicate, if_pos (by omega)]
      rfl
    rw [e1]
    have h3 : i % 3 < 3 := Nat.mod_lt _ (by decide)
    generalize i % 3 = m at h3
    match m, h3 with
    | 0, _ => rfl
    | 1, _ => rfl
    | 2, _ => rfl)
  rw [Nat.zero_add] at hst
  obtain ⟨m, rfl⟩ : ∃ m, n = m + 1 := ⟨n - 1, by omega⟩
  simp [Builtin.clear_, run_underlying Try.underlying38, Value.cells, zero_flat, hst]
set_option maxHeartbeats 8000000 in
set_option maxRecDepth 1000000 in
theorem compact_walk (blk cap : Nat) (d : Array S27) (w : World) (hH : HoldsK enc27 3 w blk 0 d) (hsz : d.size ≤ 9223372036854775807) (hcap : d.size ≤ cap) :
    Calls Try.prog 23 #[.slice (some ⟨blk, 0, none⟩) d.size cap] w fun e w' => e = .returned (.slice (some ⟨blk, 0, none⟩) (compactUpTo d d.size).length cap) ∧ ∃ q, w' = putRowK enc27 3 (Sort.ahead w q) blk 0 (compactUpTo d d.size ++ List.replicate (d.size - (compactUpTo d d.size).length) z27).toArray := by
  have same : ∀ q, (∀ j, j < d.size → keeps d j = true) → (compactUpTo d d.size).length = d.size ∧ w.drewN q = putRowK enc27 3 (Sort.ahead w q) blk 0 (compactUpTo d d.size ++ List.replicate (d.size - (compactUpTo d d.size).length) z27).toArray := by
    intro q hall
    have e : compactUpTo d d.size = d.toList := by rw [compactUpTo_all d _ hall, range_map_get]
    rw [e]
    refine ⟨by simp, ?_⟩
    simp only [Array.length_toList, Nat.sub_self, List.replicate_zero, List.append_nil, Array.toArray_toList]
    exact (putRowK_self enc27 3 (Sort.ahead w q) blk 0 d (holdsK_ahead enc27 3 w q blk 0 d hH)).symm
  have HS : Aside0 (∀ q, (∀ j, j < d.size → keeps d j = true) → (compactUpTo d d.size).length = d.size ∧ w.drewN q = putRowK enc27 3 (Sort.ahead w q) blk 0 (compactUpTo d d.size ++ List.replicate (d.size - (compactUpTo d d.size).length) z27).toArray) := ⟨same⟩
  have HH : Aside0 (HoldsK enc27 3 w blk 0 d) := ⟨hH⟩
  have mixed : Try.prog.follows Departure.mixedOrders = true := by kernel_rfl
  clear same hH
  by_cases h2 : d.size < 2
  · go_enter Try.func23, Try.ntmps23
    go_wp2
    go_ret
    obtain ⟨e1, e2⟩ := HS.out 0 (fun j hj => keeps_lt_one d j (by omega))
    exact ⟨by rw [e1]; rfl, 0, e2⟩
  · go_enter Try.func23, Try.ntmps23
    go_wp2
    go_loopg [3] d.size (fun g s3 wr => ∃ k q : Nat, 1 ≤ k ∧ k ≤ d.size ∧ d.size - k ≤ g ∧ s3 = .int .i64 k ∧ wr = w.drewN q ∧ Aside0 (∀ j, j < k → keeps d j = true))
    case atStart => exact ⟨1, 0, Nat.le_refl _, by omega, by omega, rfl, rfl, ⟨keeps_lt_one d⟩⟩
    case round =>
      obtain ⟨k, q, hk1, hk, hg, rfl, rfl, A⟩ := hrel
      by_cases hlt : k < d.size
      · obtain ⟨c1, c2, c3_⟩ := c3 HH.out k hlt
        obtain ⟨b1, b2, b3⟩ := c3 HH.out (k - 1) (by omega)
        generalize hx : d[k]! = x at c1 c2 c3_
        generalize hy : d[k - 1]! = y at b1 b2 b3
        have B : Aside0 (d[k]! = x ∧ d[k - 1]! = y) := ⟨hx, hy⟩
        clear hx hy
        have hgd : ∀ (op : BinOp) (a b : Operand) (w : World), Sem.run Try.prog (eqGuard op 27 a b (.agg #[.int .i64 x.f0, .int .i64 x.f1, .string x.f2]) (.agg #[.int .i64 y.f0, .int .i64 y.f1, .string y.f2])) w = .ok () w := fun op a b w => guard27 op a b x y w
        by_cases hdup : x = y
        · have heq : ∀ (w : World), Sem.run Try.prog (binOp .eql 27 (.agg #[.int .i64 x.f0, .int .i64 x.f1, .string x.f2]) (.agg #[.int .i64 y.f0, .int .i64 y.f1, .string y.f2])) w = .ok (.bool true) w := fun w => by
            have := eql27 x y w
            rw [decide_eq_true hdup] at this
            exact this
          go_wp2_with fail
          go_region_o
          go_wp2
          clear c1 c2 c3_ b1 b2 b3 heq hgd
          have HST : Aside0 (CompInv d (k + 1) k d) := ⟨CompInv.start A.out (keeps_neg (by omega) (by rw [B.out.1, B.out.2, hdup]))⟩
          clear hdup
          go_loopg [3, 5] d.size (fun g s3 s5 wr => ∃ (kk k2 q2 : Nat) (dk : Array S27), s3 = .int .i64 kk ∧ s5 = .int .i64 k2 ∧ 1 ≤ k2 ∧ k + k2 ≤ d.size ∧ d.size - (k + k2) ≤ g ∧ Aside0 (wr = putRowK enc27 3 (Sort.ahead w q2) blk 0 dk) ∧ Aside0 (CompInv d (k + k2) kk dk))
          case atStart => exact ⟨k, 1, q + 1, d, rfl, rfl, Nat.le_refl _, by omega, by omega, ⟨(putRowK_self enc27 3 (Sort.ahead w (q + 1)) blk 0 d (holdsK_ahead enc27 3 w (q + 1) blk 0 d HH.out)).symm⟩, HST⟩
          case round =>
            obtain ⟨kk, k2, q2, dk, rfl, rfl, h1, hle, hg2, W2, I2⟩ := hrel
            have hkk := I2.out.lt
            have hds := I2.out.size
            have HK : Aside0 (HoldsK enc27 3 wr blk 0 dk) := ⟨by rw [W2.out]; exact holdsK_putRowK enc27 3 _ blk 0 d dk (holdsK_ahead enc27 3 w q2 blk 0 d HH.out) hds⟩
            by_cases hlt2 : k + k2 < d.size
            · obtain ⟨m1, m2, m3⟩ := c3 HK.out (k + k2) (by omega)
              obtain ⟨p1, p2, p3⟩ := c3 HK.out (k + k2 - 1) (by omega)
              obtain ⟨o1, o2, o3⟩ := c3 HK.out kk (by omega)
              obtain ⟨z1, z2, z3⟩ := f3 HK.out kk (by omega)
              rw [I2.out.high (k + k2) (by omega)] at m1 m2 m3
              rw [I2.out.high (k + k2 - 1) (by omega)] at p1 p2 p3
              generalize hu : d[k + k2]! = u at m1 m2 m3
              generalize hv : d[k + k2 - 1]! = v at p1 p2 p3
              generalize dk[kk]! = old at o1 o2 o3
              have C : Aside0 (d[k + k2]! = u ∧ d[k + k2 - 1]! = v) := ⟨hu, hv⟩
              clear hu hv
              have e1 : (k + k2) * 3 = k * 3 + k2 * 3 := by omega
              have e2 : (k + k2 - 1) * 3 = k * 3 + (k2 - 1) * 3 := by omega
              rw [e1] at m1 m2 m3
              rw [e2] at p1 p2 p3
              clear e1 e2
              have hgd : ∀ (op : BinOp) (a b : Operand) (w : World), Sem.run Try.prog (eqGuard op 27 a b (.agg #[.int .i64 u.f0, .int .i64 u.f1, .string u.f2]) (.agg #[.int .i64 v.f0, .int .i64 v.f1, .string v.f2])) w = .ok () w := fun op a b w => guard27 op a b u v w
              by_cases huv : u = v
              · have heq : ∀ (w : World), Sem.run Try.prog (binOp .neq 27 (.agg #[.int .i64 u.f0, .int .i64 u.f1, .string u.f2]) (.agg #[.int .i64 v.f0, .int .i64 v.f1, .string v.f2])) w = .ok (.bool false) w := fun w => by
                  have := neq27 u v w
                  rw [decide_eq_true huv] at this
                  exact this
                have HUV : Aside0 (u = v) := ⟨huv⟩
                clear huv
                go_wp2_with fail
                go_region_o
                go_wp2
                go_roundg (d.size - (k + (k2 + 1)))
                case measure => omega
                case rel => exact ⟨kk, k2 + 1, q2 + 1, dk, rfl, by go_num, by omega, by omega, Nat.le_refl _, ⟨by rw [W2.out]; rfl⟩, ⟨I2.out.skip (keeps_neg (by omega) (by rw [C.out.1, C.out.2, HUV.out]))⟩⟩
              · have heq : ∀ (w : World), Sem.run Try.prog (binOp .neq 27 (.agg #[.int .i64 u.f0, .int .i64 u.f1, .string u.f2]) (.agg #[.int .i64 v.f0, .int .i64 v.f1, .string v.f2])) w = .ok (.bool true) w := fun w => by
                  have := neq27 u v w
                  rw [decide_eq_false huv] at this
                  exact this
                have HUV : Aside0 (u ≠ v) := ⟨huv⟩
                clear huv
                go_wp2_with fail
                go_region_o
                go_wp2
                go_roundg (d.size - (k + (k2 + 1)))
                case measure => omega
                case rel => exact ⟨kk + 1, k2 + 1, q2 + 1, dk.setIfInBounds kk u, by go_num, by go_num, by omega, by omega, Nat.le_refl _, ⟨store_world (by omega) W2.out u⟩, ⟨by have := I2.out.keep hlt2 (keeps_pos (by rw [C.out.1, C.out.2]; exact HUV.out)); rwa [C.out.1] at this⟩⟩
            · have hend : k + k2 = d.size := by omega
              have hcl : ∀ ty, (Builtin.clear_ #[38] ty #[.slice (some ⟨blk, kk * 3, none⟩) (d.size - kk) (cap - kk)]).run Try.prog wr = .ok (.tuple #[]) (wr.setCells blk (kk * 3) (flatK enc27 3 (Array.replicate (d.size - kk) z27)).toList) :=
                fun ty => clear27 wr blk kk (d.size - kk) (cap - kk) ty dk HK.out (by omega) (by omega)
              go_wp2
              go_ret
              have hI := I2.out
              rw [hend] at hI
              refine ⟨by rw [hI.len]; rfl, q2, ?_⟩
              rw [hI.len, ← hI.done z27, W2.out]
              unfold putRowK
              rw [show kk * 3 = 0 + kk * 3 from by omega, setCells_putRow _ _ _ _ _ _ (by simp; omega), setMany_lay dk (Array.replicate (d.size - kk) z27) kk (by simp; omega)]
              simp
        · have heq : ∀ (w : World), Sem.run Try.prog (binOp .eql 27 (.agg #[.int .i64 x.f0, .int .i64 x.f1, .string x.f2]) (.agg #[.int .i64 y.f0, .int .i64 y.f1, .string y.f2])) w = .ok (.bool false) w := fun w => by
            have := eql27 x y w
            rw [decide_eq_false hdup] at this
            exact this
          go_wp2_with fail
          go_region_o
          go_wp2
          go_roundg (d.size - (k + 1))
          case measure => omega
          case rel =>
            refine ⟨k + 1, q + 1, by omega, by omega, Nat.le_refl _, by go_num, rfl, ⟨fun j hj => ?_⟩⟩
            by_cases e : j = k
            · subst e
              exact keeps_pos (by rw [B.out.1, B.out.2]; exact hdup)
            · exact A.out j (by omega)
      · have : k = d.size := by omega
        subst this
        go_wp2
        go_ret
        obtain ⟨e1, e2⟩ := HS.out q A.out
        exact ⟨by rw [e1]; rfl, q, e2⟩
end Go.Proofs.Ytkkdpkfachpjeaa.PS
