/- merge.Sort at any row of Diags of at most 1000000000: a new row, in order, each once. -/
import Derived.Test.YtkkdpkfachpjeaaHCmp
import Derived.Test.YtkkdpkfachpjeaaHCompact
import Derived.Test.YtkkdpkfachpjeaaLay2
import Derived.Test.YtkkdpkfachpjeaaOrdS
import Derived.Shelf.SlSortCmp.NoneTotal
import Derived.OwnWalk
namespace Go.Proofs.Ytkkdpkfachpjeaa.PS
open Go.RowKit Go.Lib Go.Sort Go.Proofs.Ytkkdpkfachpjeaa.OrdS Go.Proofs.YtkkdpkfachpjeaaW.PrintWords Go.Proofs.YtkkdpkfachpjeaaW.PrintLast Go.Proofs.YtkkdpkfachpjeaaW.PrintMore

theorem infoD27 : (Try.prog.info? 27).map (fun i => (i.zero, i.size, i.bytes)) = some (some (.agg #[.int .i64 0, .int .i64 0, .string ⟨#[]⟩]), 3, 32) := by kernel_rfl
set_option maxHeartbeats 2000000 in
set_option maxRecDepth 100000 in
theorem clone_walk (ad : Addr) (n c : Nat) (news : List Value) (w : World) (hl : news.length = n * 3) (hn : n ≤ maxLen) (hbig : n * 32 ≤ 140737488355328)
    (hc : ∀ j u, news[j]? = some u → w.cell? (ad.add j) = some u) (h1 : ∀ u ∈ news, u.oneCell' = true) :
    Calls Try.prog 21 #[.slice (some ad) n c] w fun e w' => ∃ v', e = .returned v' ∧ w'.ownsRow w.heap.size 27 3 v' n news ∧ v' ≠ .slice none 0 0 ∧ Below w.heap.size w w' := by
  obtain ⟨i0, hi, hz0, hz1, hz2⟩ := info_parts infoD27
  have q22 : ∀ (w : World) (a : Option Addr) (n c n' c' : Nat), (binOp .eql 38 (.slice a n c) (.slice none n' c')).run Try.prog w = .ok (.bool a.isNone) w := fun w a n c n' c' => Lib.run_eql_slice_nil w _ _ a n c n' c' Try.underlying38
  have u22 : ∀ w, Sem.run Try.prog (underlying 38) w = .ok (TypeDesc.slice 27) w := run_underlying Try.underlying38
  have A : Aside0 (∀ j u, news[j]? = some u → w.cell? (ad.add j) = some u) := ⟨hc⟩
  clear hc
  go_enter Try.func21, Try.ntmps21
  go_wp2_with (at_builtin; refine wpList_append_own _ rfl _ _ 38 rfl w.heap.size 27 i0 _ 3 32 Try.underlying38 hi hz0 hz1 hz2 rfl (by decide) _ _ _ rfl (World.ownsRow_made w #[] 0 (Nat.le_refl _) (Nat.zero_le _) (by simp)) ad n c news rfl ?qc1 ?qc2 ?qc3 ?qc4 ?qc5 ?qc6 ?_)
  case qc1 => exact hl
  case qc2 =>
    intro j u hj
    exact Lib.cell?_alloc_some _ (A.out j u hj)
  case qc3 => exact h1
  case qc4 => rw [Nat.zero_add]; exact hn
  case qc5 => rw [Nat.zero_add]; exact hbig
  case qc6 => simp
  intro v' w1 hown hgrow hnil
  go_wp2
  go_ret
  refine ⟨v', rfl, by simpa using hown, ?_, ?_⟩
  · exact hnil
  · exact ((Below.refl _ w).alloc (Nat.le_refl _) _).grown hgrow (by simp) (by intro k hk; simp [Value.ownBlock] at hk; omega)
set_option maxHeartbeats 1000000 in
theorem clone_nil (n c : Nat) (w : World) : Calls Try.prog 21 #[.slice none n c] w fun e w' => e = .returned (.slice none 0 0) ∧ w' = w := by
  have q22 : ∀ (w : World) (a : Option Addr) (n c n' c' : Nat), (binOp .eql 38 (.slice a n c) (.slice none n' c')).run Try.prog w = .ok (.bool a.isNone) w := fun w a n c n' c' => Lib.run_eql_slice_nil w _ _ a n c n' c' Try.underlying38
  go_enter Try.func21, Try.ntmps21
  go_wp2
  go_ret
  exact ⟨rfl, rfl⟩
set_option maxHeartbeats 1000000 in
theorem compact_few (p : Option Addr) (n c : Nat) (hn : n < 2) (w : World) : Calls Try.prog 23 #[.slice p n c] w fun e w' => e = .returned (.slice p n c) ∧ w' = w := by
  go_enter Try.func23, Try.ntmps23
  go_wp2
  go_ret
  exact ⟨rfl, rfl⟩
/-! ### the order -/
def lt27 (x y : S27) : Bool := dAhead x.f0 x.f1 x.f2.data.toList y.f0 y.f1 y.f2.data.toList
def cmpD (x y : S27) : Int := if x.f1 = y.f1 then (if x.f0 = y.f0 then Lib.compareBytes x.f2.data.toList y.f2.data.toList else if x.f0 < y.f0 then -1 else 1) else if x.f1 < y.f1 then -1 else 1
theorem ltOf_cmpD (x y : S27) : ltOf cmpD x y = lt27 x y := by
  unfold ltOf cmpD lt27 dAhead
  by_cases e1 : x.f1 = y.f1
  · rw [if_pos e1, if_pos e1]
    by_cases e0 : x.f0 = y.f0
    · rw [if_pos e0, if_pos e0]
      rcases cb_cases x.f2.data.toList y.f2.data.toList with ⟨h1, h2, _⟩ | ⟨h1, h2, _⟩ | ⟨h1, h2, _⟩ <;> rw [h1, h2] <;> rfl
    · rw [if_neg e0, if_neg e0]
      by_cases l : x.f0 < y.f0
      · rw [if_pos l, decide_eq_true l]; rfl
      · rw [if_neg l, decide_eq_false l]; rfl
  · rw [if_neg e1, if_neg e1]
    by_cases l : x.f1 < y.f1
    · rw [if_pos l, decide_eq_true l]; rfl
    · rw [if_neg l, decide_eq_false l]; rfl
theorem lt27_irrefl (x : S27) : lt27 x x = false := by
  unfold lt27 dAhead
  rw [if_pos rfl, if_pos rfl]
  rcases cb_cases x.f2.data.toList x.f2.data.toList with ⟨_, _, h, h2⟩ | ⟨_, h, _⟩ | ⟨_, h, _⟩
  · exact absurd rfl h2
  · exact h
  · exact h
theorem lt27_tri (x y : S27) : lt27 x y = true ∨ x = y ∨ lt27 y x = true := by
  unfold lt27 dAhead
  by_cases e1 : x.f1 = y.f1
  · rw [if_pos e1, if_pos e1.symm]
    by_cases e0 : x.f0 = y.f0
    · rw [if_pos e0, if_pos e0.symm]
      rcases cb_cases x.f2.data.toList y.f2.data.toList with ⟨_, h, _⟩ | ⟨_, _, _, h⟩ | ⟨_, _, h, _⟩
      · exact .inl h
      · exact .inr (.inl (s27_ext e0 e1 (by rw [ByteArray.toList_eq, ByteArray.toList_eq]; exact h)))
      · exact .inr (.inr h)
    · rw [if_neg e0, if_neg (fun h => e0 h.symm)]
      by_cases l : x.f0 < y.f0
      · exact .inl (decide_eq_true l)
      · exact .inr (.inr (decide_eq_true (by omega)))
  · rw [if_neg e1, if_neg (fun h => e1 h.symm)]
    by_cases l : x.f1 < y.f1
    · exact .inl (decide_eq_true l)
    · exact .inr (.inr (decide_eq_true (by omega)))
theorem bytes_trans {a b c : List UInt8} (h1 : Op.bytesLess a b = true) (h2 : Op.bytesLess b c = true) : Op.bytesLess a c = true := by
  rw [bytesLess_eq] at *
  exact decide_eq_true (List.lt_trans (of_decide_eq_true h1) (of_decide_eq_true h2))
theorem lt27_trans {x y z : S27} (h1 : lt27 x y = true) (h2 : lt27 y z = true) : lt27 x z = true := by
  unfold lt27 dAhead at *
  by_cases a1 : x.f1 = y.f1
  · by_cases b1 : y.f1 = z.f1
    · rw [if_pos a1] at h1
      rw [if_pos b1] at h2
      rw [if_pos (a1.trans b1)]
      by_cases a0 : x.f0 = y.f0
      · by_cases b0 : y.f0 = z.f0
        · rw [if_pos a0] at h1
          rw [if_pos b0] at h2
          rw [if_pos (a0.trans b0)]
          exact bytes_trans h1 h2
        · rw [if_neg b0] at h2
          have := of_decide_eq_true h2
          rw [if_neg (by omega)]
          exact decide_eq_true (by omega)
      · rw [if_neg a0] at h1
        have h1' := of_decide_eq_true h1
        by_cases b0 : y.f0 = z.f0
        · rw [if_neg (by omega)]
          exact decide_eq_true (by omega)
        · rw [if_neg b0] at h2
          have h2' := of_decide_eq_true h2
          rw [if_neg (by omega)]
          exact decide_eq_true (by omega)
    · rw [if_neg b1] at h2
      have h2' := of_decide_eq_true h2
      rw [if_neg (by omega)]
      exact decide_eq_true (by omega)
  · rw [if_neg a1] at h1
    have h1' := of_decide_eq_true h1
    by_cases b1 : y.f1 = z.f1
    · rw [if_neg (by omega)]
      exact decide_eq_true (by omega)
    · rw [if_neg b1] at h2
      have h2' := of_decide_eq_true h2
      rw [if_neg (by omega)]
      exact decide_eq_true (by omega)
theorem swoD : SWO (ltOf cmpD) where
  irrefl x := by rw [ltOf_cmpD]; exact lt27_irrefl x
  trans x y z h1 h2 := by rw [ltOf_cmpD] at *; exact lt27_trans h1 h2
  ntrans x y z h1 h2 := by
    rw [ltOf_cmpD] at *
    cases h : lt27 x z with
    | false => rfl
    | true =>
      rcases lt27_tri x y with h3 | h3 | h3
      · rw [h3] at h1; cases h1
      · subst h3; rw [h] at h2; cases h2
      · rw [lt27_trans h3 h] at h2; cases h2
theorem totalD : ∀ x y, (ltOf cmpD) x y = false → (ltOf cmpD) y x = false → x = y := by
  intro x y h1 h2
  rw [ltOf_cmpD] at *
  rcases lt27_tri x y with h3 | h3 | h3
  · rw [h3] at h1; cases h1
  · exact h3
  · rw [h3] at h2; cases h2
theorem cmpLaysD (blk off size : Nat) (w : World) : CmpLays Try.prog 18 #[] enc27 3 cmpD blk off size w := fun m os dk _ x y =>
  (compare_grows 4 x.f0 x.f1 x.f2 y.f0 y.f1 y.f2 (cmpD x y) (sortWorldK enc27 3 w blk off m dk os) (compare_eq 0 ..)).mono fun _ _ ⟨he, hb, hd⟩ => ⟨he, grow_of hb hd⟩
/-! ### rows of three cells -/
def F (l : List S27) : List Value := (flatK enc27 3 l.toArray).toList
theorem F_len (l : List S27) : (F l).length = l.length * 3 := by simp [F]
theorem F_get (l : List S27) (j : Nat) (h : j < l.length * 3) : (F l)[j]? = some ((enc27 l.toArray[j / 3]!)[j % 3]!) := by
  have hl : j < (F l).length := by rw [F_len]; exact h
  rw [List.getElem?_eq_getElem hl]
  congr 1
  have e := flat_get l.toArray j (by simpa using h)
  rw [getElem!_pos (flatK enc27 3 l.toArray) j (by simpa using h)] at e
  rw [← e]
  simp [F]
theorem get_of (l : List S27) (j : Nat) (x : S27) (h : l[j]? = some x) : l.toArray[j]! = x := by
  rw [Array.getElem!_eq_getD, Array.getD_eq_getD_getElem?, List.getElem?_toArray, h]
  rfl
theorem enc_get (x : S27) (i : Nat) (h : i < 3) : (enc27 x)[i]? = some ((enc27 x)[i]!) := by
  match i, h with
  | 0, _ => rfl
  | 1, _ => rfl
  | 2, _ => rfl
theorem F_reps (R : S27 → List Value → Prop) (hR : ∀ x, R x (enc27 x)) (l : List S27) : Reps R 3 l (F l) := by
  refine ⟨F_len l, fun j x hx => ?_⟩
  have hj : j < l.length := (List.getElem?_eq_some_iff.1 hx).1
  have e : ((F l).drop (j * 3)).take 3 = enc27 x := by
    apply List.ext_getElem?
    intro i
    by_cases h : i < 3
    · rw [List.getElem?_take, if_pos h, List.getElem?_drop, F_get l _ (by omega), show (j * 3 + i) / 3 = j from by omega, show (j * 3 + i) % 3 = i from by omega, get_of l j x hx, enc_get x i h]
    · rw [List.getElem?_take, if_neg h, List.getElem?_eq_none (by rw [k3]; omega)]
  rw [e]
  exact hR x
theorem cell_of_block {w : World} {g : Nat} {cur : Array Value} {t : TypeId} {fr : Nat × Nat} (hb : w.heap[g]? = some (.cells cur t fr)) (j : Nat) : w.cell? ⟨g, j, none⟩ = cur[j]? := by
  unfold World.cell?
  rw [hb]
  rfl
theorem holds_of_own {w : World} {base g n cap : Nat} {l : List S27} (h : w.ownsRow base 27 3 (.slice (some ⟨g, 0, none⟩) n cap) n (F l)) (hl : l.length = n) : HoldsK enc27 3 w g 0 l.toArray ∧ ∃ cur, w.heap[g]? = some (.cells cur 27 (0, 0)) ∧ base ≤ g ∧ n ≤ cap ∧ cap ≤ maxLen ∧ cur.size = cap * 3 := by
  rcases h.2 with ⟨h1, _⟩ | ⟨g', cap', cur, h1, h2, h3, h4, h5, h6, h7⟩
  · cases h1
  · injection h1 with h1 _ hc
    injection h1 with h1
    injection h1 with h1
    subst h1; subst hc
    refine ⟨fun j hj => ?_, cur, h3, h2, h4, h5, h6⟩
    have hj' : j < n * 3 := by rw [size_flatK] at hj; simpa [hl] using hj
    constructor
    · rw [Nat.zero_add, cell_of_block h3]
      have e : cur[j]? = (F l)[j]? := by
        rw [← h7, List.getElem?_take, if_pos hj', Array.getElem?_toList]
      rw [e, F_get l j (by omega), flat_get l.toArray j (by simp; omega)]
      rfl
    · unfold World.frozen?
      rw [h3]
      simp
theorem own_of_holds {w : World} {base g n cap m : Nat} {d : Array S27} {cur : Array Value} (hb : w.heap[g]? = some (.cells cur 27 (0, 0))) (hg : base ≤ g) (hn : n ≤ cap) (hc : cap ≤ maxLen) (hs : cur.size = cap * 3) (hH : HoldsK enc27 3 w g 0 d) (hd : d.size = n) (hm : m ≤ n) :
    w.ownsRow base 27 3 (.slice (some ⟨g, 0, none⟩) m cap) m (F (d.toList.take m)) := by
  have hl : (d.toList.take m).length = m := by rw [List.length_take, Array.length_toList]; omega
  refine ⟨by rw [F_len, hl], .inr ⟨g, cap, cur, rfl, hg, hb, by omega, hc, hs, ?_⟩⟩
  apply List.ext_getElem?
  intro j
  by_cases h : j < m * 3
  · have h1 := (hH j (by rw [size_flatK]; omega)).1
    rw [Nat.zero_add, cell_of_block hb, flat_get d j (by omega)] at h1
    rw [List.getElem?_take, if_pos h, Array.getElem?_toList, h1, F_get _ j (by omega)]
    have e : (d.toList.take m).toArray[j / 3]! = d[j / 3]! := by
      refine get_of _ _ _ ?_
      rw [List.getElem?_take, if_pos (by omega), Array.getElem?_toList, getElem!_pos d (j / 3) (by omega)]
      exact Array.getElem?_eq_getElem _
    rw [e]
    rfl
  · rw [List.getElem?_take, if_neg h, List.getElem?_eq_none (by rw [F_len]; omega)]
theorem put_block {w : World} {g : Nat} {cur : Array Value} (hb : w.heap[g]? = some (.cells cur 27 (0, 0))) (q : Nat) (d : Array S27) : ∃ cur', (putRowK enc27 3 (Sort.ahead w q) g 0 d).heap[g]? = some (.cells cur' 27 (0, 0)) ∧ cur'.size = cur.size := by
  refine ⟨putCells id 0 (flatK enc27 3 d) cur, ?_, by simp [putCells]⟩
  show (w.heap.modify g (onCells (putCells id 0 (flatK enc27 3 d))))[g]? = _
  rw [Array.getElem?_modify, if_pos rfl, hb]
  rfl
theorem put_below {B : Nat} {w0 w : World} {g : Nat} (h : Below B w0 w) (hg : B ≤ g) (q : Nat) (d : Array S27) : Below B w0 (putRowK enc27 3 (Sort.ahead w q) g 0 d) := by
  refine ⟨h.os, h.tape, h.output, ?_, fun k hk => ?_⟩
  · have := h.size
    show w0.heap.size ≤ (w.heap.modify g (onCells (putCells id 0 (flatK enc27 3 d)))).size
    rw [Array.size_modify]
    exact this
  · show (w.heap.modify g (onCells (putCells id 0 (flatK enc27 3 d))))[k]? = _
    rw [Array.getElem?_modify, if_neg (by omega)]
    exact h.block k hk
theorem sort_block {w : World} {g : Nat} {cur : Array Value} (hb : w.heap[g]? = some (.cells cur 27 (0, 0))) (n : Nat) (d : Array S27) (os : Array Obj) : ∃ cur', (sortWorldK enc27 3 w g 0 n d os).heap[g]? = some (.cells cur' 27 (0, 0)) ∧ cur'.size = cur.size := by
  obtain ⟨cur', h1, h2⟩ := put_block hb n d
  refine ⟨cur', ?_, h2⟩
  show ((putRowK enc27 3 (Sort.ahead w n) g 0 d).heap ++ os)[g]? = _
  have hlt : g < (putRowK enc27 3 (Sort.ahead w n) g 0 d).heap.size := by
    apply Decidable.byContradiction
    intro hn
    rw [Array.getElem?_eq_none (by omega)] at h1
    cases h1
  rw [Array.getElem?_append_left hlt]
  exact h1
theorem sort_below {B : Nat} {w0 w : World} {g : Nat} (h : Below B w0 w) (hg : B ≤ g) (hw : B ≤ w.heap.size) (n : Nat) (d : Array S27) (os : Array Obj) : Below B w0 (sortWorldK enc27 3 w g 0 n d os) := by
  have h1 := put_below h hg n d
  have hsz : (putRowK enc27 3 (Sort.ahead w n) g 0 d).heap.size = w.heap.size := by
    show (w.heap.modify g (onCells (putCells id 0 (flatK enc27 3 d)))).size = _
    rw [Array.size_modify]
  refine ⟨h1.os, h1.tape, h1.output, ?_, fun k hk => ?_⟩
  · show w0.heap.size ≤ ((putRowK enc27 3 (Sort.ahead w n) g 0 d).heap ++ os).size
    have := h1.size
    rw [Array.size_append]
    omega
  · show ((putRowK enc27 3 (Sort.ahead w n) g 0 d).heap ++ os)[k]? = _
    rw [Array.getElem?_append_left (by omega)]
    exact h1.block k hk
def ms (l : List S27) : List S27 := l.mergeSort fun x y => !(ltOf cmpD) y x
def sortD (l : List S27) : List S27 := compactUpTo (ms l).toArray (ms l).length
theorem ms_len (l : List S27) : (ms l).length = l.length := List.length_mergeSort _
theorem compact_le (d : Array S27) : (compactUpTo d d.size).length ≤ d.size := by
  unfold compactUpTo
  rw [List.length_map]
  refine Nat.le_trans (List.length_filter_le _ _) ?_
  simp
theorem own_some {w1 : World} {base n : Nat} {v' : Value} {xs : List Value} (h : w1.ownsRow base 27 3 v' n xs) (hnn : v' ≠ .slice none 0 0) : ∃ g cap, v' = .slice (some ⟨g, 0, none⟩) n cap := by
  rcases h.2 with ⟨h1, _⟩ | ⟨g, cap, _, h1, _⟩
  · exact absurd h1 hnn
  · exact ⟨g, cap, h1⟩
structure ST (base : Nat) (W : World) (g n cap : Nat) (xs : List S27) : Prop where
  blk : ∃ cur, W.heap[g]? = some (.cells cur 27 (0, 0)) ∧ cur.size = cap * 3
  hg : base ≤ g
  hn : n ≤ cap
  hc : cap ≤ maxLen
  len : xs.length = n
  holds : HoldsK enc27 3 W g 0 xs.toArray
  hb : base ≤ W.heap.size
theorem blk_lt' {w : World} {g : Nat} {o : Obj} (h : w.heap[g]? = some o) : g < w.heap.size := by
  apply Decidable.byContradiction
  intro hn
  rw [Array.getElem?_eq_none (by omega)] at h
  cases h
theorem sort_step {w1 : World} {base g n cap : Nat} {l : List S27} (h : w1.ownsRow base 27 3 (.slice (some ⟨g, 0, none⟩) n cap) n (F l)) (hl : l.length = n) (hlen : n ≤ 1000000000) :
    Calls Try.prog 22 #[.slice (some ⟨g, 0, none⟩) n cap, .func (.func 18) #[] #[]] w1 fun e w2 => e = .returned (.tuple #[]) ∧ ST base w2 g n cap (ms l) ∧ Below base w1 w2 := by
  obtain ⟨hH, cur, hb, hg, hn, hc, hs⟩ := holds_of_own h hl
  have eg : ∀ args w, (callFunc 18 args).run Try.prog w = .ok (.enter 18 args) w := enters_of Try.func18 (by kernel_rfl) rfl
  have hlt := blk_lt' hb
  have hsz : l.toArray.size = n := by simpa using hl
  by_cases h0 : n = 0
  · subst h0
    obtain rfl : l = [] := List.length_eq_zero_iff.1 hl
    refine (AnyF.slices_SortFunc_none Try.sortD (some ⟨g, 0, none⟩) cap (.func (.func 18) #[] #[]) w1).mono ?_
    rintro e w' ⟨rfl, rfl⟩
    refine ⟨rfl, ⟨⟨cur, hb, hs⟩, hg, hn, hc, by rw [ms_len]; rfl, ?_, by omega⟩, Below.refl _ _⟩
    intro j hj
    have : (ms []).toArray.size = 0 := by simp [ms_len]
    rw [size_flatK, this] at hj
    omega
  · have hT := AnyQ.slices_SortFunc_total Try.sortD 3 Try.isAgg27 Try.sizeOf27 enc27 k3 (fun x v hv => by
        have hv' : v = .int .i64 x.f0 ∨ v = .int .i64 x.f1 ∨ v = .string x.f2 := by simpa [enc27] using hv
        rcases hv' with rfl | rfl | rfl <;> rfl) cmpD swoD 18 #[] g 0 cap l.toArray w1 eg (cmpLaysD g 0 _ w1) hH hlt (by rw [hsz]; omega) totalD
    rw [hsz] at hT
    refine hT.mono ?_
    rintro e w' ⟨rfl, q, os, rfl⟩
    obtain ⟨cur', hb', hs'⟩ := sort_block hb q ((l.toArray.toList.mergeSort fun x y => !(ltOf cmpD) y x).toArray) os
    have hms : (l.toArray.toList.mergeSort fun x y => !(ltOf cmpD) y x) = ms l := rfl
    rw [hms] at hb' ⊢
    have hbel := sort_below (Below.refl base w1) hg (by omega) q (ms l).toArray os
    exact ⟨rfl, ⟨⟨cur', hb', hs'.trans hs⟩, hg, hn, hc, by rw [ms_len, hl], holdsK_sortWorldK_c enc27 3 w1 g 0 l.toArray (ms l).toArray q os hH hlt (by simp [ms_len]), by have := hbel.size; omega⟩, hbel⟩
theorem compact_step {w2 : World} {base g n cap : Nat} {l : List S27} (h : ST base w2 g n cap (ms l)) (hlen : n ≤ 1000000000) :
    Calls Try.prog 23 #[.slice (some ⟨g, 0, none⟩) n cap] w2 fun e w3 => ∃ m, e = .returned (.slice (some ⟨g, 0, none⟩) m cap) ∧ Kd.R k27 27 w3 base (fun _ => True) (.slice (some ⟨g, 0, none⟩) m cap) (sortD l) ∧ Below base w2 w3 := by
  obtain ⟨⟨cur, hb, hs⟩, hg, hn, hc, hlen2, hH, hbs⟩ := h
  have hsz : (ms l).toArray.size = n := by simpa using hlen2
  have hW := compact_walk g cap (ms l).toArray w2 hH (by omega) (by omega)
  rw [hsz] at hW
  refine hW.mono ?_
  rintro e w' ⟨rfl, q, rfl⟩
  have hle : (compactUpTo (ms l).toArray n).length ≤ n := by have := compact_le (ms l).toArray; rw [hsz] at this; exact this
  obtain ⟨cur', hb', hs'⟩ := put_block hb q (compactUpTo (ms l).toArray n ++ List.replicate (n - (compactUpTo (ms l).toArray n).length) z27).toArray
  have hdsz : (compactUpTo (ms l).toArray n ++ List.replicate (n - (compactUpTo (ms l).toArray n).length) z27).toArray.size = n := by simp; omega
  have hH' := holdsK_putRowK enc27 3 (Sort.ahead w2 q) g 0 (ms l).toArray _ (holdsK_ahead enc27 3 w2 q g 0 _ hH) (hdsz.trans hsz.symm)
  have hown := own_of_holds hb' hg hn hc (hs'.trans hs) hH' hdsz hle
  have hsd : sortD l = compactUpTo (ms l).toArray n := by unfold sortD; rw [hlen2]
  rw [List.toList_toArray, List.take_left] at hown
  refine ⟨_, rfl, ⟨fun _ _ => trivial, F (sortD l), ?_, F_reps _ (fun x => k27_mkM _ _ _ x) _⟩, put_below (Below.refl base w2) hg q _⟩
  rw [hsd]
  exact hown
def merge_Sort.f (l : List S27) : Option (List S27) := if l.length ≤ 1000000000 then some (sortD l) else none
set_option maxHeartbeats 4000000 in
set_option maxRecDepth 100000 in
theorem sort_some (ad : Addr) (c0 : Nat) (l : List S27) (w : World) (hlen : l.length ≤ 1000000000) (hc : ∀ j u, (F l)[j]? = some u → w.cell? (ad.add j) = some u) :
    Calls Try.prog 13 #[.slice (some ad) l.length c0] w fun e w' => ∃ v0_, e = .returned v0_ ∧ Kd.R k27 27 w' w.heap.size (fun _ => True) v0_ (sortD l) ∧ Below w.heap.size w w' := by
  have hclone := clone_walk ad l.length c0 (F l) w (F_len l) (by simp only [maxLen]; omega) (by omega) hc (fun u hu => by
    obtain ⟨j, hj, rfl⟩ := List.getElem_of_mem hu
    have hj' : j < l.length * 3 := by rw [F_len] at hj; exact hj
    have e := F_get l j hj'
    rw [List.getElem?_eq_getElem hj] at e
    injection e with e
    rw [e]
    have h3 : j % 3 < 3 := Nat.mod_lt _ (by decide)
    generalize j % 3 = m at h3
    match m, h3 with
    | 0, _ => rfl
    | 1, _ => rfl
    | 2, _ => rfl)
  have HC := Aside0.mk hclone
  clear hclone hc
  have eg : ∀ args w, (callFunc 18 args).run Try.prog w = .ok (.enter 18 args) w := enters_of Try.func18 (by kernel_rfl) rfl
  obtain ⟨n, hn⟩ : ∃ n, n = l.length := ⟨_, rfl⟩
  rw [← hn] at HC hlen ⊢
  have HN := Aside0.mk hn
  clear hn
  go_enter Try.func13, Try.ntmps13
  go_wp2_with (first
    | (go_at_call 21; refine HC.out.mono ?_; rintro e w1 ⟨v', rfl, hown, hnn, hb1⟩; obtain ⟨g, cap, rfl⟩ := own_some hown hnn; have HO := Aside0.mk hown; have HB := Aside0.mk hb1; clear hown hnn hb1)
    | (go_at_call 22; refine (sort_step HO.out HN.out.symm hlen).mono ?_; rintro e w2 ⟨rfl, hst, hb2⟩; have HST := Aside0.mk hst; have HB2 := Aside0.mk (HB.out.trans hb2); clear hst hb2)
    | (go_at_call 23; refine (compact_step HST.out (by omega)).mono ?_; rintro e w3 ⟨m, rfl, hR, hb3⟩; have HR := Aside0.mk hR; have HB3 := Aside0.mk (HB2.out.trans hb3); clear hR hb3))
  go_ret
  exact ⟨_, rfl, HR.out, HB3.out⟩
theorem sortD_nil : sortD [] = [] := by
  unfold sortD
  rw [show (ms []).length = 0 from ms_len []]
  rfl
set_option maxHeartbeats 4000000 in
set_option maxRecDepth 100000 in
theorem sort_none (c0 : Nat) (w : World) : Calls Try.prog 13 #[.slice none 0 c0] w fun e w' => ∃ v0_, e = .returned v0_ ∧ Kd.R k27 27 w' w.heap.size (fun _ => True) v0_ (sortD []) ∧ Below w.heap.size w w' := by
  have hsn : ∀ W, Calls Try.prog 22 #[.slice none 0 0, .func (.func 18) #[] #[]] W fun e w2 => e = .returned (.tuple #[]) ∧ w2 = W := fun W => AnyF.slices_SortFunc_none Try.sortD none 0 (.func (.func 18) #[] #[]) W
  go_enter Try.func13, Try.ntmps13
  go_wp2_with (first
    | (go_at_call 21; refine (clone_nil _ _ _).mono ?_; rintro e w1 ⟨rfl, rfl⟩)
    | (go_at_call 22; refine (hsn _).mono ?_; rintro e w1 ⟨rfl, rfl⟩)
    | (go_at_call 23; refine (compact_few _ _ _ (by omega) _).mono ?_; rintro e w1 ⟨rfl, rfl⟩))
  go_ret
  refine ⟨_, rfl, ?_, Below.refl _ _⟩
  rw [sortD_nil]
  exact Kd.R_nil _ _ _ _ _
theorem merge_Sort.calls (A0 : Option Addr) (c0 : Nat) (l0 : List S27) (r : List S27) (w : World) (hr0 : Kd.C k27 w A0 l0.length l0) (hc0 : l0.length ≤ c0) (h : merge_Sort.f l0 = some r) :
    Calls Try.prog 13 #[.slice A0 l0.length c0] w fun e w' => ∃ v0_ : Value, e = .returned v0_ ∧ Kd.R k27 27 w' w.heap.size (fun _ => True) v0_ r ∧ Below w.heap.size w w' := by
  have _ := hc0
  unfold merge_Sort.f at h
  split at h
  case isFalse => cases h
  rename_i hlen
  obtain rfl := Option.some.inj h
  cases A0 with
  | none =>
    have h0 : l0 = [] := by
      apply Classical.byContradiction
      intro hne
      obtain ⟨ad, he, _⟩ := hr0.2.2 (List.length_pos_iff.2 hne)
      cases he
    subst h0
    exact sort_none c0 w
  | some ad =>
    refine sort_some ad c0 l0 w hlen (fun j u hu => ?_)
    have hj : j < l0.length * 3 := by
      have := (List.getElem?_eq_some_iff.1 hu).1
      rw [F_len] at this
      exact this
    obtain ⟨ad', he, hcell⟩ := hr0.2.2 (by omega)
    cases he
    have hx : l0[j / 3]? = some l0[j / 3] := List.getElem?_eq_getElem (by omega)
    obtain ⟨c, hcl, hK, hcc⟩ := hcell (j / 3) _ hx
    have hc2 : c = enc27 l0[j / 3] := k27_open hK
    rw [hc2] at hcc
    have h3 : j % 3 < 3 := Nat.mod_lt _ (by decide)
    have e := hcc (j % 3) _ (enc_get _ _ h3)
    have e2 : j / 3 * 3 + j % 3 = j := by omega
    have e3 : k27.sz = 3 := rfl
    rw [e3, e2] at e
    rw [F_get l0 j hj, get_of l0 (j / 3) _ hx] at hu
    cases hu
    exact e
end Go.Proofs.Ytkkdpkfachpjeaa.PS
