/- place.New at any row of scalars of at most 1048576: it makes a table of the places and of the newlines' numbers, in new memory; nothing that was there has changed. -/
import Derived.Test.YtkkkgmaljenblaaPLx0
import Derived.RegionTactic
import Derived.Lib.Hide
import Derived.Deep.RegionLaw
import Derived.Deep.RegionHeld3
import Derived.Deep.AppendLies
namespace Go.Proofs.Ytkkkgmaljenblaa.PL
open Go.RowKit Go.Proofs.YtkkkgmaljenblaaW.PrintWords Go.Proofs.YtkkkgmaljenblaaW.PrintLast Go.Proofs.YtkkkgmaljenblaaW.PrintMore

def plc (xs : List S27) (k : Nat) : List Int := (xs.take k).map (·.f1)
def nl (xs : List S27) (k : Nat) : List Int := ((List.range k).filter (fun j : Nat => (rd_T27 xs (j : Int)).f0 == 10)).map Int.ofNat

/-- Where the making stands: kp places, the newlines of kl scalars. -/
structure NewInv (w wr : World) (xs : List S27) (kp kl : Nat) (vp vl : Value) : Prop where
  blk : wr.heap[w.heap.size]? = some (.cells #[vp, vl] 39 (0, 0))
  op : wr.ownsRow (w.heap.size + 1) 3 1 vp kp (nums .i64 (plc xs kp))
  ol : wr.ownsRow (w.heap.size + 1) 3 1 vl (nl xs kl).length (nums .i64 (nl xs kl))
  ne : ∀ b, vp.ownBlock = some b → vl.ownBlock ≠ some b
  bel : Below w.heap.size w wr

theorem info3' : (Try.prog.info? 3).map (fun i => (i.zero, i.size, i.bytes)) = some (some (.int .i64 0), 1, 8) := by kernel_rfl
theorem cell_of_block {w : World} {b : Nat} {cs : Array Value} {t : TypeId} (h : w.heap[b]? = some (.cells cs t (0, 0))) (i : Nat) (v : Value) (hv : cs[i]? = some v) : w.cell? ⟨b, i, none⟩ = some v := by
  simp [World.cell?, h, hv]
theorem block_alloc {w : World} {b : Nat} {x : Obj} (h : w.heap[b]? = some x) (o : Obj) : (w.alloc o).heap[b]? = some x := by
  have hb := (Array.getElem?_eq_some_iff.1 h).1
  rw [World.alloc, Array.getElem?_push_lt hb, ← h, Array.getElem?_eq_getElem hb]
theorem new_two (w : World) (o o' : Obj) : ((w.alloc o).alloc o').heap[w.heap.size + 1]? = some o' := by
  have h := heap_alloc_new (w.alloc o) o'
  rwa [World.size_alloc] at h
theorem far_block {W w1 : World} {row : Option Nat} (hg : W.grownBy w1 row) {b : Nat} {x : Obj} (h : W.heap[b]? = some x) (hne : row ≠ some b) : w1.heap[b]? = some x :=
  (hg.block b (Array.getElem?_eq_some_iff.1 h).1 (fun e => hne e.symm)).trans h
theorem block_drew {w : World} {b : Nat} {x : Obj} (h : w.heap[b]? = some x) : w.drew.heap[b]? = some x := h
theorem frozen_of_block {w : World} {b : Nat} {cs : Array Value} {t : TypeId} (h : w.heap[b]? = some (.cells cs t (0, 0))) (i : Nat) : w.frozen? ⟨b, i, none⟩ = false := by
  simp [World.frozen?, h]
theorem take_snoc' (xs : List S27) (k : Int) (h0 : 0 ≤ k) (h1 : k < xs.length) : plc xs (k.toNat + 1) = plc xs k.toNat ++ [(rd_T27 xs k).f1] := by
  unfold plc rd_T27
  have h : k.toNat < xs.length := by omega
  rw [List.take_succ_eq_append_getElem h, List.map_append, List.getD_eq_getElem?_getD, List.getElem?_eq_getElem h]
  rfl

theorem nl_len (xs : List S27) (k : Nat) : (nl xs k).length ≤ k := by
  unfold nl
  rw [List.length_map]
  exact Nat.le_trans (List.length_filter_le _ _) (by simp)
theorem nl_skip (xs : List S27) (k : Int) (h0 : 0 ≤ k) (h : ¬ (rd_T27 xs k).f0 = 10) : nl xs (k.toNat + 1) = nl xs k.toNat := by
  unfold nl
  have e : ((k.toNat : Nat) : Int) = k := by omega
  rw [List.range_succ, List.filter_append]
  simp [e, h]
theorem nl_take (xs : List S27) (k : Int) (h0 : 0 ≤ k) (h : (rd_T27 xs k).f0 = 10) : nl xs (k.toNat + 1) = nl xs k.toNat ++ [k] := by
  unfold nl
  rw [List.range_succ, List.filter_append, List.map_append]
  have e : ((k.toNat : Nat) : Int) = k := by omega
  simp [e, h]
theorem NewInv.skip {w wr : World} {xs : List S27} {n : Nat} {k : Int} {vp vl : Value} (h : NewInv w wr xs n k.toNat vp vl) (h0 : 0 ≤ k) (hn : ¬ (rd_T27 xs k).f0 = 10) : NewInv w wr xs n (k.toNat + 1) vp vl :=
  ⟨h.blk, h.op, by rw [nl_skip xs k h0 hn]; exact h.ol, h.ne, h.bel⟩
theorem NewInv.line {w wr w1 : World} {xs : List S27} {n : Nat} {k : Int} {vp vl : Value} {gg cap : Nat} {o1 : Obj} (h : NewInv w wr xs n k.toNat vp vl) (h0 : 0 ≤ k) (h10 : (rd_T27 xs k).f0 = 10)
    (hown : w1.ownsRow (w.heap.size + 1) 3 1 (.slice (some ⟨gg, 0, none⟩) ((nl xs k.toNat).length + 1) cap) ((nl xs k.toNat).length + 1) (nums .i64 (nl xs k.toNat) ++ [.int .i64 k]))
    (hg : (wr.alloc o1).grownBy w1 vl.ownBlock) (hat : vl.ownBlock = some gg ∨ gg = wr.heap.size + 1) :
    NewInv w (w1.setCell ⟨w.heap.size, 1, none⟩ (.slice (some ⟨gg, 0, none⟩) ((nl xs k.toNat).length + 1) cap)) xs n (k.toNat + 1) vp (.slice (some ⟨gg, 0, none⟩) ((nl xs k.toNat).length + 1) cap) := by
  have hT : w.heap.size < wr.heap.size := (Array.getElem?_eq_some_iff.1 h.blk).1
  have hvT : vl.ownBlock ≠ some w.heap.size := fun e => absurd (own_base h.ol _ e) (by omega)
  have bW := far_block hg (block_alloc h.blk _) hvT
  have hgg : gg ≠ w.heap.size := by
    rcases hat with e | e
    · have := own_base h.ol _ e; omega
    · omega
  have hb1 : Below w.heap.size w w1 := ((h.bel.alloc (by omega) o1).grown hg (by simp; omega) (fun b e => by have := own_base h.ol _ e; omega))
  have hvp : ∀ b, vp.ownBlock = some b → b ≠ w.heap.size := fun b e => by have := own_base h.op _ e; omega
  have hle : (nl xs (k.toNat + 1)).length = (nl xs k.toNat).length + 1 := by rw [nl_take xs k h0 h10]; simp
  refine ⟨?_, ?_, ?_, ?_, hb1.setCell (Nat.le_refl _) _⟩
  · have := heap_setCell_same w1 w.heap.size 1 _ 39 (.slice (some ⟨gg, 0, none⟩) ((nl xs k.toNat).length + 1) cap) bW
    simpa using this
  · have h2 := own_other (h.op.alloc o1) hg (by
      cases e : vp.ownBlock with
      | none => exact .inl rfl
      | some b => exact .inr (fun e2 => h.ne b e e2.symm))
    exact own_move h2 (fun b hb => heap_setCell_other _ _ _ _ (hvp b hb))
  · rw [hle, nl_take xs k h0 h10, nums_append]
    exact own_move hown (fun b hb => heap_setCell_other _ _ _ _ (by simp [Value.ownBlock] at hb; subst hb; exact hgg))
  · intro b hb e
    simp [Value.ownBlock] at e
    subst e
    rcases hat with e2 | e2
    · exact h.ne _ hb e2
    · have := own_lt h.op _ hb; omega
/-- A place has been appended and stored. -/
theorem NewInv.place {w wr w1 : World} {xs : List S27} {k : Int} {vp vl : Value} {gg cap : Nat} {o1 o2 : Obj} (h : NewInv w wr xs k.toNat k.toNat vp vl) (h0 : 0 ≤ k) (h1 : k < xs.length)
    (hown : w1.ownsRow (w.heap.size + 1) 3 1 (.slice (some ⟨gg, 0, none⟩) (k.toNat + 1) cap) (k.toNat + 1) (nums .i64 (plc xs k.toNat) ++ [.int .i64 (rd_T27 xs k).f1]))
    (hg : ((wr.alloc o1).alloc o2).drew.grownBy w1 vp.ownBlock) (hat : vp.ownBlock = some gg ∨ gg = wr.heap.size + 2) :
    NewInv w (w1.setCell ⟨w.heap.size, 0, none⟩ (.slice (some ⟨gg, 0, none⟩) (k.toNat + 1) cap)) xs (k.toNat + 1) k.toNat (.slice (some ⟨gg, 0, none⟩) (k.toNat + 1) cap) vl := by
  have hT : w.heap.size < wr.heap.size := (Array.getElem?_eq_some_iff.1 h.blk).1
  have hvT : vp.ownBlock ≠ some w.heap.size := fun e => absurd (own_base h.op _ e) (by omega)
  have bW := far_block hg (block_drew (block_alloc (block_alloc h.blk _) _)) hvT
  have hgg : gg ≠ w.heap.size := by
    rcases hat with e | e
    · have := own_base h.op _ e; omega
    · omega
  have hb1 : Below w.heap.size w w1 := ((((h.bel.alloc (by omega) o1).alloc (by simp; omega) o2).drew).grown hg (by simp; omega) (fun b e => by have := own_base h.op _ e; omega))
  have hvl : ∀ b, vl.ownBlock = some b → b ≠ w.heap.size := fun b e => by have := own_base h.ol _ e; omega
  refine ⟨?_, ?_, ?_, ?_, hb1.setCell (Nat.le_refl _) _⟩
  · have := heap_setCell_same w1 w.heap.size 0 _ 39 (.slice (some ⟨gg, 0, none⟩) (k.toNat + 1) cap) bW
    simpa using this
  · rw [take_snoc' xs k h0 h1, nums_append]
    exact own_move hown (fun b hb => heap_setCell_other _ _ _ _ (by simp [Value.ownBlock] at hb; subst hb; exact hgg))
  · have h2 := own_other ((((h.ol.alloc o1).alloc o2).drew)) hg (by
      cases e : vl.ownBlock with
      | none => exact .inl rfl
      | some b => exact .inr (fun e2 => h.ne b e2.symm e))
    exact own_move h2 (fun b hb => heap_setCell_other _ _ _ _ (hvl b hb))
  · intro b hb e
    simp [Value.ownBlock] at hb
    subst hb
    rcases hat with e2 | e2
    · exact h.ne _ e2 e
    · have := own_lt h.ol _ e; omega

set_option maxRecDepth 100000 in
set_option maxHeartbeats 1000000 in
theorem New_calls (A : Option Addr) (c : Nat) (xs : List S27) (w : World) (hr : Kd.C k27 w A xs.length xs) (_hc : xs.length ≤ c) (hl : xs.length ≤ 1048576) :
    Calls Try.prog 6 #[.slice A xs.length c] w fun e w' => e = .returned (.pointer (some ⟨w.heap.size, 0, none⟩)) ∧ ∃ vp vl, NewInv w w' xs xs.length xs.length vp vl := by
  have HR := Aside0.mk hr
  clear hr
  go_enter Try.func6, Try.ntmps6
  go_wp2
  go_loopg [10] xs.length (fun kq i wr => ∃ (k : Int) (vp vl : Value), i = .int .i64 k ∧ 0 ≤ k ∧ k ≤ xs.length ∧ Aside0 (NewInv w wr xs k.toNat k.toNat vp vl) ∧ Aside0 ((kq : Int) + k = xs.length))
  case atStart =>
    refine ⟨0, _, _, rfl, by omega, by omega, ⟨⟨heap_alloc_new _ _, own_nil _ _ _ _, own_nil _ _ _ _, by simp [Value.ownBlock], (Below.refl _ _).alloc (Nat.le_refl _) _⟩⟩, ⟨by omega⟩⟩
  case round =>
    obtain ⟨k, vp, vl, rfl, hk0, hk, HI, HM⟩ := hrel
    by_cases hlt : k < (xs.length : Int)
    · obtain ⟨ad, rfl, hx0, hx1⟩ := at_T27 (Kd.C_below HR.out HI.out.bel) k hk0 hlt
      have hb1 : k.toNat + 1 ≤ maxLen := by simp only [maxLen]; omega
      have hb2 : (k.toNat + 1) * 8 ≤ 140737488355328 := by omega
      have hkA : -1 < k := by omega
      have hkB : k < 1048576 := by omega
      have HK := Aside0.mk hk0
      have HL := Aside0.mk hlt
      replace hk0 := eq_true hk0
      replace hlt := eq_true hlt
      have hTlt : w.heap.size < wr.heap.size := (Array.getElem?_eq_some_iff.1 HI.out.blk).1
      go_upto_region 5 with (fail)
      go_cut [15] (fun _ wc => ∃ (vp' vl' : Value), Aside0 (NewInv w wc xs (k.toNat + 1) k.toNat vp' vl') ∧ Aside0 (wc.heap[wr.heap.size]? = some (.cells #[.int .i64 (rd_T27 xs k).f0, .int .i64 (rd_T27 xs k).f1] 27 (0, 0))))
      case first =>
        have cT0 : wr.cell? ⟨w.heap.size, 0, none⟩ = some vp := cell_of_block HI.out.blk 0 _ rfl
        have hvT : vp.ownBlock ≠ some w.heap.size := fun h => absurd (own_base HI.out.op _ h) (by omega)
        have HvN : Aside0 (vp.ownBlock ≠ some wr.heap.size) := ⟨fun h => absurd (own_lt HI.out.op _ h) (by omega)⟩
        obtain ⟨i0, hi0, hz0, hz1, hz2⟩ := info_parts info3'
        go_region_law
          ((refine step_append_lies _ (by rfl) _ _ _ (by rfl) (w.heap.size + 1) 3 i0 _ 1 8 Try.underlying22 hi0 hz0 hz1 hz2 rfl (by omega) vp k.toNat (nums .i64 (plc xs k.toNat)) (by rfl) (((HI.out.op.alloc _).alloc _).drew)
              ⟨wr.heap.size + 1, 0, none⟩ 1 1 [.int .i64 (rd_T27 xs k).f1] (by rfl) (by rfl) (World.news_of_block (cs := #[.int .i64 (rd_T27 xs k).f1]) (t := 3) (fr := (0, 0)) (new_two wr _ _)) (by simp [Value.oneCell'])
              (by omega) hb1 hb2 (by simp; omega) (wr.heap.size + 2) (by simp) ?_; intro gg cap w1 hown1 hgrow hat hltg; have bW := far_block hgrow (block_drew (block_alloc (block_alloc HI.out.blk _) _)) hvT; have cW : w1.cell? ⟨w.heap.size, 0, none⟩ = some vp := cell_of_block bW 0 _ rfl; have fW : w1.frozen? ⟨w.heap.size, 0, none⟩ = false := frozen_of_block bW 0))
        all_goals
          go_wp2
          go_meet
          case rel =>
            refine ⟨_, _, ⟨HI.out.place HK.out HL.out hown1 hgrow hat⟩, ⟨?_⟩⟩
            rw [heap_setCell_other _ _ _ _ (by simp; omega)]
            exact far_block hgrow (block_drew (block_alloc (heap_alloc_new _ _) _)) HvN.out
      case rest =>
        obtain ⟨vp', vl', HI2, HBX⟩ := hcut
        clear HI hx0 hx1
        have cB0 : wc.cell? ⟨wr.heap.size, 0, none⟩ = some (.int .i64 (rd_T27 xs k).f0) := cell_of_block HBX.out 0 _ rfl
        have cT1 : wc.cell? ⟨w.heap.size, 1, none⟩ = some vl' := cell_of_block HI2.out.blk 1 _ rfl
        have hTlt2 : w.heap.size < wc.heap.size := (Array.getElem?_eq_some_iff.1 HI2.out.blk).1
        have hvT : vl'.ownBlock ≠ some w.heap.size := fun h => absurd (own_base HI2.out.ol _ h) (by omega)
        obtain ⟨i0, hi0, hz0, hz1, hz2⟩ := info_parts info3'
        have hnl : (nl xs k.toNat).length ≤ k.toNat := nl_len xs _
        have hb3 : (nl xs k.toNat).length + 1 ≤ maxLen := by simp only [maxLen]; omega
        have hb4 : ((nl xs k.toNat).length + 1) * 8 ≤ 140737488355328 := by omega
        by_cases h10 : (rd_T27 xs k).f0 = 10
        · have H10 := Aside0.mk h10
          have h10b : ((rd_T27 xs k).f0 == 10) = true := by simp [h10]
          clear h10
          go_wp2_with (at_builtin; refine wpList_append_lies _ (by rfl) _ _ _ (by rfl) (w.heap.size + 1) 3 i0 _ 1 8 Try.underlying22 hi0 hz0 hz1 hz2 rfl (by omega) vl' (nl xs k.toNat).length (nums .i64 (nl xs k.toNat)) (by rfl) (HI2.out.ol.alloc _) ⟨wc.heap.size, 0, none⟩ 1 1 [.int .i64 k] (by rfl) (by rfl) (World.news_of_block (cs := #[.int .i64 k]) (t := 3) (fr := (0, 0)) (heap_alloc_new _ _)) (by simp [Value.oneCell']) (by omega) hb3 hb4 (by simp; omega) (wc.heap.size + 1) (by simp) ?_; intro gg cap w1 hown1 hgrow hat hltg; have bW := far_block hgrow (block_alloc HI2.out.blk _) hvT; have cW : w1.cell? ⟨w.heap.size, 1, none⟩ = some vl' := cell_of_block bW 1 _ rfl; have fW : w1.frozen? ⟨w.heap.size, 1, none⟩ = false := frozen_of_block bW 1)
          go_roundg (gk - 1)
          case measure => have := HM.out; have := HL.out; omega
          case rel => exact ⟨k + 1, _, _, rfl, by have := HK.out; omega, by have := HL.out; omega, ⟨by rw [show (k + 1).toNat = k.toNat + 1 from by have := HK.out; omega]; exact HI2.out.line HK.out H10.out hown1 hgrow hat⟩, ⟨by have := HM.out; have := HL.out; omega⟩⟩
        · have H10 := Aside0.mk h10
          have h10b : ((rd_T27 xs k).f0 == 10) = false := by simp [h10]
          clear h10
          go_wp2
          go_roundg (gk - 1)
          case measure => have := HM.out; have := HL.out; omega
          case rel => exact ⟨k + 1, _, _, rfl, by have := HK.out; omega, by have := HL.out; omega, ⟨by rw [show (k + 1).toNat = k.toNat + 1 from by have := HK.out; omega]; exact HI2.out.skip HK.out H10.out⟩, ⟨by have := HM.out; have := HL.out; omega⟩⟩
    · obtain rfl : k = xs.length := by omega
      go_wp2
      go_ret
      exact ⟨rfl, vp, vl, by have := HI.out; simpa using this⟩
end Go.Proofs.Ytkkkgmaljenblaa.PL
