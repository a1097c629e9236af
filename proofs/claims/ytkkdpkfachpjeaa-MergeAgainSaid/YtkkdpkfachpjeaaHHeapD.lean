/- Package merge's Push and Pop, and package container/heap's Push, Pop and Fix over the rests of lists. Conditions: those of each statement. -/
import Derived.Test.YtkkdpkfachpjeaaHHeapC
import Derived.Deep.AppendLies
namespace Go.Proofs.Ytkkdpkfachpjeaa.PS
open Go.RowKit Go.Lib Go.Proofs.Ytkkdpkfachpjeaa.OrdS Go.Proofs.YtkkdpkfachpjeaaW.PrintWords Go.Proofs.YtkkdpkfachpjeaaW.PrintLast Go.Proofs.YtkkdpkfachpjeaaW.PrintMore

theorem infoH38 : (Try.prog.info? 38).map (fun i => (i.zero, i.size, i.bytes)) = some (some (.slice none 0 0), 1, 24) := by kernel_rfl
theorem getD_snoc {α : Type} (xs : List α) (x d : α) (i : Nat) : (xs ++ [x]).getD i d = if i < xs.length then xs.getD i d else if i = xs.length then x else d := by
  rw [List.getD_eq_getElem?_getD, List.getD_eq_getElem?_getD]
  rcases Nat.lt_trichotomy i xs.length with h | h | h
  · rw [if_pos h, List.getElem?_append_left h]
  · subst h; simp
  · rw [if_neg (by omega), if_neg (by omega), List.getElem?_eq_none (by simp; omega)]; rfl
theorem assert38 (x : Value) (w : World) : Sem.run Try.prog (Instr.typeAssert (.iface 38 x) 20 38 false) w = .ok x w := by kernel_rfl
/-- What an append leaves. -/
theorem RV.push {w0 W1 w w1 : World} {g b cap : Nat} {v : Value} {ls : List (List S27)} {hs : List Hdr} (h : RV w0 W1 g w v ls) (hl : hs.length = ls.length) (hh : ∀ i, Hd w0 (hs.getD i dH) (ls.getD i [])) (x : Hdr) (l : List S27) (hx : Hd w0 x l)
    (ho : w1.ownsRow w0.heap.size 38 1 (.slice (some ⟨b, 0, none⟩) (ls.length + 1) cap) (ls.length + 1) (encs encH hs ++ [encH x])) (hg : w.grownBy w1 v.ownBlock) (hne : some g ≠ v.ownBlock) (hge : ∀ k, v.ownBlock = some k → w0.heap.size ≤ k) (hty : ∀ k, v.ownBlock = some k → ∃ c f, w.heap[k]? = some (.cells c 38 f)) (hgb : g ≠ b) :
    RV w0 W1 g (w1.setCell ⟨g, 0, none⟩ (.slice (some ⟨b, 0, none⟩) (ls.length + 1) cap)) (.slice (some ⟨b, 0, none⟩) (ls.length + 1) cap) (ls ++ [l]) := by
  have hlen : (ls ++ [l]).length = ls.length + 1 := by simp
  have hc := blk_grown h.cell hg hne
  have hB := h.below.grown hg h.below.size hge
  refine ⟨h.ge, ?_, ⟨hs ++ [x], ?_, by simp [hl], fun i => ?_⟩, ?_, ?_⟩
  · have := blk_set hc 0 (.slice (some ⟨b, 0, none⟩) (ls.length + 1) cap)
    simpa using this
  · rw [hlen, encs_append]
    exact own_setCell ho (by simp [Value.ownBlock]; exact hgb) _
  · rw [getD_snoc, getD_snoc, hl]
    by_cases h1 : i < ls.length
    · rw [if_pos h1, if_pos h1]; exact hh i
    · rw [if_neg h1, if_neg h1]
      by_cases h2 : i = ls.length
      · rw [if_pos h2, if_pos h2]; exact hx
      · rw [if_neg h2, if_neg h2]; exact Hd.dflt _
  · exact hB.setCell (p := ⟨g, 0, none⟩) h.ge _
  · exact (h.fr.grown hg hty).set_ hc (.inr rfl) 0 _
set_option maxHeartbeats 8000000 in
set_option maxRecDepth 100000 in
theorem rests_push {w0 W1 w : World} {g : Nat} {v : Value} {ls : List (List S27)} (h : RV w0 W1 g w v ls) (hb : ls.length ≤ 1000000) (x : Hdr) (l : List S27) (hx : Hd w0 x l) :
    Calls Try.prog 74 #[.pointer (some ⟨g, 0, none⟩), .iface 38 (encH x)] w fun e w' => e = .returned (.tuple #[]) ∧ ∃ v', RV w0 W1 g w' v' (ls ++ [l]) ∧ Below w0.heap.size w w' := by
  obtain ⟨A, n, c⟩ := x
  obtain ⟨hs, h1, h2, h3⟩ := h.row
  obtain ⟨i0_, hi0, hz0, hz1, hz2⟩ := info_parts infoH38
  have hc := h.c0
  have hcc := fun o => Go.Lib.cell?_alloc_some o hc
  have hfz : w.frozen? ⟨g, 0, none⟩ = false := blk_frozen h.cell 0
  have hsz : w0.heap.size ≤ w.heap.size := h.below.size
  have hne := own_ne h1 h.cell (by decide)
  have HR := Aside0.mk h
  have HX := Aside0.mk hx
  have HO := Aside0.mk h1
  have H2 := Aside0.mk h2
  have H3 := Aside0.mk h3
  have HNE := Aside0.mk hne
  have HB := Aside0.mk hb
  obtain ⟨N, hN⟩ : ∃ N, N = ls.length := ⟨_, rfl⟩
  rw [← hN] at HO
  have HN := Aside0.mk hN
  clear h hx h1 h2 h3 hne hN hb
  have hu38 := Try.underlying38
  have hu55 := Try.underlying55
  have hlen : N + 1 ≤ maxLen := by have := HB.out; have := HN.out; unfold maxLen; omega
  have hbig : (N + 1) * 24 ≤ 140737488355328 := by have := HB.out; have := HN.out; omega
  have hta := assert38 (.slice A n c)
  simp only [encH]
  go_enter Try.func74, Try.ntmps74
  go_wp2
  go_region_law (refine step_append_lies _ (by rfl) (.tmp 7) (.tmp 10) 55 (by rfl) w0.heap.size 38 i0_ _ 1 24 Try.underlying55 hi0 hz0 hz1 hz2 rfl (by omega) v N (encs encH hs) (by rfl) (World.ownsRow.drew (HO.out.alloc _)) ⟨w.heap.size, 0, none⟩ 1 1 [.slice A n c] (by rfl) (by rfl) (World.news_of_block (cs := #[.slice A n c]) (t := 38) (fr := (0, 0)) (heap_alloc_new w _)) (by simp [Value.oneCell']) (by omega) hlen hbig (by simp; omega) (w.heap.size + 1) (by simp) ?_; intro gg cap w1 hown1 hgrow0 hat hltg; have hgrow : (w.alloc (.cells #[.slice A n c] 38)).grownBy w1 v.ownBlock := ⟨hgrow0.os, hgrow0.tape, hgrow0.output, hgrow0.size, hgrow0.block⟩; clear hgrow0; have hcW := blk_grown HR.out.cell ((World.grownBy_alloc w _ _).trans hgrow) HNE.out; have cX := (blk_cell hcW 0).trans rfl; have fX := blk_frozen hcW 0)
  all_goals
    have hgr := (World.grownBy_alloc w (.cells #[.slice A n c] 38) v.ownBlock).trans hgrow
    have hge : ∀ k, v.ownBlock = some k → w0.heap.size ≤ k := fun k hk => own_base HO.out k hk
    have hty : ∀ k, v.ownBlock = some k → ∃ c f, w.heap[k]? = some (.cells c 38 f) := fun k hk => by
      obtain ⟨cs, hcs⟩ := own_typed HO.out k hk
      exact ⟨cs, _, hcs⟩
    have hgb : g ≠ gg := by
      rcases hat with e | e
      · intro e2
        subst e2
        exact HNE.out e.symm
      · have := blk_lt HR.out.cell
        omega
    rw [HN.out] at hown1 ⊢
    have hp := HR.out.push H2.out H3.out ⟨A, n, c⟩ l HX.out hown1 hgr HNE.out hge hty hgb
    refine bodyPost_end (v := .tuple #[]) (by simp [results, Try.results74, go_sem]) rfl ⟨rfl, _, hp, ?_⟩
    exact ((Below.refl _ w).grown hgr hsz hge).setCell (p := ⟨g, 0, none⟩) HR.out.ge _
end Go.Proofs.Ytkkdpkfachpjeaa.PS
