/- Package merge's Push and Pop, and package container/heap's Push, Pop and Fix over the rests of lists. Conditions: those of each statement. -/
import Derived.Test.YtkkdpkfachpjeaaHHeapD
namespace Go.Proofs.Ytkkdpkfachpjeaa.PS
open Go.RowKit Go.Lib Go.Proofs.Ytkkdpkfachpjeaa.OrdS Go.Proofs.YtkkdpkfachpjeaaW.PrintWords Go.Proofs.YtkkdpkfachpjeaaW.PrintLast Go.Proofs.YtkkdpkfachpjeaaW.PrintMore

theorem RV.pop {w0 W1 w : World} {g b cap : Nat} {ls : List (List S27)} {n : Nat} (h : RV w0 W1 g w (.slice (some ⟨b, 0, none⟩) ls.length cap) ls) (hn : n ≤ ls.length) : RV w0 W1 g (w.setCell ⟨g, 0, none⟩ (.slice (some ⟨b, 0, none⟩) n cap)) (.slice (some ⟨b, 0, none⟩) n cap) (ls.take n) := by
  obtain ⟨hs, h1, h2, h3⟩ := h.row
  have hgb : some g ≠ (.slice (some ⟨b, 0, none⟩) ls.length cap : Value).ownBlock := own_ne h1 h.cell (by decide)
  have hlen : (ls.take n).length = n := by rw [List.length_take]; omega
  have ht := own_take h1 hn
  refine ⟨h.ge, ?_, ⟨hs.take n, ?_, by rw [List.length_take, List.length_take, h2], fun i => ?_⟩, h.below.setCell (p := ⟨g, 0, none⟩) h.ge _, h.fr.set_ h.cell (.inr rfl) 0 _⟩
  · have := blk_set h.cell 0 (.slice (some ⟨b, 0, none⟩) n cap)
    simpa using this
  · rw [hlen]
    have e : encs encH (hs.take n) = (encs encH hs).take (n * 1) := by rw [Nat.mul_one]; exact List.map_take ..
    rw [e]
    exact own_setCell ht (by simpa [Value.ownBlock] using hgb) _
  · by_cases hi : i < n
    · have e1 : (hs.take n).getD i dH = hs.getD i dH := by rw [List.getD_eq_getElem?_getD, List.getD_eq_getElem?_getD, List.getElem?_take, if_pos hi]
      have e2 : (ls.take n).getD i [] = ls.getD i [] := by rw [List.getD_eq_getElem?_getD, List.getD_eq_getElem?_getD, List.getElem?_take, if_pos hi]
      rw [e1, e2]
      exact h3 i
    · have e1 : (hs.take n).getD i dH = dH := by rw [List.getD_eq_getElem?_getD, List.getElem?_take, if_neg hi]; rfl
      have e2 : (ls.take n).getD i [] = [] := by rw [List.getD_eq_getElem?_getD, List.getElem?_take, if_neg hi]; rfl
      rw [e1, e2]
      exact Hd.dflt _
set_option maxHeartbeats 8000000 in
set_option maxRecDepth 100000 in
theorem rests_pop {w0 W1 w : World} {g : Nat} {v : Value} {ls : List (List S27)} (h : RV w0 W1 g w v ls) (hb : ls.length ≤ 1000000) (n : Nat) (hn : n + 1 = ls.length) :
    Calls Try.prog 73 #[.pointer (some ⟨g, 0, none⟩)] w fun e w' => (∃ x, e = .returned x) ∧ ∃ v', RV w0 W1 g w' v' (ls.take n) ∧ Below w0.heap.size w w' := by
  obtain ⟨b, cap, rfl⟩ := h.form (by omega)
  obtain ⟨A, c, x, _, _⟩ := h.at_ n (by omega)
  have hc := h.c0
  have hfz : w.frozen? ⟨g, 0, none⟩ = false := blk_frozen h.cell 0
  have hp := h.pop (n := n) (by omega)
  have hcap : ls.length ≤ cap := by obtain ⟨hs, h1, _⟩ := h.row; exact own_le h1
  have HR := Aside0.mk h
  have HP := Aside0.mk hp
  have q0 : (0 : Int) ≤ (n : Int) := by omega
  have q1 : (n : Int) ≤ 1000000 := by omega
  obtain ⟨N, hN⟩ : ∃ N, N = ls.length := ⟨_, rfl⟩
  rw [← hN] at hc hcap hn
  have HN := Aside0.mk hN
  clear h hb hN hp
  have q2 : (N : Int) - 1 = (n : Int) := by omega
  have q3 : n < N := by omega
  have q4 : n ≤ cap := by omega
  have HQ := Aside0.mk hn
  clear hn
  generalize (Heap.g [] ls n).length = m at x
  have hu38 := Try.underlying38
  have hu55 := Try.underlying55
  go_enter Try.func73, Try.ntmps73
  go_wp2
  go_ret
  exact ⟨⟨_, rfl⟩, _, HP.out, (Below.refl _ w).setCell (p := ⟨g, 0, none⟩) HR.out.ge _⟩
/-! ### package container/heap -/
set_option maxHeartbeats 8000000 in
set_option maxRecDepth 100000 in
theorem heap_push {w0 W1 w : World} {g : Nat} {v : Value} {ls : List (List S27)} (h : RV w0 W1 g w v ls) (hb : ls.length < 1000000) (hne : ∀ l ∈ ls, l ≠ []) (hH : Heap.Heap [] Mrg.L ls ls.length) (x : Hdr) (l : List S27) (hx : Hd w0 x l) (hl : l ≠ []) :
    Calls Try.prog 24 #[.iface 54 (.pointer (some ⟨g, 0, none⟩)), .iface 38 (encH x)] w fun e w' => e = .returned (.tuple #[]) ∧ ∃ v' ls', RV w0 W1 g w' v' ls' ∧ ls'.Perm (ls ++ [l]) ∧ Heap.Heap [] Mrg.L ls' ls'.length ∧ Below w0.heap.size w w' := by
  have HR := Aside0.mk h
  have HB := Aside0.mk hb
  have HX := Aside0.mk hx
  have HU := Aside0.mk (Heap.Up.push (x := l) hH)
  have HNE : Aside0 (∀ k ∈ ls ++ [l], k ≠ []) := ⟨fun k hk => by
    rcases List.mem_append.1 hk with hk | hk
    · exact hne k hk
    · rw [List.mem_singleton] at hk; rw [hk]; exact hl⟩
  clear h hb hne hH hx hl
  have eP : ∀ args w, (callFunc 74 args).run Try.prog w = .ok (.enter 74 args) w := enters_of Try.func74 (by kernel_rfl) rfl
  have eN : ∀ args w, (callFunc 25 args).run Try.prog w = .ok (.enter 25 args) w := enters_of Try.func25 (by kernel_rfl) rfl
  have mP := m_Push g
  go_enter Try.func24, Try.ntmps24
  go_wp2_with fail
  refine (rests_push HR.out (Nat.le_of_lt HB.out) x l HX.out).mono ?_
  rintro e w1 ⟨rfl, v1, hr1, hb1⟩
  obtain ⟨A, c, rfl⟩ := hr1.slice_
  have HR1 := Aside0.mk hr1
  have HB1 := Aside0.mk hb1
  have hc1 := hr1.c0
  have mN := m_Len g _ w1 hc1
  have hlen : (ls ++ [l]).length = ls.length + 1 := by simp
  rw [hlen] at mN hc1 HR1
  obtain ⟨n, hn⟩ : ∃ n, n = ls.length := ⟨_, rfl⟩
  rw [← hn] at mN hc1 HR1 HU HB
  have HN := Aside0.mk hn
  obtain ⟨m, hm⟩ : ∃ m, m = n + 1 := ⟨_, rfl⟩
  rw [← hm] at mN hc1 HR1 HU
  have q0 : (n : Int) ≤ 1000000 := by have := HB.out; omega
  have q1 : (0 : Int) ≤ (n : Int) := by omega
  have q2 : (m : Int) - 1 = (n : Int) := by omega
  have HM := Aside0.mk hm
  clear hr1 hb1 hn hm hlen
  go_wp2_with fail
  refine (rests_len A m c w1).mono ?_
  rintro e w2 ⟨rfl, rfl⟩
  go_wp2_with fail
  refine (heap_up HR1.out m n (by have := HM.out; have := HN.out; simp; omega) (by have := HM.out; have := HB.out; omega) (by have := HM.out; omega) HNE.out HU.out).mono ?_
  rintro e w3 ⟨rfl, ls3, hr3, hp3, hh3, hb3⟩
  have HR3 := Aside0.mk hr3
  have HP3 := Aside0.mk hp3
  have HH3 := Aside0.mk hh3
  have HB3 := Aside0.mk (HB1.out.trans hb3)
  clear hr3 hp3 hh3 hb3
  go_wp2
  refine bodyPost_end (v := .tuple #[]) (by simp [results, Try.results24, go_sem]) rfl ⟨rfl, _, ls3, HR3.out, HP3.out, ?_, HB3.out⟩
  rw [HP3.out.length_eq, show (ls ++ [l]).length = m by have := HM.out; have := HN.out; simp; omega]
  exact HH3.out
end Go.Proofs.Ytkkdpkfachpjeaa.PS
