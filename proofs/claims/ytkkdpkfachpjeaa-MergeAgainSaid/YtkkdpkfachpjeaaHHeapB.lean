/- Package container/heap's up and down over the rests of lists. Conditions: those of each statement. -/
import Derived.Test.YtkkdpkfachpjeaaHHeapA
namespace Go.Proofs.Ytkkdpkfachpjeaa.PS
open Go.RowKit Go.Lib Go.Proofs.Ytkkdpkfachpjeaa.OrdS Go.Proofs.YtkkdpkfachpjeaaW.PrintWords Go.Proofs.YtkkdpkfachpjeaaW.PrintLast Go.Proofs.YtkkdpkfachpjeaaW.PrintMore

theorem load55 (g : Nat) (v : Value) (w : World) (h : w.cell? ⟨g, 0, none⟩ = some v) : (loadVar 55 ⟨g, 0, none⟩).run Try.prog w = .ok v w := by
  have hu55 := Try.underlying55
  go_simp
theorem m_Less (g : Nat) (v : Value) (w : World) (h : w.cell? ⟨g, 0, none⟩ = some v) : Sem.run Try.prog (method 213 54 (.pointer (some ⟨g, 0, none⟩)) "Less") w = .ok (72, v) w := by
  have e : Sem.run Try.prog (method 213 54 (.pointer (some ⟨g, 0, none⟩)) "Less") w = Sem.run Try.prog (do let v ← loadVar 55 ⟨g, 0, none⟩; pure ((72 : Nat), v)) w := by kernel_rfl
  rw [e, Sem.run_bind, load55 g v w h]
  rfl
theorem m_Swap (g : Nat) (v : Value) (w : World) (h : w.cell? ⟨g, 0, none⟩ = some v) : Sem.run Try.prog (method 213 54 (.pointer (some ⟨g, 0, none⟩)) "Swap") w = .ok (75, v) w := by
  have e : Sem.run Try.prog (method 213 54 (.pointer (some ⟨g, 0, none⟩)) "Swap") w = Sem.run Try.prog (do let v ← loadVar 55 ⟨g, 0, none⟩; pure ((75 : Nat), v)) w := by kernel_rfl
  rw [e, Sem.run_bind, load55 g v w h]
  rfl
theorem m_Len (g : Nat) (v : Value) (w : World) (h : w.cell? ⟨g, 0, none⟩ = some v) : Sem.run Try.prog (method 213 54 (.pointer (some ⟨g, 0, none⟩)) "Len") w = .ok (25, v) w := by
  have e : Sem.run Try.prog (method 213 54 (.pointer (some ⟨g, 0, none⟩)) "Len") w = Sem.run Try.prog (do let v ← loadVar 55 ⟨g, 0, none⟩; pure ((25 : Nat), v)) w := by kernel_rfl
  rw [e, Sem.run_bind, load55 g v w h]
  rfl
theorem m_Push (g : Nat) (w : World) : Sem.run Try.prog (method 213 54 (.pointer (some ⟨g, 0, none⟩)) "Push") w = .ok (74, .pointer (some ⟨g, 0, none⟩)) w := by kernel_rfl
theorem m_Pop (g : Nat) (w : World) : Sem.run Try.prog (method 213 54 (.pointer (some ⟨g, 0, none⟩)) "Pop") w = .ok (73, .pointer (some ⟨g, 0, none⟩)) w := by kernel_rfl
theorem RV.c0 {w0 W1 w : World} {g : Nat} {v : Value} {ls : List (List S27)} (h : RV w0 W1 g w v ls) : w.cell? ⟨g, 0, none⟩ = some v := (blk_cell h.cell 0).trans rfl
set_option maxHeartbeats 4000000 in
set_option maxRecDepth 100000 in
theorem heap_up {w0 W1 w : World} {g : Nat} {v : Value} {ls : List (List S27)} (h : RV w0 W1 g w v ls) (n j : Nat) (hn : n = ls.length) (hb : n ≤ 1000000) (hj : j < n) (hne : ∀ l ∈ ls, l ≠ []) (hU : Heap.Up [] Mrg.L ls n j) :
    Calls Try.prog 34 #[.iface 54 (.pointer (some ⟨g, 0, none⟩)), .int .i64 (j : Int)] w fun e w' => e = .returned (.tuple #[]) ∧ ∃ ls', RV w0 W1 g w' v ls' ∧ ls'.Perm ls ∧ Heap.Heap [] Mrg.L ls' n ∧ Below w0.heap.size w w' := by
  have HN := Aside0.mk hn
  have HNE := Aside0.mk hne
  have HR0 := Aside0.mk h
  have HU0 := Aside0.mk hU
  have HJ0 := Aside0.mk hj
  clear hn hne h hU hj
  have eL : ∀ args w, (callFunc 72 args).run Try.prog w = .ok (.enter 72 args) w := enters_of Try.func72 (by kernel_rfl) rfl
  have eS : ∀ args w, (callFunc 75 args).run Try.prog w = .ok (.enter 75 args) w := enters_of Try.func75 (by kernel_rfl) rfl
  go_enter Try.func34, Try.ntmps34
  go_wp2
  go_loopg [1] j (fun kq v1 wr => ∃ ls1, v1 = .int .i64 (kq : Int) ∧ Aside0 (kq < n) ∧ Aside0 (RV w0 W1 g wr v ls1) ∧ Aside0 (ls1.Perm ls) ∧ Aside0 (Heap.Up [] Mrg.L ls1 n kq) ∧ Aside0 (Below w0.heap.size w wr))
  case atStart => exact ⟨ls, rfl, HJ0, HR0, ⟨List.Perm.refl _⟩, HU0, ⟨Below.refl _ _⟩⟩
  case round =>
    clear HR0 HU0 HJ0
    obtain ⟨ls1, rfl, HJ, HR, HP, HU, HB⟩ := hrel
    have hlen : ls1.length = n := by rw [HP.out.length_eq, HN.out]
    have HL := Aside0.mk hlen
    have hc := HR.out.c0
    have mL := m_Less g v wr hc
    cases gk with
    | zero =>
      go_wp2
      exact bodyPost_end (v := .tuple #[]) (by simp [results, Try.results34, go_sem]) rfl ⟨rfl, ls1, HR.out, HP.out, HU.out.done (.inl rfl), HB.out⟩
    | succ gko =>
      obtain ⟨j, hj⟩ : ∃ j : Nat, j = gko + 1 := ⟨_, rfl⟩
      rw [← hj] at HJ HU ⊢
      obtain ⟨p, hp⟩ : ∃ p : Nat, p = (j - 1) / 2 := ⟨_, rfl⟩
      have q1 : (j : Int) - 1 = (gko : Int) := by omega
      have q2 : (gko : Int) / 2 = (p : Int) := by omega
      have q0 : (gko : Int) ≤ 1000000 := by have := HJ.out; omega
      have q3 : (0 : Int) ≤ (gko : Int) := by omega
      have hne2 : ((p : Int) == (j : Int)) = false := by rw [beq_eq_false_iff_ne]; omega
      have hne3 : ¬ (p : Int) = (j : Int) := by omega
      have HJL : Aside0 (j < ls1.length) := ⟨by have := HL.out; have := HJ.out; omega⟩
      have HPL : Aside0 (p < ls1.length) := ⟨by have := HL.out; have := HJ.out; omega⟩
      have HE := Aside0.mk hp
      have HK := Aside0.mk hj
      clear hp hj
      have hg : ∀ k, k < ls1.length → Heap.g [] ls1 k ≠ [] := fun k hk => by
        rw [Heap.g_of _ _ k hk]
        exact HNE.out _ (HP.out.mem_iff.1 (List.getElem_mem hk))
      have HG := Aside0.mk hg
      clear hg
      have hless := rests_less HR.out j p HJL.out HPL.out HG.out
      have HLS := Aside0.mk hless
      clear hless
      go_wp2_with fail
      refine HLS.out.mono ?_
      rintro e w1 ⟨rfl, hb1⟩
      have HR1 := Aside0.mk (HR.out.mono hb1)
      have HB1 := Aside0.mk (below_then HB.out HR.out.below.size hb1)
      have hc1 := HR1.out.c0
      have mS := m_Swap g v w1 hc1
      clear hb1
      cases hlt : Mrg.L (Heap.g [] ls1 j) (Heap.g [] ls1 p) with
      | false =>
        have HLT := Aside0.mk hlt
        clear hlt
        go_wp2
        refine bodyPost_end (v := .tuple #[]) (by simp [results, Try.results34, go_sem]) rfl ⟨rfl, ls1, HR1.out, HP.out, HU.out.done (.inr ?_), HB1.out⟩
        rw [← HE.out]
        exact HLT.out
      | true =>
        have HLT := Aside0.mk hlt
        clear hlt
        go_wp2_with fail
        refine (rests_swap HR1.out p j HPL.out HJL.out).mono ?_
        rintro e w2 ⟨rfl, hr2, hb2⟩
        have HR2 := Aside0.mk hr2
        have HB2 := Aside0.mk (HB1.out.trans hb2)
        clear hr2 hb2 mS mL hc hc1
        go_wp2
        go_roundg p
        case measure => have := HK.out; omega
        case rel =>
          refine ⟨_, rfl, ⟨by have := HE.out; have := HJ.out; omega⟩, HR2, ⟨(Heap.sw_perm [] ls1 p j HPL.out HJL.out).trans HP.out⟩, ⟨?_⟩, HB2⟩
          have h1 := HU.out.step Mrg.ordL (by rw [HL.out]; exact Nat.le_refl _) (by have := HK.out; omega) HJ.out (by rw [← HE.out]; exact HLT.out)
          rw [← HE.out] at h1
          exact h1
end Go.Proofs.Ytkkdpkfachpjeaa.PS
