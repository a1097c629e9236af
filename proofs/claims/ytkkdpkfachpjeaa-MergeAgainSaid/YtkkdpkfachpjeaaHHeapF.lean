/- Package container/heap's Pop and Fix over the rests of lists. Conditions: those of each statement. -/
import Derived.Test.YtkkdpkfachpjeaaHHeapE
namespace Go.Proofs.Ytkkdpkfachpjeaa.PS
open Go.RowKit Go.Lib Go.Proofs.Ytkkdpkfachpjeaa.OrdS Go.Proofs.YtkkdpkfachpjeaaW.PrintWords Go.Proofs.YtkkdpkfachpjeaaW.PrintLast Go.Proofs.YtkkdpkfachpjeaaW.PrintMore

theorem take_g {l : List (List S27)} {n k : Nat} (hk : k < n) : Heap.g [] (l.take n) k = Heap.g [] l k := by
  unfold Heap.g
  rw [List.getD_eq_getElem?_getD, List.getD_eq_getElem?_getD, List.getElem?_take, if_pos hk]
theorem heap_take {l : List (List S27)} {n : Nat} (h : Heap.Heap [] Mrg.L l n) : Heap.Heap [] Mrg.L (l.take n) n := by
  intro k h0 hk
  rw [take_g hk, take_g (by omega)]
  exact h k h0 hk
theorem pop_perm {r : List S27} {t l2 : List (List S27)} {n : Nat} (hn : l2.length = n + 1) (hp : l2.Perm (r :: t)) (hl : Heap.g [] l2 n = r) : (l2.take n).Perm t := by
  have e : l2 = l2.take n ++ [r] := by
    rw [← hl, Heap.g_of [] l2 n (by omega), ← List.take_succ_eq_append_getElem (by omega), List.take_of_length_le (by omega)]
  have h1 : (l2.take n ++ [r]).Perm (r :: t) := by rw [← e]; exact hp
  have h2 : (r :: l2.take n).Perm (r :: t) := List.perm_append_comm (l₁ := [r]) (l₂ := l2.take n) |>.trans h1
  exact h2.cons_inv
set_option maxHeartbeats 8000000 in
set_option maxRecDepth 100000 in
theorem heap_pop {w0 W1 w : World} {g : Nat} {v : Value} {r : List S27} {t : List (List S27)} (h : RV w0 W1 g w v (r :: t)) (hb : (r :: t).length ≤ 1000000) (hne : ∀ l ∈ r :: t, l ≠ []) (hH : Heap.Heap [] Mrg.L (r :: t) (r :: t).length) :
    Calls Try.prog 26 #[.iface 54 (.pointer (some ⟨g, 0, none⟩))] w fun e w' => (∃ x, e = .returned x) ∧ ∃ v' ls', RV w0 W1 g w' v' ls' ∧ ls'.Perm t ∧ Heap.Heap [] Mrg.L ls' ls'.length ∧ Below w0.heap.size w w' := by
  obtain ⟨ls, hls⟩ : ∃ ls, ls = r :: t := ⟨_, rfl⟩
  rw [← hls] at h hb hne hH
  obtain ⟨n, hn⟩ : ∃ n, n + 1 = ls.length := ⟨t.length, by rw [hls]; rfl⟩
  have HLS := Aside0.mk hls
  have HR := Aside0.mk h
  have HB := Aside0.mk hb
  have HNE := Aside0.mk hne
  have HH := Aside0.mk hH
  obtain ⟨A, c, rfl⟩ := h.slice_
  have hc := h.c0
  obtain ⟨m, hm⟩ : ∃ m, m = n + 1 := ⟨_, rfl⟩
  have hml : ls.length = m := by omega
  rw [hml] at hc HR HB HH
  have HM := Aside0.mk hm
  have HL := Aside0.mk hml
  have q0 : (n : Int) ≤ 1000000 := by omega
  have q1 : (0 : Int) ≤ (n : Int) := by omega
  have q2 : (m : Int) - 1 = (n : Int) := by omega
  clear h hb hne hH hn hm hml hls
  have eN : ∀ args w, (callFunc 25 args).run Try.prog w = .ok (.enter 25 args) w := enters_of Try.func25 (by kernel_rfl) rfl
  have eS : ∀ args w, (callFunc 75 args).run Try.prog w = .ok (.enter 75 args) w := enters_of Try.func75 (by kernel_rfl) rfl
  have eO : ∀ args w, (callFunc 73 args).run Try.prog w = .ok (.enter 73 args) w := enters_of Try.func73 (by kernel_rfl) rfl
  have mO := m_Pop g
  have mN := m_Len g _ w hc
  have mS := m_Swap g _ w hc
  have HIL : Aside0 (0 < ls.length) := ⟨by have := HL.out; have := HM.out; omega⟩
  have HNL : Aside0 (n < ls.length) := ⟨by have := HL.out; have := HM.out; omega⟩
  have HD := Aside0.mk (Heap.Dn.last (l := ls) (n := n) (by have := HL.out; have := HM.out; omega) (by rw [← HM.out]; exact HH.out))
  go_enter Try.func26, Try.ntmps26
  go_wp2_with fail
  refine (rests_len A m c w).mono ?_
  rintro e w1 ⟨rfl, rfl⟩
  go_wp2_with fail
  refine (rests_swap HR.out 0 n HIL.out HNL.out).mono ?_
  rintro e w2 ⟨rfl, hr2, hb2⟩
  have HR2 := Aside0.mk hr2
  have HB2 := Aside0.mk hb2
  clear hr2 hb2 mN mS hc
  go_wp2_with fail
  refine (heap_down HR2.out n (by rw [Heap.sw_len]; exact Nat.le_of_lt HNL.out) (by rw [Heap.sw_len, HL.out]; exact HB.out) (fun l hl => HNE.out l ((Heap.sw_perm [] ls 0 n HIL.out HNL.out).mem_iff.1 hl)) HD.out).mono ?_
  rintro e w3 ⟨b, ls3, rfl, hr3, hp3, hh3, hk3, hb3⟩
  have HR3 := Aside0.mk hr3
  have HP3 := Aside0.mk (hp3.trans (Heap.sw_perm [] ls 0 n HIL.out HNL.out))
  have HH3 := Aside0.mk hh3
  have HK3 := Aside0.mk (hk3 n (Nat.le_refl _))
  have HB3 := Aside0.mk (HB2.out.trans hb3)
  clear hr3 hp3 hh3 hb3 hk3
  have HN3 : Aside0 (n + 1 = ls3.length) := ⟨by rw [HP3.out.length_eq, HL.out, HM.out]⟩
  go_wp2_with fail
  refine (rests_pop HR3.out (by have := HN3.out; have := HB.out; have := HM.out; omega) n HN3.out).mono ?_
  rintro e w4 ⟨⟨x, rfl⟩, v4, hr4, hb4⟩
  have HR4 := Aside0.mk hr4
  have HB4 := Aside0.mk (HB3.out.trans hb4)
  clear hr4 hb4
  go_wp2
  go_ret
  have hlen : (ls3.take n).length = n := by rw [List.length_take]; have := HN3.out; omega
  refine ⟨⟨_, rfl⟩, v4, ls3.take n, HR4.out, ?_, ?_, HB4.out⟩
  · refine pop_perm (r := r) HN3.out.symm (by rw [← HLS.out]; exact HP3.out) ?_
    rw [HK3.out, Heap.sw_g [] ls 0 n n HIL.out HNL.out, if_pos rfl, HLS.out]
    rfl
  · rw [hlen]
    exact heap_take HH3.out
set_option maxHeartbeats 8000000 in
set_option maxRecDepth 100000 in
theorem heap_fix {w0 W1 w : World} {g : Nat} {v : Value} {ls : List (List S27)} (h : RV w0 W1 g w v ls) (h0 : 0 < ls.length) (hb : ls.length ≤ 1000000) (hne : ∀ l ∈ ls, l ≠ []) (hD : Heap.Dn [] Mrg.L ls ls.length 0) :
    Calls Try.prog 27 #[.iface 54 (.pointer (some ⟨g, 0, none⟩)), .int .i64 0] w fun e w' => e = .returned (.tuple #[]) ∧ ∃ ls', RV w0 W1 g w' v ls' ∧ ls'.Perm ls ∧ Heap.Heap [] Mrg.L ls' ls'.length ∧ Below w0.heap.size w w' := by
  have HR := Aside0.mk h
  have HB := Aside0.mk hb
  have HNE := Aside0.mk hne
  have HD := Aside0.mk hD
  have H0 := Aside0.mk h0
  obtain ⟨A, c, rfl⟩ := h.slice_
  have hc := h.c0
  obtain ⟨m, hml⟩ : ∃ m, m = ls.length := ⟨_, rfl⟩
  rw [← hml] at hc HR HB HD H0
  have HL := Aside0.mk hml
  clear h hb hne hD hml h0
  have eN : ∀ args w, (callFunc 25 args).run Try.prog w = .ok (.enter 25 args) w := enters_of Try.func25 (by kernel_rfl) rfl
  have mN := m_Len g _ w hc
  go_enter Try.func27, Try.ntmps27
  go_wp2_with fail
  refine (rests_len A m c w).mono ?_
  rintro e w1 ⟨rfl, rfl⟩
  go_wp2_with fail
  refine (heap_down HR.out m (by rw [HL.out]; exact Nat.le_refl _) (by rw [← HL.out]; exact HB.out) HNE.out HD.out).mono ?_
  rintro e w3 ⟨b, ls3, rfl, hr3, hp3, hh3, _, hb3⟩
  have HR3 := Aside0.mk hr3
  have HP3 := Aside0.mk hp3
  have HH3 := Aside0.mk hh3
  have HB3 := Aside0.mk hb3
  clear hr3 hp3 hh3 hb3
  have HL3 : Aside0 (m = ls3.length) := ⟨by rw [HP3.out.length_eq, HL.out]⟩
  have HU3 : Aside0 (Heap.Up [] Mrg.L ls3 m 0) := ⟨⟨fun k h0 hk _ => HH3.out k h0 hk, fun _ _ _ _ h => absurd h (Nat.lt_irrefl 0)⟩⟩
  cases b with
  | true =>
    go_wp2
    refine bodyPost_end (v := .tuple #[]) (by simp [results, Try.results27, go_sem]) rfl ⟨rfl, ls3, (by rw [← HL.out]; exact HR3.out), HP3.out, ?_, HB3.out⟩
    rw [← HL3.out]
    exact HH3.out
  | false =>
    go_wp2_with fail
    refine (heap_up HR3.out m 0 HL3.out HB.out H0.out (fun l hl => HNE.out l (HP3.out.mem_iff.1 hl)) HU3.out).mono ?_
    rintro e w4 ⟨rfl, ls4, hr4, hp4, hh4, hb4⟩
    have HR4 := Aside0.mk hr4
    have HP4 := Aside0.mk (hp4.trans HP3.out)
    have HH4 := Aside0.mk hh4
    have HB4 := Aside0.mk (HB3.out.trans hb4)
    clear hr4 hp4 hh4 hb4
    go_wp2
    refine bodyPost_end (v := .tuple #[]) (by simp [results, Try.results27, go_sem]) rfl ⟨rfl, ls4, (by rw [← HL.out]; exact HR4.out), HP4.out, ?_, HB4.out⟩
    rw [HP4.out.length_eq, ← HL.out]
    exact HH4.out
end Go.Proofs.Ytkkdpkfachpjeaa.PS
