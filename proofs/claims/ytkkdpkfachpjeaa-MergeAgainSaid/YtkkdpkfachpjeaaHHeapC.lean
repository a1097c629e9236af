/- Package container/heap's up and down over the rests of lists. Conditions: those of each statement. -/
import Derived.Test.YtkkdpkfachpjeaaHHeapB
namespace Go.Proofs.Ytkkdpkfachpjeaa.PS
open Go.RowKit Go.Lib Go.Proofs.Ytkkdpkfachpjeaa.OrdS Go.Proofs.YtkkdpkfachpjeaaW.PrintWords Go.Proofs.YtkkdpkfachpjeaaW.PrintLast Go.Proofs.YtkkdpkfachpjeaaW.PrintMore

set_option maxHeartbeats 4000000 in
set_option maxRecDepth 100000 in
theorem heap_down {w0 W1 w : World} {g : Nat} {v : Value} {ls : List (List S27)} (h : RV w0 W1 g w v ls) (n : Nat) (hn : n ≤ ls.length) (hb : ls.length ≤ 1000000) (hne : ∀ l ∈ ls, l ≠ []) (hD : Heap.Dn [] Mrg.L ls n 0) :
    Calls Try.prog 35 #[.iface 54 (.pointer (some ⟨g, 0, none⟩)), .int .i64 0, .int .i64 (n : Int)] w fun e w' => ∃ b ls', e = .returned (.bool b) ∧ RV w0 W1 g w' v ls' ∧ ls'.Perm ls ∧ Heap.Heap [] Mrg.L ls' n ∧ (∀ k, n ≤ k → Heap.g [] ls' k = Heap.g [] ls k) ∧ Below w0.heap.size w w' := by
  have HN := Aside0.mk hn
  have HB0 := Aside0.mk hb
  have HNE := Aside0.mk hne
  have HR0 := Aside0.mk h
  have HD0 := Aside0.mk hD
  clear hn hb hne h hD
  have eL : ∀ args w, (callFunc 72 args).run Try.prog w = .ok (.enter 72 args) w := enters_of Try.func72 (by kernel_rfl) rfl
  have eS : ∀ args w, (callFunc 75 args).run Try.prog w = .ok (.enter 75 args) w := enters_of Try.func75 (by kernel_rfl) rfl
  go_enter Try.func35, Try.ntmps35
  go_wp2
  go_loopg [7] n (fun kq v7 wr => ∃ (ls1 : List (List S27)) (i : Nat), v7 = .int .i64 (i : Int) ∧ Aside0 (kq + i = n) ∧ Aside0 (i = 0 ∨ i < n) ∧ Aside0 (RV w0 W1 g wr v ls1) ∧ Aside0 (ls1.Perm ls) ∧ Aside0 (Heap.Dn [] Mrg.L ls1 n i) ∧ Aside0 (∀ k, n ≤ k → Heap.g [] ls1 k = Heap.g [] ls k) ∧ Aside0 (Below w0.heap.size w wr))
  case atStart => exact ⟨ls, 0, rfl, ⟨by omega⟩, ⟨.inl rfl⟩, HR0, ⟨List.Perm.refl _⟩, HD0, ⟨fun _ _ => rfl⟩, ⟨Below.refl _ _⟩⟩
  case round =>
    clear HR0 HD0
    obtain ⟨ls1, i, rfl, HI, HI0, HR, HP, HD, HK, HB⟩ := hrel
    have hlen : ls1.length = ls.length := HP.out.length_eq
    have HL := Aside0.mk hlen
    clear hlen
    have hg : ∀ k, k < ls1.length → Heap.g [] ls1 k ≠ [] := fun k hk => by
      rw [Heap.g_of _ _ k hk]
      exact HNE.out _ (HP.out.mem_iff.1 (List.getElem_mem hk))
    have HG := Aside0.mk hg
    clear hg
    have hc := HR.out.c0
    have mL := m_Less g v wr hc
    obtain ⟨a, ha⟩ : ∃ a : Nat, a = 2 * i + 1 := ⟨_, rfl⟩
    have hi1 : (i : Int) ≤ 1000000 := by have := HI.out; have := HN.out; have := HB0.out; omega
    have hi2 : (0 : Int) ≤ (i : Int) := by omega
    have qa : 2 * (i : Int) + 1 = (a : Int) := by omega
    have qa0 : (0 : Int) ≤ (a : Int) := by omega
    have qa1 : (a : Int) ≤ 2000001 := by omega
    have HA := Aside0.mk ha
    clear ha
    by_cases h1 : a < n
    · obtain ⟨b, hb⟩ : ∃ b : Nat, b = a + 1 := ⟨_, rfl⟩
      have qb : (a : Int) + 1 = (b : Int) := by omega
      have qb0 : (0 : Int) ≤ (b : Int) := by omega
      have HBB := Aside0.mk hb
      have HAN := Aside0.mk h1
      have HAL : Aside0 (a < ls1.length) := ⟨by have := HL.out; have := HN.out; omega⟩
      have HIL : Aside0 (i < ls1.length) := ⟨by have := HL.out; have := HN.out; have := HA.out; omega⟩
      clear hb
      by_cases h2 : b < n
      · have HBN := Aside0.mk h2
        have HBL : Aside0 (b < ls1.length) := ⟨by have := HL.out; have := HN.out; omega⟩
        go_wp2_with fail
        refine (rests_less HR.out b a HBL.out HAL.out HG.out).mono ?_
        rintro e w1 ⟨rfl, hb1⟩
        have HR1 := Aside0.mk (HR.out.mono hb1)
        have HB1 := Aside0.mk (below_then HB.out HR.out.below.size hb1)
        have hc1 := HR1.out.c0
        have mL1 := m_Less g v w1 hc1
        clear hb1
        cases hba : Mrg.L (Heap.g [] ls1 b) (Heap.g [] ls1 a) with
        | true =>
          have HM : Aside0 (∀ k, 0 < k → k < n → (k - 1) / 2 = i → Heap.le Mrg.L (Heap.g [] ls1 b) (Heap.g [] ls1 k)) := ⟨fun k h0 hk hp => by
            rcases (by have := HA.out; have := HBB.out; omega : k = a ∨ k = b) with rfl | rfl
            · exact Mrg.ordL.lt_le hba
            · exact Mrg.ordL.refl _⟩
          clear hba
          go_wp2_with fail
          refine (rests_less HR1.out b i HBL.out HIL.out HG.out).mono ?_
          rintro e w8 ⟨rfl, hb8⟩
          have HR8 := Aside0.mk (HR1.out.mono hb8)
          have HB8 := Aside0.mk (below_then HB1.out HR1.out.below.size hb8)
          have hc8 := HR8.out.c0
          have mS := m_Swap g v w8 hc8
          clear hb8
          cases hlt : Mrg.L (Heap.g [] ls1 b) (Heap.g [] ls1 i) with
          | false =>
            have HLT := Aside0.mk hlt
            clear hlt
            go_wp2
            go_ret
            refine ⟨_, ls1, rfl, HR8.out, HP.out, HD.out.done (fun k h0 hk hp => ?_), HK.out, HB8.out⟩
            exact Mrg.ordL.trans _ (Heap.g [] ls1 b) _ HLT.out (HM.out k h0 hk hp)
          | true =>
            have HLT := Aside0.mk hlt
            clear hlt
            go_wp2_with fail
            refine (rests_swap HR8.out i b HIL.out HBL.out).mono ?_
            rintro e w9 ⟨rfl, hr9, hb9⟩
            have HR9 := Aside0.mk hr9
            have HB9 := Aside0.mk (HB8.out.trans hb9)
            clear hr9 hb9 mS mL hc hc8
            go_wp2
            go_roundg (n - b)
            case measure => have := HI.out; have := HA.out; omega
            case rel =>
              refine ⟨_, b, rfl, ⟨by omega⟩, ⟨.inr HBN.out⟩, HR9, ⟨(Heap.sw_perm [] ls1 i b HIL.out HBL.out).trans HP.out⟩, ⟨HD.out.step Mrg.ordL (by rw [HL.out]; exact HN.out) (by have := HBN.out; have := HA.out; omega) (by have := HA.out; omega) HBN.out (by have := HA.out; omega) HLT.out HM.out⟩, ⟨fun k hk => ?_⟩, HB9⟩
              rw [Heap.sw_g [] ls1 i b k HIL.out HBL.out, if_neg (by have := HBN.out; omega), if_neg (by have := HBN.out; have := HA.out; omega)]
              exact HK.out k hk
        | false =>
          have HM : Aside0 (∀ k, 0 < k → k < n → (k - 1) / 2 = i → Heap.le Mrg.L (Heap.g [] ls1 a) (Heap.g [] ls1 k)) := ⟨fun k h0 hk hp => by
            rcases (by have := HA.out; have := HBB.out; omega : k = a ∨ k = b) with rfl | rfl
            · exact Mrg.ordL.refl _
            · exact hba⟩
          clear hba
          go_wp2_with fail
          refine (rests_less HR1.out a i HAL.out HIL.out HG.out).mono ?_
          rintro e w8 ⟨rfl, hb8⟩
          have HR8 := Aside0.mk (HR1.out.mono hb8)
          have HB8 := Aside0.mk (below_then HB1.out HR1.out.below.size hb8)
          have hc8 := HR8.out.c0
          have mS := m_Swap g v w8 hc8
          clear hb8
          cases hlt : Mrg.L (Heap.g [] ls1 a) (Heap.g [] ls1 i) with
          | false =>
            have HLT := Aside0.mk hlt
            clear hlt
            go_wp2
            go_ret
            refine ⟨_, ls1, rfl, HR8.out, HP.out, HD.out.done (fun k h0 hk hp => ?_), HK.out, HB8.out⟩
            exact Mrg.ordL.trans _ (Heap.g [] ls1 a) _ HLT.out (HM.out k h0 hk hp)
          | true =>
            have HLT := Aside0.mk hlt
            clear hlt
            go_wp2_with fail
            refine (rests_swap HR8.out i a HIL.out HAL.out).mono ?_
            rintro e w9 ⟨rfl, hr9, hb9⟩
            have HR9 := Aside0.mk hr9
            have HB9 := Aside0.mk (HB8.out.trans hb9)
            clear hr9 hb9 mS mL hc hc8
            go_wp2
            go_roundg (n - a)
            case measure => have := HI.out; have := HA.out; omega
            case rel =>
              refine ⟨_, a, rfl, ⟨by omega⟩, ⟨.inr HAN.out⟩, HR9, ⟨(Heap.sw_perm [] ls1 i a HIL.out HAL.out).trans HP.out⟩, ⟨HD.out.step Mrg.ordL (by rw [HL.out]; exact HN.out) (by have := HAN.out; have := HA.out; omega) (by have := HA.out; omega) HAN.out (by have := HA.out; omega) HLT.out HM.out⟩, ⟨fun k hk => ?_⟩, HB9⟩
              rw [Heap.sw_g [] ls1 i a k HIL.out HAL.out, if_neg (by have := HAN.out; omega), if_neg (by have := HAN.out; have := HA.out; omega)]
              exact HK.out k hk
      · have h2' : n ≤ b := by omega
        have HM : Aside0 (∀ k, 0 < k → k < n → (k - 1) / 2 = i → Heap.le Mrg.L (Heap.g [] ls1 a) (Heap.g [] ls1 k)) := ⟨fun k h0 hk hp => by
          obtain rfl : k = a := by have := HA.out; have := HBB.out; omega
          exact Mrg.ordL.refl _⟩
        go_wp2_with fail
        refine (rests_less HR.out a i HAL.out HIL.out HG.out).mono ?_
        rintro e w8 ⟨rfl, hb8⟩
        have HR8 := Aside0.mk (HR.out.mono hb8)
        have HB8 := Aside0.mk (below_then HB.out HR.out.below.size hb8)
        have hc8 := HR8.out.c0
        have mS := m_Swap g v w8 hc8
        clear hb8
        cases hlt : Mrg.L (Heap.g [] ls1 a) (Heap.g [] ls1 i) with
        | false =>
          have HLT := Aside0.mk hlt
          clear hlt
          go_wp2
          go_ret
          refine ⟨_, ls1, rfl, HR8.out, HP.out, HD.out.done (fun k h0 hk hp => ?_), HK.out, HB8.out⟩
          exact Mrg.ordL.trans _ (Heap.g [] ls1 a) _ HLT.out (HM.out k h0 hk hp)
        | true =>
          have HLT := Aside0.mk hlt
          clear hlt
          go_wp2_with fail
          refine (rests_swap HR8.out i a HIL.out HAL.out).mono ?_
          rintro e w9 ⟨rfl, hr9, hb9⟩
          have HR9 := Aside0.mk hr9
          have HB9 := Aside0.mk (HB8.out.trans hb9)
          clear hr9 hb9 mS mL hc hc8
          go_wp2
          go_roundg (n - a)
          case measure => have := HI.out; have := HA.out; omega
          case rel =>
            refine ⟨_, a, rfl, ⟨by omega⟩, ⟨.inr HAN.out⟩, HR9, ⟨(Heap.sw_perm [] ls1 i a HIL.out HAL.out).trans HP.out⟩, ⟨HD.out.step Mrg.ordL (by rw [HL.out]; exact HN.out) (by have := HAN.out; have := HA.out; omega) (by have := HA.out; omega) HAN.out (by have := HA.out; omega) HLT.out HM.out⟩, ⟨fun k hk => ?_⟩, HB9⟩
            rw [Heap.sw_g [] ls1 i a k HIL.out HAL.out, if_neg (by have := HAN.out; omega), if_neg (by have := HAN.out; have := HA.out; omega)]
            exact HK.out k hk
    · have h1' : n ≤ a := by omega
      go_wp2
      go_ret
      refine ⟨_, ls1, rfl, HR.out, HP.out, HD.out.done (fun k h0 hk hp => ?_), HK.out, HB.out⟩
      have := HA.out
      omega
end Go.Proofs.Ytkkdpkfachpjeaa.PS
