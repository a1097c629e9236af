/- micro.float at any text: one part, a function literal. -/
import Derived.Test.YtnfjohpecedpnaaGreatDoorPMx5
import Derived.Test.YtnfjohpecedpnaaGreatDoorHWhen
set_option linter.unusedVariables false
namespace Go.Proofs.YtnfjohpecedpnaaGreatDoor.PM
open Go.RowKit Go.Proofs.YtnfjohpecedpnaaGreatDoor.Glob Go.Proofs.YtnfjohpecedpnaaGreatDoorW.PrintWords Go.Proofs.YtnfjohpecedpnaaGreatDoorW.PrintLast Go.Proofs.YtnfjohpecedpnaaGreatDoorW.PrintMore

def pFloat (k : Nat) : Part := ⟨52, fun s b => micro_float_1.f k s b⟩
theorem pFloat.good (k : Nat) : (pFloat k).Good := by
  refine ⟨enters_of Tryz.func52 (by kernel_rfl) rfl, fun w0 w g s s' b b' hI hB hG h => ?_⟩
  exact (micro_float_1.calls k g s b s' b' w0 w hI hB hG h).mono fun e w' ⟨he, h1, h2, h3⟩ => ⟨⟨_, he⟩, h1, h2, h3⟩
def floatF (k : Nat) (s : ByteArray) : Option Bool := if s.size > 40 then some false else wholeF [pFloat k] s
set_option maxRecDepth 100000 in
set_option maxHeartbeats 4000000 in
theorem float_walk (k : Nat) (s : ByteArray) (r : Bool) (w : World) (hG : GW w) (h : floatF k s = some r) : Calls Tryz.prog 22 #[.string s] w fun e w' => e = .returned (.bool r) ∧ Below w.heap.size w w' := by
  unfold floatF at h
  by_cases h40 : s.size > 40
  · rw [if_pos h40] at h
    obtain rfl := Option.some.inj h
    have d : decide (40 < (s.size : Int)) = true := decide_eq_true (by omega)
    clear h hG
    go_enter Tryz.func22, Tryz.ntmps22
    go_wp2
    go_ret
    exact ⟨rfl, Below.refl _ _⟩
  · rw [if_neg h40] at h
    have d : decide (40 < (s.size : Int)) = false := decide_eq_false (by omega)
    have c1 : ∀ W, Below w.heap.size w W → Calls Tryz.prog 51 #[.string s, .slice (some ⟨W.heap.size, 0, none⟩) 1 1] (W.alloc (.cells #[.func (.func 52) #[] #[]] 69)) fun e w' => e = .returned (.bool r) ∧ Below w.heap.size w w' := fun W hW => (one_part (pFloat k) (pFloat.good k) s r W (hG.below hW) h 69).mono fun e w' ⟨he, hb⟩ => ⟨he, hW.trans (hb.mono hW.size)⟩
    clear h hG h40
    go_enter Tryz.func22, Tryz.ntmps22
    go_wp2_with (go_at_call 51; refine (c1 _ (Below.refl _ _)).mono ?_; rintro e w1 ⟨rfl, hb⟩; have B1 := Aside0.mk hb; clear hb)
    go_ret
    exact ⟨rfl, B1.out⟩
end Go.Proofs.YtnfjohpecedpnaaGreatDoor.PM
