/- micro.Known: is the word of a kind one of eighteen? -/
import Derived.Test.YtnfjohpecedpnaaGreatDoorHKinds
set_option linter.unusedVariables false
namespace Go.Proofs.YtnfjohpecedpnaaGreatDoor.PM
open Go.RowKit Go.Lib Go.Proofs.YtnfjohpecedpnaaGreatDoor.Glob Go.Proofs.YtnfjohpecedpnaaGreatDoorW.PrintWords Go.Proofs.YtnfjohpecedpnaaGreatDoorW.PrintLast Go.Proofs.YtnfjohpecedpnaaGreatDoorW.PrintMore

def knownWords : List ByteArray := [⟨#[116, 101, 120, 116]⟩, ⟨#[102, 108, 97, 103]⟩, ⟨#[101, 110, 117, 109]⟩, ⟨#[105, 110, 116]⟩, ⟨#[110, 97, 116]⟩, ⟨#[112, 111, 115]⟩, ⟨#[115, 112, 97, 110]⟩, ⟨#[102, 108, 111, 97, 116]⟩, ⟨#[105, 100]⟩, ⟨#[116, 111, 107, 101, 110, 115]⟩, ⟨#[105, 100, 115]⟩, ⟨#[104, 97, 115, 104]⟩, ⟨#[119, 104, 101, 110]⟩, ⟨#[108, 97, 110, 103]⟩, ⟨#[109, 105, 109, 101]⟩, ⟨#[117, 114, 108]⟩, ⟨#[115, 114, 99, 115, 101, 116]⟩, ⟨#[99, 111, 111, 114, 100, 115]⟩]
def micro_Known.f (a0 : ByteArray) : Option Bool := if a0.size < 4294967281 ∧ (kRest a0).size < 4294967281 then some (Lib.containsS knownWords (kWord a0)) else none
theorem known_lit (x : ByteArray) (w : World) : Calls Tryz.prog 19 #[.slice (some ⟨w.heap.size, 0, none⟩) 18 18, .string x] (w.alloc (.cells (knownWords.map Value.string).toArray 9)) fun e w' => e = .returned (.bool (Lib.containsS knownWords x)) ∧ w' = w.alloc (.cells (knownWords.map Value.string).toArray 9) := by
  have := Tryz.slices_Contains_string w.heap.size 0 18 18 knownWords x (w.alloc (.cells (knownWords.map Value.string).toArray 9)) (by decide) (by decide) (fun j hj => by
    rw [Nat.zero_add, blk_cell (blk_new w _) j]
    have hj2 : j < knownWords.length := hj
    rw [← Array.getElem?_toList, List.toList_toArray, List.getElem?_map, List.getElem?_eq_getElem hj2, List.getD_eq_getElem?_getD, List.getElem?_eq_getElem hj2]
    rfl)
  rwa [show knownWords.take 18 = knownWords from rfl] at this
set_option maxRecDepth 100000 in
set_option maxHeartbeats 4000000 in
theorem micro_Known.calls (a0 : ByteArray) (r : Bool) (w : World) (hG : GW w) (h : micro_Known.f a0 = some r) : Calls Tryz.prog 14 #[.string a0] w fun e w' => e = .returned (.bool r) ∧ Below w.heap.size w w' := by
  unfold micro_Known.f at h
  split at h
  case isFalse => cases h
  rename_i hk
  obtain rfl := Option.some.inj h
  have c1 := kinds_walk a0 w hG hk
  have c2 := fun W => known_lit (kWord a0) W
  obtain ⟨kw, hkw⟩ : ∃ x, kWord a0 = x := ⟨_, rfl⟩
  rw [hkw] at c1 c2 ⊢
  obtain ⟨R, hR⟩ : ∃ R, Lib.containsS knownWords kw = R := ⟨_, rfl⟩
  rw [hR] at c2 ⊢
  clear h hkw hk hR hG
  go_enter Tryz.func14, Tryz.ntmps14
  go_wp2_with (first
    | (go_at_call 16; refine c1.mono ?_; rintro e w1 ⟨v1, rfl, ho, hb⟩; have B1 := Aside0.mk hb; clear ho hb)
    | (go_at_call 19; refine (c2 _).mono ?_; rintro e w2 ⟨rfl, rfl⟩))
  go_ret
  exact ⟨rfl, B1.out.alloc B1.out.size _⟩
end Go.Proofs.YtnfjohpecedpnaaGreatDoor.PM
