/- micro.when at any text: a date, a month, a time, or both with a zone. -/
import Derived.Test.YtnfjohpecedpnaaGreatDoorHParts
namespace Go.Proofs.YtnfjohpecedpnaaGreatDoor.PM
open Go.RowKit Go.Proofs.YtnfjohpecedpnaaGreatDoor.Glob Go.Proofs.YtnfjohpecedpnaaGreatDoorW.PrintWords Go.Proofs.YtnfjohpecedpnaaGreatDoorW.PrintLast Go.Proofs.YtnfjohpecedpnaaGreatDoorW.PrintMore

def whenF (k : Nat) (s : ByteArray) : Option Bool := (wholeF [pDate k] s).bind fun a => if a = true then some true else (wholeF [pMonth k] s).bind fun b => if b = true then some true else (wholeF [pTime k] s).bind fun c => if c = true then some true else wholeF [pDate k, pSplit, pTime k, pZone k] s
theorem one_part (p : Part) (hp : p.Good) (s : ByteArray) (r : Bool) (w : World) (hG : GW w) (h : wholeF [p] s = some r) (t : TypeId) :
    Calls Tryz.prog 51 #[.string s, .slice (some ⟨w.heap.size, 0, none⟩) 1 1] (w.alloc (.cells #[.func (.func p.fn) #[] #[]] t)) fun e w' => e = .returned (.bool r) ∧ Below w.heap.size w w' := by
  refine (whole_walk [p] (fun q hq => by rw [List.mem_singleton] at hq; exact hq ▸ hp) (by simp) s r w.heap.size (w.alloc (.cells #[.func (.func p.fn) #[] #[]] t)) (hG.alloc _) (fun i q hq => ?_) h).mono fun e w' ⟨he, hb⟩ => ⟨he, ((Below.refl _ _).alloc (Nat.le_refl _) _).trans (hb.mono (by simp))⟩
  match i, hq with
  | 0, hq =>
    cases hq
    simp
theorem four_parts (a b c d : Part) (ha : a.Good) (hb : b.Good) (hc : c.Good) (hd : d.Good) (s : ByteArray) (r : Bool) (w : World) (hG : GW w) (h : wholeF [a, b, c, d] s = some r) (t : TypeId) :
    Calls Tryz.prog 51 #[.string s, .slice (some ⟨w.heap.size, 0, none⟩) 4 4] (w.alloc (.cells #[.func (.func a.fn) #[] #[], .func (.func b.fn) #[] #[], .func (.func c.fn) #[] #[], .func (.func d.fn) #[] #[]] t)) fun e w' => e = .returned (.bool r) ∧ Below w.heap.size w w' := by
  obtain ⟨cs, hcs⟩ : ∃ cs : Array Value, cs = #[.func (.func a.fn) #[] #[], .func (.func b.fn) #[] #[], .func (.func c.fn) #[] #[], .func (.func d.fn) #[] #[]] := ⟨_, rfl⟩
  rw [← hcs]
  have hcell : ∀ (i : Nat) v, cs[i]? = some v → (w.alloc (.cells cs t)).cell? ⟨w.heap.size, i, none⟩ = some v := fun i v hv => by
    have := World.news_of_block (cs := cs) (t := t) (fr := (0, 0)) (heap_alloc_new w (.cells cs t)) i v (by simpa using hv)
    rwa [show (⟨w.heap.size, 0, none⟩ : Addr).add i = ⟨w.heap.size, i, none⟩ from by (simp only [Addr.add, Nat.zero_add]; split <;> simp_all)] at this
  refine (whole_walk [a, b, c, d] (fun q hq => ?_) (by simp) s r w.heap.size (w.alloc (.cells cs t)) (hG.alloc _) (fun i q hq => hcell i _ ?_) h).mono fun e w' ⟨he, hb⟩ => ⟨he, ((Below.refl _ _).alloc (Nat.le_refl _) _).trans (hb.mono (by simp))⟩
  · have : q = a ∨ q = b ∨ q = c ∨ q = d := by simpa using hq
    rcases this with rfl | rfl | rfl | rfl <;> assumption
  · rw [hcs]
    match i, hq with
    | 0, hq => cases hq; rfl
    | 1, hq => cases hq; rfl
    | 2, hq => cases hq; rfl
    | 3, hq => cases hq; rfl
set_option maxRecDepth 100000 in
set_option maxHeartbeats 4000000 in
theorem when_walk (k : Nat) (s : ByteArray) (r : Bool) (w : World) (hG : GW w) (h : whenF k s = some r) : Calls Tryz.prog 25 #[.string s] w fun e w' => e = .returned (.bool r) ∧ Below w.heap.size w w' := by
  have C1 : ∀ (p : Part), p.Good → ∀ a, wholeF [p] s = some a → ∀ W, Below w.heap.size w W → Calls Tryz.prog 51 #[.string s, .slice (some ⟨W.heap.size, 0, none⟩) 1 1] (W.alloc (.cells #[.func (.func p.fn) #[] #[]] 69)) fun e w' => e = .returned (.bool a) ∧ Below w.heap.size w w' := fun p hp a ha W hW => (one_part p hp s a W (hG.below hW) ha 69).mono fun e w' ⟨he, hb⟩ => ⟨he, hW.trans (hb.mono hW.size)⟩
  unfold whenF at h
  obtain ⟨a, ha, h⟩ := Option.bind_eq_some_iff.1 h
  have c1 := C1 (pDate k) (pDate.good k) a ha
  cases a with
  | true =>
    obtain rfl : r = true := by simpa using h.symm
    clear ha
    clear h C1 hG
    go_enter Tryz.func25, Tryz.ntmps25
    go_wp2_with (go_at_call 51; refine (c1 _ (Below.refl _ _)).mono ?_; rintro e w1 ⟨rfl, hb⟩; have B1 := Aside0.mk hb; clear hb)
    go_ret
    exact ⟨rfl, B1.out⟩
  | false =>
    rw [if_neg (by decide)] at h
    obtain ⟨b, hb, h⟩ := Option.bind_eq_some_iff.1 h
    have c2 := C1 (pMonth k) (pMonth.good k) b hb
    cases b with
    | true =>
      obtain rfl : r = true := by simpa using h.symm
      clear ha hb
      clear h C1 hG
      go_enter Tryz.func25, Tryz.ntmps25
      go_wp2_with (first | (go_at_call 51; refine (c2 _ B1.out).mono ?_; rintro e w2 ⟨rfl, hb⟩; have B2 := Aside0.mk hb; clear hb) | (go_at_call 51; refine (c1 _ (Below.refl _ _)).mono ?_; rintro e w1 ⟨rfl, hb⟩; have B1 := Aside0.mk hb; clear hb))
      go_ret
      exact ⟨rfl, B2.out⟩
    | false =>
      rw [if_neg (by decide)] at h
      obtain ⟨c, hc, h⟩ := Option.bind_eq_some_iff.1 h
      have c3 := C1 (pTime k) (pTime.good k) c hc
      cases c with
      | true =>
        obtain rfl : r = true := by simpa using h.symm
        clear ha hb hc
        clear h C1 hG
        go_enter Tryz.func25, Tryz.ntmps25
        go_wp2_with (first | (go_at_call 51; refine (c3 _ B2.out).mono ?_; rintro e w3 ⟨rfl, hb⟩; have B3 := Aside0.mk hb; clear hb) | (go_at_call 51; refine (c2 _ B1.out).mono ?_; rintro e w2 ⟨rfl, hb⟩; have B2 := Aside0.mk hb; clear hb) | (go_at_call 51; refine (c1 _ (Below.refl _ _)).mono ?_; rintro e w1 ⟨rfl, hb⟩; have B1 := Aside0.mk hb; clear hb))
        go_ret
        exact ⟨rfl, B3.out⟩
      | false =>
        rw [if_neg (by decide)] at h
        have c4 : ∀ W, Below w.heap.size w W → Calls Tryz.prog 51 #[.string s, .slice (some ⟨W.heap.size, 0, none⟩) 4 4] (W.alloc (.cells #[.func (.func (pDate k).fn) #[] #[], .func (.func pSplit.fn) #[] #[], .func (.func (pTime k).fn) #[] #[], .func (.func (pZone k).fn) #[] #[]] 69)) fun e w' => e = .returned (.bool r) ∧ Below w.heap.size w w' := fun W hW => (four_parts (pDate k) pSplit (pTime k) (pZone k) (pDate.good k) pSplit.good (pTime.good k) (pZone.good k) s r W (hG.below hW) h 69).mono fun e w' ⟨he, hb⟩ => ⟨he, hW.trans (hb.mono hW.size)⟩
        clear ha hb hc
        clear h C1 hG
        go_enter Tryz.func25, Tryz.ntmps25
        go_wp2_with (first | (go_at_call 51; refine (c4 _ B3.out).mono ?_; rintro e w4 ⟨rfl, hb⟩; have B4 := Aside0.mk hb; clear hb) | (go_at_call 51; refine (c3 _ B2.out).mono ?_; rintro e w3 ⟨rfl, hb⟩; have B3 := Aside0.mk hb; clear hb) | (go_at_call 51; refine (c2 _ B1.out).mono ?_; rintro e w2 ⟨rfl, hb⟩; have B2 := Aside0.mk hb; clear hb) | (go_at_call 51; refine (c1 _ (Below.refl _ _)).mono ?_; rintro e w1 ⟨rfl, hb⟩; have B1 := Aside0.mk hb; clear hb))
        go_ret
        exact ⟨rfl, B4.out⟩
end Go.Proofs.YtnfjohpecedpnaaGreatDoor.PM
