/- micro.Int at any text: a sign, digits, and nothing behind them. -/
import Derived.Test.YtnfjohpecedpnaaGreatDoorPMx2
import Derived.Test.YtnfjohpecedpnaaGreatDoorPMx3
import Derived.Outline
namespace Go.Proofs.YtnfjohpecedpnaaGreatDoor.PM
open Go.RowKit Go.Proofs.YtnfjohpecedpnaaGreatDoor.Glob Go.Proofs.YtnfjohpecedpnaaGreatDoorW.PrintWords Go.Proofs.YtnfjohpecedpnaaGreatDoorW.PrintLast Go.Proofs.YtnfjohpecedpnaaGreatDoorW.PrintMore

def micro_Int.f (k : Nat) (a0 : ByteArray) : Option (Int × Bool) := (micro_scan_sign.f a0 false ⟨#[45]⟩).bind fun b1 => (micro_scan_digits.f k b1.2.1 b1.2.2 1 9).bind fun b2 => (micro_scan_over.f b2.2.1 b2.2.2).bind fun b3 => if b3.1 = true then (if b1.1 = 0 then some (b2.1, true) else some (wrap64 (-b2.1), true)) else some (0, false)
theorem micro_Int.mono : ∀ a0 k, LeO (micro_Int.f k a0) (micro_Int.f (k + 1) a0) := by
  intro a0 k
  unfold micro_Int.f
  refine LeO.bind (LeO.refl _) (fun _ => ?_)
  exact LeO.bind (micro_scan_digits.mono _ _ _ _ _) (fun _ => LeO.refl _)
theorem s46_new (w : World) (s : ByteArray) : IsS46 w (w.alloc (.cells #[.string s, .bool false] 46)) w.heap.size s false := ⟨blk_new w _, Nat.le_refl _⟩
set_option maxRecDepth 100000 in
set_option maxHeartbeats 4000000 in
theorem micro_Int.calls (k : Nat) (a0 : ByteArray) (r1 : Int) (r2 : Bool) (w : World) (hG : GW w) (h : micro_Int.f k a0 = some (r1, r2)) : Calls Tryz.prog 21 #[.string a0] w fun e w' => e = .returned (.tuple #[.int .i64 r1, .bool r2]) ∧ Below w.heap.size w w' := by
  obtain ⟨⟨c, s1, b1⟩, hf1, h⟩ := Option.bind_eq_some_iff.1 h
  obtain ⟨⟨n, s2, b2⟩, hf2, h⟩ := Option.bind_eq_some_iff.1 h
  obtain ⟨⟨o, s3, b3⟩, hf3, h⟩ := Option.bind_eq_some_iff.1 h
  simp only at hf2 hf3 h
  have F1 := Aside0.mk hf1
  have F2 := Aside0.mk hf2
  have F3 := Aside0.mk hf3
  have HG := Aside0.mk hG
  clear hf1 hf2 hf3 hG
  have hI := Aside0.mk (s46_new w a0)
  have hB := Aside0.mk ((Below.refl w.heap.size w).alloc (Nat.le_refl _) (.cells #[.string a0, .bool false] 46))
  cases o with
  | false =>
    obtain ⟨rfl, rfl⟩ : r1 = 0 ∧ r2 = false := by
      have e := Option.some.inj h
      injection e with e1 e2
      exact ⟨e1.symm, e2.symm⟩
    clear h
    go_enter Tryz.func21, Tryz.ntmps21
    go_wp2_with (first
      | (go_at_call 49; refine (micro_scan_sign.calls w.heap.size a0 false ⟨#[45]⟩ c s1 b1 w _ hI.out hB.out F1.out).mono ?_; rintro e w1 ⟨rfl, hi1, hb1, _⟩; have I1 := Aside0.mk hi1; have B1 := Aside0.mk hb1; clear hi1 hb1)
      | (go_at_call 50; refine (micro_scan_digits.calls k w.heap.size s1 b1 1 9 n s2 b2 w _ I1.out B1.out HG.out F2.out).mono ?_; rintro e w2 ⟨rfl, hi2, hb2, _⟩; have I2 := Aside0.mk hi2; have B2 := Aside0.mk hb2; clear hi2 hb2)
      | (go_at_call 35; refine (micro_scan_over.calls w.heap.size s2 b2 false s3 b3 w _ I2.out B2.out F3.out).mono ?_; rintro e w3 ⟨rfl, hi3, hb3, _⟩; have B3 := Aside0.mk hb3; clear hi3 hb3))
    go_ret2
    exact ⟨rfl, B3.out⟩
  | true =>
    rw [if_pos rfl] at h
    by_cases hc : c = 0
    · rw [if_pos hc] at h
      obtain ⟨rfl, rfl⟩ : r1 = n ∧ r2 = true := by
        have e := Option.some.inj h
        injection e with e1 e2
        exact ⟨e1.symm, e2.symm⟩
      have hcb : (c == 0) = true := beq_iff_eq.2 hc
      clear h hc
      go_enter Tryz.func21, Tryz.ntmps21
      go_wp2_with (first
        | (go_at_call 49; refine (micro_scan_sign.calls w.heap.size a0 false ⟨#[45]⟩ c s1 b1 w _ hI.out hB.out F1.out).mono ?_; rintro e w1 ⟨rfl, hi1, hb1, _⟩; have I1 := Aside0.mk hi1; have B1 := Aside0.mk hb1; clear hi1 hb1)
        | (go_at_call 50; refine (micro_scan_digits.calls k w.heap.size s1 b1 1 9 r1 s2 b2 w _ I1.out B1.out HG.out F2.out).mono ?_; rintro e w2 ⟨rfl, hi2, hb2, _⟩; have I2 := Aside0.mk hi2; have B2 := Aside0.mk hb2; clear hi2 hb2)
        | (go_at_call 35; refine (micro_scan_over.calls w.heap.size s2 b2 true s3 b3 w _ I2.out B2.out F3.out).mono ?_; rintro e w3 ⟨rfl, hi3, hb3, _⟩; have B3 := Aside0.mk hb3; clear hi3 hb3))
      go_ret2
      exact ⟨rfl, B3.out⟩
    · rw [if_neg hc] at h
      obtain ⟨rfl, rfl⟩ : r1 = wrap64 (-n) ∧ r2 = true := by
        have e := Option.some.inj h
        injection e with e1 e2
        exact ⟨e1.symm, e2.symm⟩
      have hcb : (c == 0) = false := beq_eq_false_iff_ne.2 hc
      clear h hc
      go_enter Tryz.func21, Tryz.ntmps21
      go_wp2_with (first
        | (go_at_call 49; refine (micro_scan_sign.calls w.heap.size a0 false ⟨#[45]⟩ c s1 b1 w _ hI.out hB.out F1.out).mono ?_; rintro e w1 ⟨rfl, hi1, hb1, _⟩; have I1 := Aside0.mk hi1; have B1 := Aside0.mk hb1; clear hi1 hb1)
        | (go_at_call 50; refine (micro_scan_digits.calls k w.heap.size s1 b1 1 9 n s2 b2 w _ I1.out B1.out HG.out F2.out).mono ?_; rintro e w2 ⟨rfl, hi2, hb2, _⟩; have I2 := Aside0.mk hi2; have B2 := Aside0.mk hb2; clear hi2 hb2)
        | (go_at_call 35; refine (micro_scan_over.calls w.heap.size s2 b2 true s3 b3 w _ I2.out B2.out F3.out).mono ?_; rintro e w3 ⟨rfl, hi3, hb3, _⟩; have B3 := Aside0.mk hb3; clear hi3 hb3))
      go_ret2
      exact ⟨rfl, B3.out⟩
end Go.Proofs.YtnfjohpecedpnaaGreatDoor.PM
