/- micro.Valid: of which kinds a text is a value. -/
import Derived.Test.YtnfjohpecedpnaaGreatDoorHKinds
import Derived.Test.YtnfjohpecedpnaaGreatDoorHWhen
import Derived.Test.YtnfjohpecedpnaaGreatDoorHStrip
import Derived.Test.YtnfjohpecedpnaaGreatDoorHFloat
namespace Go.Proofs.YtnfjohpecedpnaaGreatDoor.PM
open Go.RowKit Go.Lib Go.Proofs.YtnfjohpecedpnaaGreatDoor.Glob Go.Proofs.YtnfjohpecedpnaaGreatDoorW.PrintWords Go.Proofs.YtnfjohpecedpnaaGreatDoorW.PrintLast Go.Proofs.YtnfjohpecedpnaaGreatDoorW.PrintMore

theorem tokens_form (s : ByteArray) (w : World) (B : Nat) (hB : B ≤ w.heap.size) (hs : s.size ≤ 4294967296) : Calls Tryz.prog 18 #[.string s] w fun e w' => ∃ ob cap, e = .returned (.slice ob (tokens s).length cap) ∧ w'.ownsRow B 9 1 (.slice ob (tokens s).length cap) (tokens s).length ((tokens s).map Value.string) ∧ Below w.heap.size w w' := by
  refine (tokens_walk s w hs).mono ?_
  rintro e w' ⟨v, rfl, ho, hb⟩
  rcases ho.2 with ⟨rfl, h0⟩ | ⟨g, cap, cur, rfl, _⟩
  · rw [h0] at ho ⊢
    exact ⟨none, 0, rfl, own_mono ho hB, hb⟩
  · exact ⟨some ⟨g, 0, none⟩, cap, rfl, own_mono ho hB, hb⟩
set_option maxRecDepth 100000 in
set_option maxHeartbeats 4000000 in
theorem valid_text (k : Nat) (kind value : ByteArray) (w : World) (n : Int) (nat : Bool) (hG : GW w) (hk : kFits kind) (hv : value.size ≤ 4294967296) (hp : plainF k value = some (n, nat)) (e0 : ((kWord kind).toList == [116, 101, 120, 116]) = true) :
    Calls Tryz.prog 7 #[.string kind, .string value] w fun e w' => e = .returned (.bool true) ∧ Below w.heap.size w w' := by
  have mixed : Tryz.prog.follows Departure.mixedOrders = true := by kernel_rfl
  have c1 := kinds_walk kind w hG hk
  have c2 : ∀ W, Below w.heap.size w W → Calls Tryz.prog 17 #[.string value] W fun e w' => e = .returned (.tuple #[.int .i64 n, .bool nat]) ∧ Below w.heap.size w w' := fun W hW => (plain_walk k value n nat W (hG.below hW) hp).mono fun e w' ⟨he, hb⟩ => ⟨he, hW.trans (hb.mono hW.size)⟩
  have c3 : ∀ W, Below w.heap.size w W → Calls Tryz.prog 18 #[.string value] W fun e w' => ∃ ob cap, e = .returned (.slice ob (tokens value).length cap) ∧ w'.ownsRow w.heap.size 9 1 (.slice ob (tokens value).length cap) (tokens value).length ((tokens value).map Value.string) ∧ Below w.heap.size w w' := fun W hW => tokens_form value W w.heap.size hW.size hv |>.mono fun e w' ⟨ob, cap, he, ho, hb⟩ => ⟨ob, cap, he, ho, hW.trans (hb.mono hW.size)⟩
  obtain ⟨kw, hkw⟩ : ∃ x, kWord kind = x := ⟨_, rfl⟩
  obtain ⟨ks, hks⟩ : ∃ x, kWords kind = x := ⟨_, rfl⟩
  obtain ⟨ts, hts⟩ : ∃ x, tokens value = x := ⟨_, rfl⟩
  rw [hkw] at c1 e0
  rw [hks] at c1
  rw [hts] at c3
  clear hts hkw hk hks hp hG hv
  go_enter Tryz.func7, Tryz.ntmps7
  go_wp2_with (first | (go_at_call 16; refine c1.mono ?_; rintro e w1 ⟨v1, rfl, ho, hb⟩; have O1 := Aside0.mk ho; have B1 := Aside0.mk hb; clear ho hb) | (go_at_call 17; refine (c2 _ B1.out).mono ?_; rintro e w2 ⟨rfl, hb⟩; have B2 := Aside0.mk hb; clear hb) | (go_at_call 18; refine (c3 _ B2.out).mono ?_; rintro e w3 ⟨ob, cap, rfl, ho, hb⟩; have O3 := Aside0.mk ho; have B3 := Aside0.mk hb; clear ho hb))
  repeat (go_quiet (fail); try go_wp2)
  go_ret
  exact ⟨by first | rfl | simp, B3.out.trans ⟨rfl, rfl, rfl, Nat.le_refl _, fun _ _ => rfl⟩⟩
set_option maxRecDepth 100000 in
set_option maxHeartbeats 4000000 in
theorem valid_flag (k : Nat) (kind value : ByteArray) (w : World) (n : Int) (nat : Bool) (hG : GW w) (hk : kFits kind) (hv : value.size ≤ 4294967296) (hp : plainF k value = some (n, nat)) (e0 : ((kWord kind).toList == [116, 101, 120, 116]) = false) (e1 : ((kWord kind).toList == [102, 108, 97, 103]) = true) :
    Calls Tryz.prog 7 #[.string kind, .string value] w fun e w' => e = .returned (.bool (value.toList == [])) ∧ Below w.heap.size w w' := by
  have mixed : Tryz.prog.follows Departure.mixedOrders = true := by kernel_rfl
  have c1 := kinds_walk kind w hG hk
  have c2 : ∀ W, Below w.heap.size w W → Calls Tryz.prog 17 #[.string value] W fun e w' => e = .returned (.tuple #[.int .i64 n, .bool nat]) ∧ Below w.heap.size w w' := fun W hW => (plain_walk k value n nat W (hG.below hW) hp).mono fun e w' ⟨he, hb⟩ => ⟨he, hW.trans (hb.mono hW.size)⟩
  have c3 : ∀ W, Below w.heap.size w W → Calls Tryz.prog 18 #[.string value] W fun e w' => ∃ ob cap, e = .returned (.slice ob (tokens value).length cap) ∧ w'.ownsRow w.heap.size 9 1 (.slice ob (tokens value).length cap) (tokens value).length ((tokens value).map Value.string) ∧ Below w.heap.size w w' := fun W hW => tokens_form value W w.heap.size hW.size hv |>.mono fun e w' ⟨ob, cap, he, ho, hb⟩ => ⟨ob, cap, he, ho, hW.trans (hb.mono hW.size)⟩
  obtain ⟨kw, hkw⟩ : ∃ x, kWord kind = x := ⟨_, rfl⟩
  obtain ⟨ks, hks⟩ : ∃ x, kWords kind = x := ⟨_, rfl⟩
  obtain ⟨ts, hts⟩ : ∃ x, tokens value = x := ⟨_, rfl⟩
  rw [hkw] at c1 e0 e1
  rw [hks] at c1
  rw [hts] at c3
  clear hts hkw hk hks hp hG hv
  go_enter Tryz.func7, Tryz.ntmps7
  go_wp2_with (first | (go_at_call 16; refine c1.mono ?_; rintro e w1 ⟨v1, rfl, ho, hb⟩; have O1 := Aside0.mk ho; have B1 := Aside0.mk hb; clear ho hb) | (go_at_call 17; refine (c2 _ B1.out).mono ?_; rintro e w2 ⟨rfl, hb⟩; have B2 := Aside0.mk hb; clear hb) | (go_at_call 18; refine (c3 _ B2.out).mono ?_; rintro e w3 ⟨ob, cap, rfl, ho, hb⟩; have O3 := Aside0.mk ho; have B3 := Aside0.mk hb; clear ho hb))
  repeat (go_quiet (fail); try go_wp2)
  go_ret
  exact ⟨by first | rfl | simp, B3.out.trans ⟨rfl, rfl, rfl, Nat.le_refl _, fun _ _ => rfl⟩⟩
set_option maxRecDepth 100000 in
set_option maxHeartbeats 4000000 in
theorem valid_int (k : Nat) (kind value : ByteArray) (w : World) (n : Int) (nat : Bool) (hG : GW w) (hk : kFits kind) (hv : value.size ≤ 4294967296) (hp : plainF k value = some (n, nat)) (e0 : ((kWord kind).toList == [116, 101, 120, 116]) = false) (e1 : ((kWord kind).toList == [102, 108, 97, 103]) = false) (e2 : ((kWord kind).toList == [101, 110, 117, 109]) = false) (e3 : ((kWord kind).toList == [105, 110, 116]) = true) (m : Int) (b : Bool) (hi : micro_Int.f k value = some (m, b)) :
    Calls Tryz.prog 7 #[.string kind, .string value] w fun e w' => e = .returned (.bool b) ∧ Below w.heap.size w w' := by
  have mixed : Tryz.prog.follows Departure.mixedOrders = true := by kernel_rfl
  have c1 := kinds_walk kind w hG hk
  have c2 : ∀ W, Below w.heap.size w W → Calls Tryz.prog 17 #[.string value] W fun e w' => e = .returned (.tuple #[.int .i64 n, .bool nat]) ∧ Below w.heap.size w w' := fun W hW => (plain_walk k value n nat W (hG.below hW) hp).mono fun e w' ⟨he, hb⟩ => ⟨he, hW.trans (hb.mono hW.size)⟩
  have c3 : ∀ W, Below w.heap.size w W → Calls Tryz.prog 18 #[.string value] W fun e w' => ∃ ob cap, e = .returned (.slice ob (tokens value).length cap) ∧ w'.ownsRow w.heap.size 9 1 (.slice ob (tokens value).length cap) (tokens value).length ((tokens value).map Value.string) ∧ Below w.heap.size w w' := fun W hW => tokens_form value W w.heap.size hW.size hv |>.mono fun e w' ⟨ob, cap, he, ho, hb⟩ => ⟨ob, cap, he, ho, hW.trans (hb.mono hW.size)⟩
  have c4 : ∀ W, Below w.heap.size w W → Calls Tryz.prog 21 #[.string value] W fun e w' => e = .returned (.tuple #[.int .i64 m, .bool b]) ∧ Below w.heap.size w w' := fun W hW => (micro_Int.calls k value m b W (hG.below hW) hi).mono fun e w' ⟨he, hb⟩ => ⟨he, hW.trans (hb.mono hW.size)⟩
  obtain ⟨kw, hkw⟩ : ∃ x, kWord kind = x := ⟨_, rfl⟩
  obtain ⟨ks, hks⟩ : ∃ x, kWords kind = x := ⟨_, rfl⟩
  obtain ⟨ts, hts⟩ : ∃ x, tokens value = x := ⟨_, rfl⟩
  rw [hkw] at c1 e0 e1 e2 e3
  rw [hks] at c1
  rw [hts] at c3
  clear hts hi hkw hk hks hp hG hv
  go_enter Tryz.func7, Tryz.ntmps7
  go_wp2_with (first | (go_at_call 16; refine c1.mono ?_; rintro e w1 ⟨v1, rfl, ho, hb⟩; have O1 := Aside0.mk ho; have B1 := Aside0.mk hb; clear ho hb) | (go_at_call 17; refine (c2 _ B1.out).mono ?_; rintro e w2 ⟨rfl, hb⟩; have B2 := Aside0.mk hb; clear hb) | (go_at_call 18; refine (c3 _ B2.out).mono ?_; rintro e w3 ⟨ob, cap, rfl, ho, hb⟩; have O3 := Aside0.mk ho; have B3 := Aside0.mk hb; clear ho hb) | (go_at_call 21; refine (c4 _ B3.out).mono ?_; rintro e w4 ⟨rfl, hb⟩; have B4 := Aside0.mk hb; clear hb))
  repeat (go_quiet (fail); try go_wp2)
  go_ret
  exact ⟨by first | rfl | simp, B4.out.trans ⟨rfl, rfl, rfl, Nat.le_refl _, fun _ _ => rfl⟩⟩
set_option maxRecDepth 100000 in
set_option maxHeartbeats 4000000 in
theorem valid_nat (k : Nat) (kind value : ByteArray) (w : World) (n : Int) (nat : Bool) (hG : GW w) (hk : kFits kind) (hv : value.size ≤ 4294967296) (hp : plainF k value = some (n, nat)) (e0 : ((kWord kind).toList == [116, 101, 120, 116]) = false) (e1 : ((kWord kind).toList == [102, 108, 97, 103]) = false) (e2 : ((kWord kind).toList == [101, 110, 117, 109]) = false) (e3 : ((kWord kind).toList == [105, 110, 116]) = false) (e4 : ((kWord kind).toList == [110, 97, 116]) = true) :
    Calls Tryz.prog 7 #[.string kind, .string value] w fun e w' => e = .returned (.bool nat) ∧ Below w.heap.size w w' := by
  have mixed : Tryz.prog.follows Departure.mixedOrders = true := by kernel_rfl
  have c1 := kinds_walk kind w hG hk
  have c2 : ∀ W, Below w.heap.size w W → Calls Tryz.prog 17 #[.string value] W fun e w' => e = .returned (.tuple #[.int .i64 n, .bool nat]) ∧ Below w.heap.size w w' := fun W hW => (plain_walk k value n nat W (hG.below hW) hp).mono fun e w' ⟨he, hb⟩ => ⟨he, hW.trans (hb.mono hW.size)⟩
  have c3 : ∀ W, Below w.heap.size w W → Calls Tryz.prog 18 #[.string value] W fun e w' => ∃ ob cap, e = .returned (.slice ob (tokens value).length cap) ∧ w'.ownsRow w.heap.size 9 1 (.slice ob (tokens value).length cap) (tokens value).length ((tokens value).map Value.string) ∧ Below w.heap.size w w' := fun W hW => tokens_form value W w.heap.size hW.size hv |>.mono fun e w' ⟨ob, cap, he, ho, hb⟩ => ⟨ob, cap, he, ho, hW.trans (hb.mono hW.size)⟩
  obtain ⟨kw, hkw⟩ : ∃ x, kWord kind = x := ⟨_, rfl⟩
  obtain ⟨ks, hks⟩ : ∃ x, kWords kind = x := ⟨_, rfl⟩
  obtain ⟨ts, hts⟩ : ∃ x, tokens value = x := ⟨_, rfl⟩
  rw [hkw] at c1 e0 e1 e2 e3 e4
  rw [hks] at c1
  rw [hts] at c3
  clear hts hkw hk hks hp hG hv
  go_enter Tryz.func7, Tryz.ntmps7
  go_wp2_with (first | (go_at_call 16; refine c1.mono ?_; rintro e w1 ⟨v1, rfl, ho, hb⟩; have O1 := Aside0.mk ho; have B1 := Aside0.mk hb; clear ho hb) | (go_at_call 17; refine (c2 _ B1.out).mono ?_; rintro e w2 ⟨rfl, hb⟩; have B2 := Aside0.mk hb; clear hb) | (go_at_call 18; refine (c3 _ B2.out).mono ?_; rintro e w3 ⟨ob, cap, rfl, ho, hb⟩; have O3 := Aside0.mk ho; have B3 := Aside0.mk hb; clear ho hb))
  repeat (go_quiet (fail); try go_wp2)
  go_ret
  exact ⟨by first | rfl | simp, B3.out.trans ⟨rfl, rfl, rfl, Nat.le_refl _, fun _ _ => rfl⟩⟩
set_option maxRecDepth 100000 in
set_option maxHeartbeats 4000000 in
theorem valid_pos (k : Nat) (kind value : ByteArray) (w : World) (n : Int) (nat : Bool) (hG : GW w) (hk : kFits kind) (hv : value.size ≤ 4294967296) (hp : plainF k value = some (n, nat)) (e0 : ((kWord kind).toList == [116, 101, 120, 116]) = false) (e1 : ((kWord kind).toList == [102, 108, 97, 103]) = false) (e2 : ((kWord kind).toList == [101, 110, 117, 109]) = false) (e3 : ((kWord kind).toList == [105, 110, 116]) = false) (e4 : ((kWord kind).toList == [110, 97, 116]) = false) (e5 : ((kWord kind).toList == [112, 111, 115]) = true) :
    Calls Tryz.prog 7 #[.string kind, .string value] w fun e w' => e = .returned (.bool (nat && decide (n > 0))) ∧ Below w.heap.size w w' := by
  have mixed : Tryz.prog.follows Departure.mixedOrders = true := by kernel_rfl
  have c1 := kinds_walk kind w hG hk
  have c2 : ∀ W, Below w.heap.size w W → Calls Tryz.prog 17 #[.string value] W fun e w' => e = .returned (.tuple #[.int .i64 n, .bool nat]) ∧ Below w.heap.size w w' := fun W hW => (plain_walk k value n nat W (hG.below hW) hp).mono fun e w' ⟨he, hb⟩ => ⟨he, hW.trans (hb.mono hW.size)⟩
  have c3 : ∀ W, Below w.heap.size w W → Calls Tryz.prog 18 #[.string value] W fun e w' => ∃ ob cap, e = .returned (.slice ob (tokens value).length cap) ∧ w'.ownsRow w.heap.size 9 1 (.slice ob (tokens value).length cap) (tokens value).length ((tokens value).map Value.string) ∧ Below w.heap.size w w' := fun W hW => tokens_form value W w.heap.size hW.size hv |>.mono fun e w' ⟨ob, cap, he, ho, hb⟩ => ⟨ob, cap, he, ho, hW.trans (hb.mono hW.size)⟩
  obtain ⟨kw, hkw⟩ : ∃ x, kWord kind = x := ⟨_, rfl⟩
  obtain ⟨ks, hks⟩ : ∃ x, kWords kind = x := ⟨_, rfl⟩
  obtain ⟨ts, hts⟩ : ∃ x, tokens value = x := ⟨_, rfl⟩
  rw [hkw] at c1 e0 e1 e2 e3 e4 e5
  rw [hks] at c1
  rw [hts] at c3
  clear hts hkw hk hks hp hG hv
  cases nat
  all_goals
    by_cases h0 : 0 < n
    all_goals
      first | (have d0 : decide (0 < n) = true := decide_eq_true h0) | (have d0 : decide (0 < n) = false := decide_eq_false h0)
      have H0 := Aside0.mk h0
      clear h0
      go_enter Tryz.func7, Tryz.ntmps7
      go_wp2_with (first | (go_at_call 16; refine c1.mono ?_; rintro e w1 ⟨v1, rfl, ho, hb⟩; have O1 := Aside0.mk ho; have B1 := Aside0.mk hb; clear ho hb) | (go_at_call 17; refine (c2 _ B1.out).mono ?_; rintro e w2 ⟨rfl, hb⟩; have B2 := Aside0.mk hb; clear hb) | (go_at_call 18; refine (c3 _ B2.out).mono ?_; rintro e w3 ⟨ob, cap, rfl, ho, hb⟩; have O3 := Aside0.mk ho; have B3 := Aside0.mk hb; clear ho hb))
      repeat (go_quiet (fail); try go_wp2)
      go_ret
      exact ⟨by have h0 := H0.out; first | rfl | (simp; done) | (simp; omega) | (simp_all; done), B3.out.trans ⟨rfl, rfl, rfl, Nat.le_refl _, fun _ _ => rfl⟩⟩
set_option maxRecDepth 100000 in
set_option maxHeartbeats 4000000 in
theorem valid_span (k : Nat) (kind value : ByteArray) (w : World) (n : Int) (nat : Bool) (hG : GW w) (hk : kFits kind) (hv : value.size ≤ 4294967296) (hp : plainF k value = some (n, nat)) (e0 : ((kWord kind).toList == [116, 101, 120, 116]) = false) (e1 : ((kWord kind).toList == [102, 108, 97, 103]) = false) (e2 : ((kWord kind).toList == [101, 110, 117, 109]) = false) (e3 : ((kWord kind).toList == [105, 110, 116]) = false) (e4 : ((kWord kind).toList == [110, 97, 116]) = false) (e5 : ((kWord kind).toList == [112, 111, 115]) = false) (e6 : ((kWord kind).toList == [115, 112, 97, 110]) = true) :
    Calls Tryz.prog 7 #[.string kind, .string value] w fun e w' => e = .returned (.bool (nat && decide (n > 0) && decide (n ≤ 1000))) ∧ Below w.heap.size w w' := by
  have mixed : Tryz.prog.follows Departure.mixedOrders = true := by kernel_rfl
  have c1 := kinds_walk kind w hG hk
  have c2 : ∀ W, Below w.heap.size w W → Calls Tryz.prog 17 #[.string value] W fun e w' => e = .returned (.tuple #[.int .i64 n, .bool nat]) ∧ Below w.heap.size w w' := fun W hW => (plain_walk k value n nat W (hG.below hW) hp).mono fun e w' ⟨he, hb⟩ => ⟨he, hW.trans (hb.mono hW.size)⟩
  have c3 : ∀ W, Below w.heap.size w W → Calls Tryz.prog 18 #[.string value] W fun e w' => ∃ ob cap, e = .returned (.slice ob (tokens value).length cap) ∧ w'.ownsRow w.heap.size 9 1 (.slice ob (tokens value).length cap) (tokens value).length ((tokens value).map Value.string) ∧ Below w.heap.size w w' := fun W hW => tokens_form value W w.heap.size hW.size hv |>.mono fun e w' ⟨ob, cap, he, ho, hb⟩ => ⟨ob, cap, he, ho, hW.trans (hb.mono hW.size)⟩
  obtain ⟨kw, hkw⟩ : ∃ x, kWord kind = x := ⟨_, rfl⟩
  obtain ⟨ks, hks⟩ : ∃ x, kWords kind = x := ⟨_, rfl⟩
  obtain ⟨ts, hts⟩ : ∃ x, tokens value = x := ⟨_, rfl⟩
  rw [hkw] at c1 e0 e1 e2 e3 e4 e5 e6
  rw [hks] at c1
  rw [hts] at c3
  clear hts hkw hk hks hp hG hv
  cases nat
  all_goals
    by_cases h0 : 0 < n
    all_goals
      first | (have d0 : decide (0 < n) = true := decide_eq_true h0) | (have d0 : decide (0 < n) = false := decide_eq_false h0)
      have H0 := Aside0.mk h0
      clear h0
      go_enter Tryz.func7, Tryz.ntmps7
      go_wp2_with (first | (go_at_call 16; refine c1.mono ?_; rintro e w1 ⟨v1, rfl, ho, hb⟩; have O1 := Aside0.mk ho; have B1 := Aside0.mk hb; clear ho hb) | (go_at_call 17; refine (c2 _ B1.out).mono ?_; rintro e w2 ⟨rfl, hb⟩; have B2 := Aside0.mk hb; clear hb) | (go_at_call 18; refine (c3 _ B2.out).mono ?_; rintro e w3 ⟨ob, cap, rfl, ho, hb⟩; have O3 := Aside0.mk ho; have B3 := Aside0.mk hb; clear ho hb))
      repeat (go_quiet (fail); try go_wp2)
      go_ret
      exact ⟨by have h0 := H0.out; first | rfl | (simp; done) | (simp; omega) | (simp_all; done), B3.out.trans ⟨rfl, rfl, rfl, Nat.le_refl _, fun _ _ => rfl⟩⟩
set_option maxRecDepth 100000 in
set_option maxHeartbeats 4000000 in
theorem valid_ids (k : Nat) (kind value : ByteArray) (w : World) (n : Int) (nat : Bool) (hG : GW w) (hk : kFits kind) (hv : value.size ≤ 4294967296) (hp : plainF k value = some (n, nat)) (e0 : ((kWord kind).toList == [116, 101, 120, 116]) = false) (e1 : ((kWord kind).toList == [102, 108, 97, 103]) = false) (e2 : ((kWord kind).toList == [101, 110, 117, 109]) = false) (e3 : ((kWord kind).toList == [105, 110, 116]) = false) (e4 : ((kWord kind).toList == [110, 97, 116]) = false) (e5 : ((kWord kind).toList == [112, 111, 115]) = false) (e6 : ((kWord kind).toList == [115, 112, 97, 110]) = false) (e7 : ((kWord kind).toList == [102, 108, 111, 97, 116]) = false) (e8 : ((kWord kind).toList == [105, 100]) = false) (e9 : ((kWord kind).toList == [105, 100, 115]) = true) :
    Calls Tryz.prog 7 #[.string kind, .string value] w fun e w' => e = .returned (.bool (decide ((tokens value).length > 0))) ∧ Below w.heap.size w w' := by
  have mixed : Tryz.prog.follows Departure.mixedOrders = true := by kernel_rfl
  have c1 := kinds_walk kind w hG hk
  have c2 : ∀ W, Below w.heap.size w W → Calls Tryz.prog 17 #[.string value] W fun e w' => e = .returned (.tuple #[.int .i64 n, .bool nat]) ∧ Below w.heap.size w w' := fun W hW => (plain_walk k value n nat W (hG.below hW) hp).mono fun e w' ⟨he, hb⟩ => ⟨he, hW.trans (hb.mono hW.size)⟩
  have c3 : ∀ W, Below w.heap.size w W → Calls Tryz.prog 18 #[.string value] W fun e w' => ∃ ob cap, e = .returned (.slice ob (tokens value).length cap) ∧ w'.ownsRow w.heap.size 9 1 (.slice ob (tokens value).length cap) (tokens value).length ((tokens value).map Value.string) ∧ Below w.heap.size w w' := fun W hW => tokens_form value W w.heap.size hW.size hv |>.mono fun e w' ⟨ob, cap, he, ho, hb⟩ => ⟨ob, cap, he, ho, hW.trans (hb.mono hW.size)⟩
  obtain ⟨kw, hkw⟩ : ∃ x, kWord kind = x := ⟨_, rfl⟩
  obtain ⟨ks, hks⟩ : ∃ x, kWords kind = x := ⟨_, rfl⟩
  obtain ⟨ts, hts⟩ : ∃ x, tokens value = x := ⟨_, rfl⟩
  rw [hkw] at c1 e0 e1 e2 e3 e4 e5 e6 e7 e8 e9
  rw [hks] at c1
  rw [hts] at c3 ⊢
  clear hts hkw hk hks hp hG hv
  go_enter Tryz.func7, Tryz.ntmps7
  go_wp2_with (first | (go_at_call 16; refine c1.mono ?_; rintro e w1 ⟨v1, rfl, ho, hb⟩; have O1 := Aside0.mk ho; have B1 := Aside0.mk hb; clear ho hb) | (go_at_call 17; refine (c2 _ B1.out).mono ?_; rintro e w2 ⟨rfl, hb⟩; have B2 := Aside0.mk hb; clear hb) | (go_at_call 18; refine (c3 _ B2.out).mono ?_; rintro e w3 ⟨ob, cap, rfl, ho, hb⟩; have O3 := Aside0.mk ho; have B3 := Aside0.mk hb; clear ho hb))
  repeat (go_quiet (fail); try go_wp2)
  go_ret
  exact ⟨by first | rfl | simp, B3.out.trans ⟨rfl, rfl, rfl, Nat.le_refl _, fun _ _ => rfl⟩⟩
set_option maxRecDepth 100000 in
set_option maxHeartbeats 4000000 in
theorem valid_when (k : Nat) (kind value : ByteArray) (w : World) (n : Int) (nat : Bool) (hG : GW w) (hk : kFits kind) (hv : value.size ≤ 4294967296) (hp : plainF k value = some (n, nat)) (e0 : ((kWord kind).toList == [116, 101, 120, 116]) = false) (e1 : ((kWord kind).toList == [102, 108, 97, 103]) = false) (e2 : ((kWord kind).toList == [101, 110, 117, 109]) = false) (e3 : ((kWord kind).toList == [105, 110, 116]) = false) (e4 : ((kWord kind).toList == [110, 97, 116]) = false) (e5 : ((kWord kind).toList == [112, 111, 115]) = false) (e6 : ((kWord kind).toList == [115, 112, 97, 110]) = false) (e7 : ((kWord kind).toList == [102, 108, 111, 97, 116]) = false) (e8 : ((kWord kind).toList == [105, 100]) = false) (e9 : ((kWord kind).toList == [105, 100, 115]) = false) (e10 : ((kWord kind).toList == [116, 111, 107, 101, 110, 115]) = false) (e11 : ((kWord kind).toList == [104, 97, 115, 104]) = false) (e12 : ((kWord kind).toList == [119, 104, 101, 110]) = true) (b : Bool) (hw : whenF k value = some b) :
    Calls Tryz.prog 7 #[.string kind, .string value] w fun e w' => e = .returned (.bool b) ∧ Below w.heap.size w w' := by
  have mixed : Tryz.prog.follows Departure.mixedOrders = true := by kernel_rfl
  have c1 := kinds_walk kind w hG hk
  have c2 : ∀ W, Below w.heap.size w W → Calls Tryz.prog 17 #[.string value] W fun e w' => e = .returned (.tuple #[.int .i64 n, .bool nat]) ∧ Below w.heap.size w w' := fun W hW => (plain_walk k value n nat W (hG.below hW) hp).mono fun e w' ⟨he, hb⟩ => ⟨he, hW.trans (hb.mono hW.size)⟩
  have c3 : ∀ W, Below w.heap.size w W → Calls Tryz.prog 18 #[.string value] W fun e w' => ∃ ob cap, e = .returned (.slice ob (tokens value).length cap) ∧ w'.ownsRow w.heap.size 9 1 (.slice ob (tokens value).length cap) (tokens value).length ((tokens value).map Value.string) ∧ Below w.heap.size w w' := fun W hW => tokens_form value W w.heap.size hW.size hv |>.mono fun e w' ⟨ob, cap, he, ho, hb⟩ => ⟨ob, cap, he, ho, hW.trans (hb.mono hW.size)⟩
  have c4 : ∀ W, Below w.heap.size w W → Calls Tryz.prog 25 #[.string value] W fun e w' => e = .returned (.bool b) ∧ Below w.heap.size w w' := fun W hW => (when_walk k value b W (hG.below hW) hw).mono fun e w' ⟨he, hb⟩ => ⟨he, hW.trans (hb.mono hW.size)⟩
  obtain ⟨kw, hkw⟩ : ∃ x, kWord kind = x := ⟨_, rfl⟩
  obtain ⟨ks, hks⟩ : ∃ x, kWords kind = x := ⟨_, rfl⟩
  obtain ⟨ts, hts⟩ : ∃ x, tokens value = x := ⟨_, rfl⟩
  rw [hkw] at c1 e0 e1 e2 e3 e4 e5 e6 e7 e8 e9 e10 e11 e12
  rw [hks] at c1
  rw [hts] at c3
  clear hts hw hkw hk hks hp hG hv
  go_enter Tryz.func7, Tryz.ntmps7
  go_wp2_with (first | (go_at_call 16; refine c1.mono ?_; rintro e w1 ⟨v1, rfl, ho, hb⟩; have O1 := Aside0.mk ho; have B1 := Aside0.mk hb; clear ho hb) | (go_at_call 17; refine (c2 _ B1.out).mono ?_; rintro e w2 ⟨rfl, hb⟩; have B2 := Aside0.mk hb; clear hb) | (go_at_call 18; refine (c3 _ B2.out).mono ?_; rintro e w3 ⟨ob, cap, rfl, ho, hb⟩; have O3 := Aside0.mk ho; have B3 := Aside0.mk hb; clear ho hb) | (go_at_call 25; refine (c4 _ B3.out).mono ?_; rintro e w4 ⟨rfl, hb⟩; have B4 := Aside0.mk hb; clear hb))
  repeat (go_quiet (fail); try go_wp2)
  go_ret
  exact ⟨by first | rfl | simp, B4.out.trans ⟨rfl, rfl, rfl, Nat.le_refl _, fun _ _ => rfl⟩⟩
set_option maxRecDepth 100000 in
set_option maxHeartbeats 4000000 in
theorem valid_other (k : Nat) (kind value : ByteArray) (w : World) (n : Int) (nat : Bool) (hG : GW w) (hk : kFits kind) (hv : value.size ≤ 4294967296) (hp : plainF k value = some (n, nat)) (e0 : ((kWord kind).toList == [116, 101, 120, 116]) = false) (e1 : ((kWord kind).toList == [102, 108, 97, 103]) = false) (e2 : ((kWord kind).toList == [101, 110, 117, 109]) = false) (e3 : ((kWord kind).toList == [105, 110, 116]) = false) (e4 : ((kWord kind).toList == [110, 97, 116]) = false) (e5 : ((kWord kind).toList == [112, 111, 115]) = false) (e6 : ((kWord kind).toList == [115, 112, 97, 110]) = false) (e7 : ((kWord kind).toList == [102, 108, 111, 97, 116]) = false) (e8 : ((kWord kind).toList == [105, 100]) = false) (e9 : ((kWord kind).toList == [105, 100, 115]) = false) (e10 : ((kWord kind).toList == [116, 111, 107, 101, 110, 115]) = false) (e11 : ((kWord kind).toList == [104, 97, 115, 104]) = false) (e12 : ((kWord kind).toList == [119, 104, 101, 110]) = false) :
    Calls Tryz.prog 7 #[.string kind, .string value] w fun e w' => e = .returned (.bool false) ∧ Below w.heap.size w w' := by
  have mixed : Tryz.prog.follows Departure.mixedOrders = true := by kernel_rfl
  have c1 := kinds_walk kind w hG hk
  have c2 : ∀ W, Below w.heap.size w W → Calls Tryz.prog 17 #[.string value] W fun e w' => e = .returned (.tuple #[.int .i64 n, .bool nat]) ∧ Below w.heap.size w w' := fun W hW => (plain_walk k value n nat W (hG.below hW) hp).mono fun e w' ⟨he, hb⟩ => ⟨he, hW.trans (hb.mono hW.size)⟩
  have c3 : ∀ W, Below w.heap.size w W → Calls Tryz.prog 18 #[.string value] W fun e w' => ∃ ob cap, e = .returned (.slice ob (tokens value).length cap) ∧ w'.ownsRow w.heap.size 9 1 (.slice ob (tokens value).length cap) (tokens value).length ((tokens value).map Value.string) ∧ Below w.heap.size w w' := fun W hW => tokens_form value W w.heap.size hW.size hv |>.mono fun e w' ⟨ob, cap, he, ho, hb⟩ => ⟨ob, cap, he, ho, hW.trans (hb.mono hW.size)⟩
  obtain ⟨kw, hkw⟩ : ∃ x, kWord kind = x := ⟨_, rfl⟩
  obtain ⟨ks, hks⟩ : ∃ x, kWords kind = x := ⟨_, rfl⟩
  obtain ⟨ts, hts⟩ : ∃ x, tokens value = x := ⟨_, rfl⟩
  rw [hkw] at c1 e0 e1 e2 e3 e4 e5 e6 e7 e8 e9 e10 e11 e12
  rw [hks] at c1
  rw [hts] at c3
  clear hts hkw hk hks hp hG hv
  go_enter Tryz.func7, Tryz.ntmps7
  go_wp2_with (first | (go_at_call 16; refine c1.mono ?_; rintro e w1 ⟨v1, rfl, ho, hb⟩; have O1 := Aside0.mk ho; have B1 := Aside0.mk hb; clear ho hb) | (go_at_call 17; refine (c2 _ B1.out).mono ?_; rintro e w2 ⟨rfl, hb⟩; have B2 := Aside0.mk hb; clear hb) | (go_at_call 18; refine (c3 _ B2.out).mono ?_; rintro e w3 ⟨ob, cap, rfl, ho, hb⟩; have O3 := Aside0.mk ho; have B3 := Aside0.mk hb; clear ho hb))
  repeat (go_quiet (fail); try go_wp2)
  go_ret
  exact ⟨by first | rfl | simp, B3.out.trans ⟨rfl, rfl, rfl, Nat.le_refl _, fun _ _ => rfl⟩⟩
set_option maxRecDepth 100000 in
set_option maxHeartbeats 4000000 in
theorem valid_hash (k : Nat) (kind value : ByteArray) (w : World) (n : Int) (nat : Bool) (hG : GW w) (hk : kFits kind) (hv : value.size ≤ 4294967296) (hp : plainF k value = some (n, nat)) (e0 : ((kWord kind).toList == [116, 101, 120, 116]) = false) (e1 : ((kWord kind).toList == [102, 108, 97, 103]) = false) (e2 : ((kWord kind).toList == [101, 110, 117, 109]) = false) (e3 : ((kWord kind).toList == [105, 110, 116]) = false) (e4 : ((kWord kind).toList == [110, 97, 116]) = false) (e5 : ((kWord kind).toList == [112, 111, 115]) = false) (e6 : ((kWord kind).toList == [115, 112, 97, 110]) = false) (e7 : ((kWord kind).toList == [102, 108, 111, 97, 116]) = false) (e8 : ((kWord kind).toList == [105, 100]) = false) (e9 : ((kWord kind).toList == [105, 100, 115]) = false) (e10 : ((kWord kind).toList == [116, 111, 107, 101, 110, 115]) = false) (e11 : ((kWord kind).toList == [104, 97, 115, 104]) = true) :
    Calls Tryz.prog 7 #[.string kind, .string value] w fun e w' => e = .returned (.bool (decide (value.size > 1) && bt value 0 == 35)) ∧ Below w.heap.size w w' := by
  have mixed : Tryz.prog.follows Departure.mixedOrders = true := by kernel_rfl
  have c1 := kinds_walk kind w hG hk
  have c2 : ∀ W, Below w.heap.size w W → Calls Tryz.prog 17 #[.string value] W fun e w' => e = .returned (.tuple #[.int .i64 n, .bool nat]) ∧ Below w.heap.size w w' := fun W hW => (plain_walk k value n nat W (hG.below hW) hp).mono fun e w' ⟨he, hb⟩ => ⟨he, hW.trans (hb.mono hW.size)⟩
  have c3 : ∀ W, Below w.heap.size w W → Calls Tryz.prog 18 #[.string value] W fun e w' => ∃ ob cap, e = .returned (.slice ob (tokens value).length cap) ∧ w'.ownsRow w.heap.size 9 1 (.slice ob (tokens value).length cap) (tokens value).length ((tokens value).map Value.string) ∧ Below w.heap.size w w' := fun W hW => tokens_form value W w.heap.size hW.size hv |>.mono fun e w' ⟨ob, cap, he, ho, hb⟩ => ⟨ob, cap, he, ho, hW.trans (hb.mono hW.size)⟩
  obtain ⟨kw, hkw⟩ : ∃ x, kWord kind = x := ⟨_, rfl⟩
  obtain ⟨ks, hks⟩ : ∃ x, kWords kind = x := ⟨_, rfl⟩
  obtain ⟨ts, hts⟩ : ∃ x, tokens value = x := ⟨_, rfl⟩
  rw [hkw] at c1 e0 e1 e2 e3 e4 e5 e6 e7 e8 e9 e10 e11
  rw [hks] at c1
  rw [hts] at c3
  clear hts hkw hk hks hp hG hv
  by_cases h1 : 1 < value.size
  · have d1 : decide (1 < (value.size : Int)) = true := decide_eq_true (by omega)
    have d2 : 0 < value.size := by omega
    rw [show (decide (value.size > 1) && bt value 0 == 35) = (((value[0]'d2).toNat : Int) == 35) by rw [show bt value 0 = ((value[0]'d2).toNat : Int) from dif_pos d2]; simp [h1]]
    go_enter Tryz.func7, Tryz.ntmps7
    go_wp2_with (first | (go_at_call 16; refine c1.mono ?_; rintro e w1 ⟨v1, rfl, ho, hb⟩; have O1 := Aside0.mk ho; have B1 := Aside0.mk hb; clear ho hb) | (go_at_call 17; refine (c2 _ B1.out).mono ?_; rintro e w2 ⟨rfl, hb⟩; have B2 := Aside0.mk hb; clear hb) | (go_at_call 18; refine (c3 _ B2.out).mono ?_; rintro e w3 ⟨ob, cap, rfl, ho, hb⟩; have O3 := Aside0.mk ho; have B3 := Aside0.mk hb; clear ho hb))
    repeat (go_quiet (fail); try go_wp2)
    go_ret
    exact ⟨rfl, B3.out.trans ⟨rfl, rfl, rfl, Nat.le_refl _, fun _ _ => rfl⟩⟩
  · have d1 : decide (1 < (value.size : Int)) = false := decide_eq_false (by omega)
    rw [show (decide (value.size > 1) && bt value 0 == 35) = false by simp [h1]]
    clear h1
    go_enter Tryz.func7, Tryz.ntmps7
    go_wp2_with (first | (go_at_call 16; refine c1.mono ?_; rintro e w1 ⟨v1, rfl, ho, hb⟩; have O1 := Aside0.mk ho; have B1 := Aside0.mk hb; clear ho hb) | (go_at_call 17; refine (c2 _ B1.out).mono ?_; rintro e w2 ⟨rfl, hb⟩; have B2 := Aside0.mk hb; clear hb) | (go_at_call 18; refine (c3 _ B2.out).mono ?_; rintro e w3 ⟨ob, cap, rfl, ho, hb⟩; have O3 := Aside0.mk ho; have B3 := Aside0.mk hb; clear ho hb))
    repeat (go_quiet (fail); try go_wp2)
    go_ret
    exact ⟨rfl, B3.out.trans ⟨rfl, rfl, rfl, Nat.le_refl _, fun _ _ => rfl⟩⟩
theorem blist_eq (a b : ByteArray) : a = b ↔ a.toList = b.toList := ⟨fun h => h ▸ rfl, fun h => by
  rw [ByteArray.toList_eq, ByteArray.toList_eq] at h
  exact ByteArray.ext (Array.toList_inj.1 h)⟩
set_option maxRecDepth 100000 in
set_option maxHeartbeats 4000000 in
theorem valid_id (k : Nat) (kind value : ByteArray) (w : World) (n : Int) (nat : Bool) (hG : GW w) (hk : kFits kind) (hv : value.size ≤ 4294967296) (hp : plainF k value = some (n, nat)) (e0 : ((kWord kind).toList == [116, 101, 120, 116]) = false) (e1 : ((kWord kind).toList == [102, 108, 97, 103]) = false) (e2 : ((kWord kind).toList == [101, 110, 117, 109]) = false) (e3 : ((kWord kind).toList == [105, 110, 116]) = false) (e4 : ((kWord kind).toList == [110, 97, 116]) = false) (e5 : ((kWord kind).toList == [112, 111, 115]) = false) (e6 : ((kWord kind).toList == [115, 112, 97, 110]) = false) (e7 : ((kWord kind).toList == [102, 108, 111, 97, 116]) = false) (e8 : ((kWord kind).toList == [105, 100]) = true) :
    Calls Tryz.prog 7 #[.string kind, .string value] w fun e w' => e = .returned (.bool (decide (tokens value = [value]))) ∧ Below w.heap.size w w' := by
  have mixed : Tryz.prog.follows Departure.mixedOrders = true := by kernel_rfl
  have c1 := kinds_walk kind w hG hk
  have c2 : ∀ W, Below w.heap.size w W → Calls Tryz.prog 17 #[.string value] W fun e w' => e = .returned (.tuple #[.int .i64 n, .bool nat]) ∧ Below w.heap.size w w' := fun W hW => (plain_walk k value n nat W (hG.below hW) hp).mono fun e w' ⟨he, hb⟩ => ⟨he, hW.trans (hb.mono hW.size)⟩
  have c3 : ∀ W, Below w.heap.size w W → Calls Tryz.prog 18 #[.string value] W fun e w' => ∃ ob cap, e = .returned (.slice ob (tokens value).length cap) ∧ w'.ownsRow w.heap.size 9 1 (.slice ob (tokens value).length cap) (tokens value).length ((tokens value).map Value.string) ∧ Below w.heap.size w w' := fun W hW => tokens_form value W w.heap.size hW.size hv |>.mono fun e w' ⟨ob, cap, he, ho, hb⟩ => ⟨ob, cap, he, ho, hW.trans (hb.mono hW.size)⟩
  have c3b : ∀ x, tokens value = [x] → ∀ W, Below w.heap.size w W → Calls Tryz.prog 18 #[.string value] W fun e w' => ∃ g cap, e = .returned (.slice (some ⟨g, 0, none⟩) 1 cap) ∧ w'.cell? ⟨g, 0, none⟩ = some (.string x) ∧ Below w.heap.size w w' := fun x hx W hW => (tokens_walk value W hv).mono fun e w' ⟨v, he, ho, hb⟩ => by
    rw [hx] at ho
    rcases ho.2 with ⟨rfl, h0⟩ | ⟨g, cap, cur, rfl, _⟩
    · exact absurd h0 (by simp)
    · exact ⟨g, cap, he, by simpa using ho.cellAt 0 (by simp), hW.trans (hb.mono hW.size)⟩
  obtain ⟨kw, hkw⟩ : ∃ x, kWord kind = x := ⟨_, rfl⟩
  obtain ⟨ks, hks⟩ : ∃ x, kWords kind = x := ⟨_, rfl⟩
  obtain ⟨ts, hts⟩ : ∃ x, tokens value = x := ⟨_, rfl⟩
  rw [hkw] at c1 e0 e1 e2 e3 e4 e5 e6 e7 e8
  rw [hks] at c1
  rw [hts] at c3 c3b ⊢
  clear hts hkw hk hks hp hG hv
  by_cases h1 : ∃ x, ts = [x]
  · obtain ⟨x, rfl⟩ := h1
    replace c3b := c3b x rfl
    clear c3
    rw [show decide ([x] = [value]) = (x.toList == value.toList) by rw [Bool.eq_iff_iff]; simp [blist_eq]]
    go_enter Tryz.func7, Tryz.ntmps7
    go_wp2_with (first | (go_at_call 16; refine c1.mono ?_; rintro e w1 ⟨v1, rfl, ho, hb⟩; have O1 := Aside0.mk ho; have B1 := Aside0.mk hb; clear ho hb) | (go_at_call 17; refine (c2 _ B1.out).mono ?_; rintro e w2 ⟨rfl, hb⟩; have B2 := Aside0.mk hb; clear hb) | (go_at_call 18; refine (c3b _ B2.out).mono ?_; rintro e w3 ⟨g3, cap, rfl, hcell, hb⟩; have B3 := Aside0.mk hb; clear hb))
    repeat (go_quiet (fail); try go_wp2)
    go_ret
    exact ⟨rfl, B3.out.trans ⟨rfl, rfl, rfl, Nat.le_refl _, fun _ _ => rfl⟩⟩
  · have d1 : ((ts.length : Int) == 1) = false := by
      rw [beq_eq_false_iff_ne]
      intro h
      obtain ⟨x, hx⟩ := List.length_eq_one_iff.1 (by omega : ts.length = 1)
      exact h1 ⟨x, hx⟩
    rw [show decide (ts = [value]) = false from decide_eq_false fun h => h1 ⟨_, h⟩]
    clear c3b h1
    go_enter Tryz.func7, Tryz.ntmps7
    go_wp2_with (first | (go_at_call 16; refine c1.mono ?_; rintro e w1 ⟨v1, rfl, ho, hb⟩; have O1 := Aside0.mk ho; have B1 := Aside0.mk hb; clear ho hb) | (go_at_call 17; refine (c2 _ B1.out).mono ?_; rintro e w2 ⟨rfl, hb⟩; have B2 := Aside0.mk hb; clear hb) | (go_at_call 18; refine (c3 _ B2.out).mono ?_; rintro e w3 ⟨ob, cap, rfl, ho, hb⟩; have O3 := Aside0.mk ho; have B3 := Aside0.mk hb; clear ho hb))
    repeat (go_quiet (fail); try go_wp2)
    go_ret
    exact ⟨rfl, B3.out.trans ⟨rfl, rfl, rfl, Nat.le_refl _, fun _ _ => rfl⟩⟩
set_option maxRecDepth 100000 in
set_option maxHeartbeats 4000000 in
theorem valid_float (k : Nat) (kind value : ByteArray) (w : World) (n : Int) (nat : Bool) (hG : GW w) (hk : kFits kind) (hv : value.size ≤ 4294967296) (hp : plainF k value = some (n, nat)) (e0 : ((kWord kind).toList == [116, 101, 120, 116]) = false) (e1 : ((kWord kind).toList == [102, 108, 97, 103]) = false) (e2 : ((kWord kind).toList == [101, 110, 117, 109]) = false) (e3 : ((kWord kind).toList == [105, 110, 116]) = false) (e4 : ((kWord kind).toList == [110, 97, 116]) = false) (e5 : ((kWord kind).toList == [112, 111, 115]) = false) (e6 : ((kWord kind).toList == [115, 112, 97, 110]) = false) (e7 : ((kWord kind).toList == [102, 108, 111, 97, 116]) = true) (b : Bool) (hw : floatF k value = some b) :
    Calls Tryz.prog 7 #[.string kind, .string value] w fun e w' => e = .returned (.bool b) ∧ Below w.heap.size w w' := by
  have mixed : Tryz.prog.follows Departure.mixedOrders = true := by kernel_rfl
  have c1 := kinds_walk kind w hG hk
  have c2 : ∀ W, Below w.heap.size w W → Calls Tryz.prog 17 #[.string value] W fun e w' => e = .returned (.tuple #[.int .i64 n, .bool nat]) ∧ Below w.heap.size w w' := fun W hW => (plain_walk k value n nat W (hG.below hW) hp).mono fun e w' ⟨he, hb⟩ => ⟨he, hW.trans (hb.mono hW.size)⟩
  have c3 : ∀ W, Below w.heap.size w W → Calls Tryz.prog 18 #[.string value] W fun e w' => ∃ ob cap, e = .returned (.slice ob (tokens value).length cap) ∧ w'.ownsRow w.heap.size 9 1 (.slice ob (tokens value).length cap) (tokens value).length ((tokens value).map Value.string) ∧ Below w.heap.size w w' := fun W hW => tokens_form value W w.heap.size hW.size hv |>.mono fun e w' ⟨ob, cap, he, ho, hb⟩ => ⟨ob, cap, he, ho, hW.trans (hb.mono hW.size)⟩
  have c4 : ∀ W, Below w.heap.size w W → Calls Tryz.prog 22 #[.string value] W fun e w' => e = .returned (.bool b) ∧ Below w.heap.size w w' := fun W hW => (float_walk k value b W (hG.below hW) hw).mono fun e w' ⟨he, hb⟩ => ⟨he, hW.trans (hb.mono hW.size)⟩
  obtain ⟨kw, hkw⟩ : ∃ x, kWord kind = x := ⟨_, rfl⟩
  obtain ⟨ks, hks⟩ : ∃ x, kWords kind = x := ⟨_, rfl⟩
  obtain ⟨ts, hts⟩ : ∃ x, tokens value = x := ⟨_, rfl⟩
  rw [hkw] at c1 e0 e1 e2 e3 e4 e5 e6 e7
  rw [hks] at c1
  rw [hts] at c3
  clear hts hw hkw hk hks hp hG hv
  go_enter Tryz.func7, Tryz.ntmps7
  go_wp2_with (first | (go_at_call 16; refine c1.mono ?_; rintro e w1 ⟨v1, rfl, ho, hb⟩; have O1 := Aside0.mk ho; have B1 := Aside0.mk hb; clear ho hb) | (go_at_call 17; refine (c2 _ B1.out).mono ?_; rintro e w2 ⟨rfl, hb⟩; have B2 := Aside0.mk hb; clear hb) | (go_at_call 18; refine (c3 _ B2.out).mono ?_; rintro e w3 ⟨ob, cap, rfl, ho, hb⟩; have O3 := Aside0.mk ho; have B3 := Aside0.mk hb; clear ho hb) | (go_at_call 22; refine (c4 _ B3.out).mono ?_; rintro e w4 ⟨rfl, hb⟩; have B4 := Aside0.mk hb; clear hb))
  repeat (go_quiet (fail); try go_wp2)
  go_ret
  exact ⟨by first | rfl | simp, B4.out.trans ⟨rfl, rfl, rfl, Nat.le_refl _, fun _ _ => rfl⟩⟩
set_option maxRecDepth 100000 in
set_option maxHeartbeats 4000000 in
theorem valid_tokens (k : Nat) (kind value : ByteArray) (w : World) (n : Int) (nat : Bool) (hG : GW w) (hk : kFits kind) (hv : value.size ≤ 4294967296) (hp : plainF k value = some (n, nat)) (e0 : ((kWord kind).toList == [116, 101, 120, 116]) = false) (e1 : ((kWord kind).toList == [102, 108, 97, 103]) = false) (e2 : ((kWord kind).toList == [101, 110, 117, 109]) = false) (e3 : ((kWord kind).toList == [105, 110, 116]) = false) (e4 : ((kWord kind).toList == [110, 97, 116]) = false) (e5 : ((kWord kind).toList == [112, 111, 115]) = false) (e6 : ((kWord kind).toList == [115, 112, 97, 110]) = false) (e7 : ((kWord kind).toList == [102, 108, 111, 97, 116]) = false) (e8 : ((kWord kind).toList == [105, 100]) = false) (e9 : ((kWord kind).toList == [105, 100, 115]) = false) (e10 : ((kWord kind).toList == [116, 111, 107, 101, 110, 115]) = true) (h20 : value.size ≤ 1048576) :
    Calls Tryz.prog 7 #[.string kind, .string value] w fun e w' => e = .returned (.bool (decide ((tokens value).length > 0) && (joinS (tokens value)).toList == (joinS (wordsOf value)).toList)) ∧ Below w.heap.size w w' := by
  have mixed : Tryz.prog.follows Departure.mixedOrders = true := by kernel_rfl
  have c1 := kinds_walk kind w hG hk
  have c2 : ∀ W, Below w.heap.size w W → Calls Tryz.prog 17 #[.string value] W fun e w' => e = .returned (.tuple #[.int .i64 n, .bool nat]) ∧ Below w.heap.size w w' := fun W hW => (plain_walk k value n nat W (hG.below hW) hp).mono fun e w' ⟨he, hb⟩ => ⟨he, hW.trans (hb.mono hW.size)⟩
  have c3 : ∀ W, Below w.heap.size w W → Calls Tryz.prog 18 #[.string value] W fun e w' => ∃ ob cap, e = .returned (.slice ob (tokens value).length cap) ∧ w'.ownsRow w.heap.size 9 1 (.slice ob (tokens value).length cap) (tokens value).length ((tokens value).map Value.string) ∧ Below w.heap.size w w' := fun W hW => tokens_form value W w.heap.size hW.size hv |>.mono fun e w' ⟨ob, cap, he, ho, hb⟩ => ⟨ob, cap, he, ho, hW.trans (hb.mono hW.size)⟩
  have c4 : ∀ W, Calls Tryz.prog 24 #[.string value] W fun e w' => e = .returned (.string (joinS (wordsOf value))) ∧ Below W.heap.size W w' := fun W => strip_walk value W h20
  have c5 : ∀ (wx : World) (ob : Option Addr) (cap : Nat), wx.ownsRow w.heap.size 9 1 (.slice ob (tokens value).length cap) (tokens value).length ((tokens value).map Value.string) → tokens value ≠ [] → ∀ W, Below wx.heap.size wx W → Calls Tryz.prog 23 #[.slice ob (tokens value).length cap, .string ⟨#[32]⟩] W fun e w' => e = .returned (.string (joinS (tokens value))) ∧ Below W.heap.size W w' :=
    fun wx ob cap ho hne W hW => join_own ho hne (join_ok _ value.size (tokens_size value) (tokens_len value) h20) (by have := tokens_len value; omega) W hW
  obtain ⟨kw, hkw⟩ : ∃ x, kWord kind = x := ⟨_, rfl⟩
  obtain ⟨ks, hks⟩ : ∃ x, kWords kind = x := ⟨_, rfl⟩
  obtain ⟨ts, hts⟩ : ∃ x, tokens value = x := ⟨_, rfl⟩
  rw [hkw] at c1 e0 e1 e2 e3 e4 e5 e6 e7 e8 e9 e10
  rw [hks] at c1
  rw [hts] at c3 c5 ⊢
  clear hts h20 hkw hk hks hp hG hv
  by_cases h1 : ts = []
  · subst h1
    rw [show (decide (([] : List ByteArray).length > 0) && (joinS []).toList == (joinS (wordsOf value)).toList) = false from rfl]
    clear c5 c4
    go_enter Tryz.func7, Tryz.ntmps7
    go_wp2_with (first | (go_at_call 16; refine c1.mono ?_; rintro e w1 ⟨v1, rfl, ho, hb⟩; have O1 := Aside0.mk ho; have B1 := Aside0.mk hb; clear ho hb) | (go_at_call 17; refine (c2 _ B1.out).mono ?_; rintro e w2 ⟨rfl, hb⟩; have B2 := Aside0.mk hb; clear hb) | (go_at_call 18; refine (c3 _ B2.out).mono ?_; rintro e w3 ⟨ob, cap, rfl, ho, hb⟩; have O3 := Aside0.mk ho; have B3 := Aside0.mk hb; clear ho hb))
    repeat (go_quiet (fail); try go_wp2)
    go_ret
    exact ⟨rfl, B3.out.trans ⟨rfl, rfl, rfl, Nat.le_refl _, fun _ _ => rfl⟩⟩
  · have hpos : 0 < ts.length := List.length_pos_iff.2 h1
    have d1 : decide (0 < (ts.length : Int)) = true := decide_eq_true (by omega)
    have d2 : decide (0 < ts.length) = true := decide_eq_true hpos
    rw [show (decide (ts.length > 0) && (joinS ts).toList == (joinS (wordsOf value)).toList) = ((joinS ts).toList == (joinS (wordsOf value)).toList) by simp [hpos]]
    have H1 := Aside0.mk h1
    have C4 := Aside0.mk c4
    obtain ⟨J, hJ⟩ : ∃ J, joinS (wordsOf value) = J := ⟨_, rfl⟩
    obtain ⟨I, hI⟩ : ∃ I, joinS ts = I := ⟨_, rfl⟩
    rw [hJ, hI]
    rw [hJ] at C4
    rw [hI] at c5
    clear c4 h1 hJ hI
    go_enter Tryz.func7, Tryz.ntmps7
    go_wp2_with (first | (go_at_call 16; refine c1.mono ?_; rintro e w1 ⟨v1, rfl, ho, hb⟩; have O1 := Aside0.mk ho; have B1 := Aside0.mk hb; clear ho hb) | (go_at_call 17; refine (c2 _ B1.out).mono ?_; rintro e w2 ⟨rfl, hb⟩; have B2 := Aside0.mk hb; clear hb) | (go_at_call 18; refine (c3 _ B2.out).mono ?_; rintro e w3 ⟨ob, cap, rfl, ho, hb⟩; have O3 := Aside0.mk ho; have B3 := Aside0.mk hb; clear ho hb) | (go_at_call 23; refine (c5 _ ob cap O3.out H1.out _ (Below.refl _ _)).mono ?_; rintro e w4 ⟨rfl, hb⟩; have B4 := Aside0.mk hb; clear hb) | (go_at_call 24; refine (C4.out _).mono ?_; rintro e w5 ⟨rfl, hb⟩; have B5 := Aside0.mk hb; clear hb))
    repeat (go_quiet (fail); try go_wp2)
    go_ret
    exact ⟨rfl, (B3.out.trans (B4.out.mono B3.out.size)).trans (B5.out.mono (Nat.le_trans B3.out.size B4.out.size))⟩
def validAt (k : Nat) (kind value : ByteArray) (x : Int × Bool) : Option Bool :=
  if ((kWord kind).toList == [116, 101, 120, 116]) = true then some true
  else if ((kWord kind).toList == [102, 108, 97, 103]) = true then some (value.toList == [])
  else if ((kWord kind).toList == [101, 110, 117, 109]) = true then none
  else if ((kWord kind).toList == [105, 110, 116]) = true then (micro_Int.f k value).map fun y => y.2
  else if ((kWord kind).toList == [110, 97, 116]) = true then some x.2
  else if ((kWord kind).toList == [112, 111, 115]) = true then some (x.2 && decide (x.1 > 0))
  else if ((kWord kind).toList == [115, 112, 97, 110]) = true then some (x.2 && decide (x.1 > 0) && decide (x.1 ≤ 1000))
  else if ((kWord kind).toList == [102, 108, 111, 97, 116]) = true then floatF k value
  else if ((kWord kind).toList == [105, 100]) = true then some (decide (tokens value = [value]))
  else if ((kWord kind).toList == [105, 100, 115]) = true then some (decide ((tokens value).length > 0))
  else if ((kWord kind).toList == [116, 111, 107, 101, 110, 115]) = true then if value.size ≤ 1048576 then some (decide ((tokens value).length > 0) && (joinS (tokens value)).toList == (joinS (wordsOf value)).toList) else none
  else if ((kWord kind).toList == [104, 97, 115, 104]) = true then some (decide (value.size > 1) && bt value 0 == 35)
  else if ((kWord kind).toList == [119, 104, 101, 110]) = true then whenF k value
  else some false
def validF (k : Nat) (kind value : ByteArray) : Option Bool := if kind.size < 4294967281 ∧ (kRest kind).size < 4294967281 ∧ value.size ≤ 4294967296 then (plainF k value).bind fun x => validAt k kind value x else none
theorem valid_walk (k : Nat) (kind value : ByteArray) (r : Bool) (w : World) (hG : GW w) (h : validF k kind value = some r) : Calls Tryz.prog 7 #[.string kind, .string value] w fun e w' => e = .returned (.bool r) ∧ Below w.heap.size w w' := by
  unfold validF at h
  split at h
  case isFalse => cases h
  rename_i hc
  obtain ⟨h1, h2, hv⟩ := hc
  have hk : kFits kind := ⟨h1, h2⟩
  obtain ⟨⟨n, nat⟩, hp, h⟩ := Option.bind_eq_some_iff.1 h
  unfold validAt at h
  cases e0 : ((kWord kind).toList == [116, 101, 120, 116])
  case true =>
    rw [e0, if_pos rfl] at h
    obtain rfl := Option.some.inj h
    exact valid_text k kind value w n nat hG hk hv hp e0
  rw [e0, if_neg (by decide)] at h
  cases e1 : ((kWord kind).toList == [102, 108, 97, 103])
  case true =>
    rw [e1, if_pos rfl] at h
    obtain rfl := Option.some.inj h
    exact valid_flag k kind value w n nat hG hk hv hp e0 e1
  rw [e1, if_neg (by decide)] at h
  cases e2 : ((kWord kind).toList == [101, 110, 117, 109])
  case true =>
    rw [e2, if_pos rfl] at h
    cases h
  rw [e2, if_neg (by decide)] at h
  cases e3 : ((kWord kind).toList == [105, 110, 116])
  case true =>
    rw [e3, if_pos rfl] at h
    obtain ⟨⟨m, b⟩, hi, rfl⟩ := Option.map_eq_some_iff.1 h
    exact valid_int k kind value w n nat hG hk hv hp e0 e1 e2 e3 m b hi
  rw [e3, if_neg (by decide)] at h
  cases e4 : ((kWord kind).toList == [110, 97, 116])
  case true =>
    rw [e4, if_pos rfl] at h
    obtain rfl := Option.some.inj h
    exact valid_nat k kind value w n nat hG hk hv hp e0 e1 e2 e3 e4
  rw [e4, if_neg (by decide)] at h
  cases e5 : ((kWord kind).toList == [112, 111, 115])
  case true =>
    rw [e5, if_pos rfl] at h
    obtain rfl := Option.some.inj h
    exact valid_pos k kind value w n nat hG hk hv hp e0 e1 e2 e3 e4 e5
  rw [e5, if_neg (by decide)] at h
  cases e6 : ((kWord kind).toList == [115, 112, 97, 110])
  case true =>
    rw [e6, if_pos rfl] at h
    obtain rfl := Option.some.inj h
    exact valid_span k kind value w n nat hG hk hv hp e0 e1 e2 e3 e4 e5 e6
  rw [e6, if_neg (by decide)] at h
  cases e7 : ((kWord kind).toList == [102, 108, 111, 97, 116])
  case true =>
    rw [e7, if_pos rfl] at h
    exact valid_float k kind value w n nat hG hk hv hp e0 e1 e2 e3 e4 e5 e6 e7 r h
  rw [e7, if_neg (by decide)] at h
  cases e8 : ((kWord kind).toList == [105, 100])
  case true =>
    rw [e8, if_pos rfl] at h
    obtain rfl := Option.some.inj h
    exact valid_id k kind value w n nat hG hk hv hp e0 e1 e2 e3 e4 e5 e6 e7 e8
  rw [e8, if_neg (by decide)] at h
  cases e9 : ((kWord kind).toList == [105, 100, 115])
  case true =>
    rw [e9, if_pos rfl] at h
    obtain rfl := Option.some.inj h
    exact valid_ids k kind value w n nat hG hk hv hp e0 e1 e2 e3 e4 e5 e6 e7 e8 e9
  rw [e9, if_neg (by decide)] at h
  cases e10 : ((kWord kind).toList == [116, 111, 107, 101, 110, 115])
  case true =>
    rw [e10, if_pos rfl] at h
    split at h
    case isFalse => cases h
    rename_i h20
    obtain rfl := Option.some.inj h
    exact valid_tokens k kind value w n nat hG hk hv hp e0 e1 e2 e3 e4 e5 e6 e7 e8 e9 e10 h20
  rw [e10, if_neg (by decide)] at h
  cases e11 : ((kWord kind).toList == [104, 97, 115, 104])
  case true =>
    rw [e11, if_pos rfl] at h
    obtain rfl := Option.some.inj h
    exact valid_hash k kind value w n nat hG hk hv hp e0 e1 e2 e3 e4 e5 e6 e7 e8 e9 e10 e11
  rw [e11, if_neg (by decide)] at h
  cases e12 : ((kWord kind).toList == [119, 104, 101, 110])
  case true =>
    rw [e12, if_pos rfl] at h
    exact valid_when k kind value w n nat hG hk hv hp e0 e1 e2 e3 e4 e5 e6 e7 e8 e9 e10 e11 e12 r h
  rw [e12, if_neg (by decide)] at h
  obtain rfl := Option.some.inj h
  exact valid_other k kind value w n nat hG hk hv hp e0 e1 e2 e3 e4 e5 e6 e7 e8 e9 e10 e11 e12
def micro_Valid.f (a0 a1 : ByteArray) : Option Bool := validF 100 a0 a1
theorem micro_Valid.calls (a0 a1 : ByteArray) (r : Bool) (w : World) (hG : GW w) (h : micro_Valid.f a0 a1 = some r) : Calls Tryz.prog 7 #[.string a0, .string a1] w fun e w' => e = .returned (.bool r) ∧ Below w.heap.size w w' := valid_walk 100 a0 a1 r w hG h
end Go.Proofs.YtnfjohpecedpnaaGreatDoor.PM
