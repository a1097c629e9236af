/- schema.Kinds and micro.plain at any texts. -/
import Derived.Test.YtnfjohpecedpnaaGreatDoorHTok
namespace Go.Proofs.YtnfjohpecedpnaaGreatDoor.PM
open Go.RowKit Go.Lib Go.Proofs.YtnfjohpecedpnaaGreatDoor.Glob Go.Proofs.YtnfjohpecedpnaaGreatDoorW.PrintWords Go.Proofs.YtnfjohpecedpnaaGreatDoorW.PrintLast Go.Proofs.YtnfjohpecedpnaaGreatDoorW.PrintMore

def kRest (kind : ByteArray) : ByteArray := ⟨(Lib.cut kind.data.toList [61]).2.1.toArray⟩
def kOk (kind : ByteArray) : Bool := (Lib.cut kind.data.toList [61]).2.2
def kWord (kind : ByteArray) : ByteArray := if kOk kind = true then ⟨(Lib.cut kind.data.toList [61]).1.toArray⟩ else kind
def kWords (kind : ByteArray) : List ByteArray := if kOk kind = true then Lib.splitB ⟨#[44]⟩ 0 (Lib.countB (kRest kind) ⟨#[44]⟩) (kRest kind) else []
def kFits (kind : ByteArray) : Prop := kind.size < 4294967281 ∧ (kRest kind).size < 4294967281
set_option maxRecDepth 100000 in
set_option maxHeartbeats 4000000 in
theorem kinds_walk (kind : ByteArray) (w : World) (hG : GW w) (hs : kFits kind) : Calls Tryz.prog 16 #[.string kind] w fun e w' => ∃ v, e = .returned (.tuple #[.string (kWord kind), v]) ∧ w'.ownsRow w.heap.size 9 1 v (kWords kind).length ((kWords kind).map Value.string) ∧ Below w.heap.size w w' := by
  have c1 : Calls Tryz.prog 42 #[.string kind, .string ⟨#[61]⟩] w fun e w' => e = .returned (.tuple #[.string ⟨(Lib.cut kind.data.toList [61]).1.toArray⟩, .string (kRest kind), .bool (kOk kind)]) ∧ Below w.heap.size w w' :=
    strings_Cut.calls kind ⟨#[61]⟩ _ _ _ w hG (by unfold strings_Cut.f; rw [if_pos hs.1]; rfl)
  have c2 : ∀ W, Below w.heap.size w W → Calls Tryz.prog 43 #[.string (kRest kind), .string ⟨#[44]⟩] W fun e w' => e = .returned (.slice (some ⟨W.heap.size, 0, none⟩) (Lib.countB (kRest kind) ⟨#[44]⟩ + 1) (Lib.countB (kRest kind) ⟨#[44]⟩ + 1)) ∧ w' = W.alloc (.cells ((Lib.splitB ⟨#[44]⟩ 0 (Lib.countB (kRest kind) ⟨#[44]⟩) (kRest kind)).map Value.string).toArray 9) :=
    fun W hW => Tryz.strings_Split_shaped (kRest kind) ⟨#[44]⟩ W (hG.below hW).shaped hs.2 (by decide)
  have hn := Lib.countB_le ⟨#[44]⟩ (by decide) (kRest kind).size (kRest kind) (Nat.le_refl _)
  have hl := Lib.splitB_all ⟨#[44]⟩ (by decide) 0 _ (kRest kind) rfl
  obtain ⟨hs1, hs2⟩ := hs
  unfold kWord kWords
  cases hk : kOk kind with
  | false =>
    rw [hk] at c1
    rw [if_neg (by decide), if_neg (by decide)]
    clear c2 hn hl hG
    go_enter Tryz.func16, Tryz.ntmps16
    go_wp2_with (go_at_call 42; refine c1.mono ?_; rintro e w1 ⟨rfl, hb⟩; have B1 := Aside0.mk hb; clear hb)
    go_ret2
    exact ⟨_, rfl, World.ownsRow_nil _ _ _ _, B1.out⟩
  | true =>
    rw [hk] at c1
    rw [if_pos rfl, if_pos rfl]
    obtain ⟨L, hL⟩ : ∃ L, Lib.splitB ⟨#[44]⟩ 0 (Lib.countB (kRest kind) ⟨#[44]⟩) (kRest kind) = L := ⟨_, rfl⟩
    rw [hL] at c2 hl ⊢
    rw [← hl] at c2
    rw [← Nat.add_le_add_iff_right (n := 1), ← hl] at hn
    have HN := Aside0.mk hn
    have HS := Aside0.mk hs2
    clear hn hl hG hL hk
    go_enter Tryz.func16, Tryz.ntmps16
    go_wp2_with (first | (go_at_call 42; refine c1.mono ?_; rintro e w1 ⟨rfl, hb⟩; have B1 := Aside0.mk hb; clear hb) | (go_at_call 43; refine (c2 _ B1.out).mono ?_; rintro e w2 ⟨rfl, rfl⟩))
    go_ret2
    refine ⟨_, rfl, ?_, B1.out.alloc B1.out.size _⟩
    have := World.ownsRow_lit (base := w.heap.size) (e := 9) (size := 1) w1 (L.map Value.string).toArray L.length B1.out.size (by have := HN.out; have := HS.out; unfold maxLen; omega) (by simp)
    simpa using this
def plainF (k : Nat) (s : ByteArray) : Option (Int × Bool) := (micro_Int.f k s).bind fun x => if x.2 = true then (if 0 < s.size then some (x.1, bt s 0 != 45) else none) else some (x.1, false)
set_option maxRecDepth 100000 in
set_option maxHeartbeats 4000000 in
theorem plain_walk (k : Nat) (s : ByteArray) (n : Int) (b : Bool) (w : World) (hG : GW w) (h : plainF k s = some (n, b)) : Calls Tryz.prog 17 #[.string s] w fun e w' => e = .returned (.tuple #[.int .i64 n, .bool b]) ∧ Below w.heap.size w w' := by
  obtain ⟨⟨m, ok⟩, h1, h⟩ := Option.bind_eq_some_iff.1 h
  simp only at h
  have mixed : Tryz.prog.follows Departure.mixedOrders = true := by kernel_rfl
  have c1 := micro_Int.calls k s m ok w hG h1
  clear h1 hG
  cases ok with
  | false =>
    rw [if_neg (by decide)] at h
    obtain ⟨rfl, rfl⟩ : m = n ∧ false = b := by
      have e := Option.some.inj h
      injection e with e1 e2
      exact ⟨e1, e2⟩
    clear h
    go_enter Tryz.func17, Tryz.ntmps17
    go_wp2_with (go_at_call 21; refine c1.mono ?_; rintro e w1 ⟨rfl, hb⟩; have B1 := Aside0.mk hb; clear hb)
    repeat (go_quiet (fail); try go_wp2)
    go_ret2
    exact ⟨rfl, B1.out.trans ⟨rfl, rfl, rfl, Nat.le_refl _, fun _ _ => rfl⟩⟩
  | true =>
    rw [if_pos rfl] at h
    by_cases hz : 0 < s.size
    · rw [if_pos hz] at h
      obtain ⟨rfl, rfl⟩ : m = n ∧ (bt s 0 != 45) = b := by
        have e := Option.some.inj h
        injection e with e1 e2
        exact ⟨e1, e2⟩
      clear h
      have c5b0 : decide (0 < (s.size : Int)) = true := decide_eq_true (by omega)
      have c5b1 : decide (0 < s.size) = true := decide_eq_true (by omega)
      go_enter Tryz.func17, Tryz.ntmps17
      go_wp2_with (go_at_call 21; refine c1.mono ?_; rintro e w1 ⟨rfl, hb⟩; have B1 := Aside0.mk hb; clear hb)
      repeat (go_quiet (fail); try go_wp2)
      rw [show bt s 0 = ((s[0]'hz).toNat : Int) from dif_pos hz]
      go_ret2
      exact ⟨rfl, B1.out.trans ⟨rfl, rfl, rfl, Nat.le_refl _, fun _ _ => rfl⟩⟩
    · rw [if_neg hz] at h
      cases h
end Go.Proofs.YtnfjohpecedpnaaGreatDoor.PM
