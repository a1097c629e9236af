/- sniff.small at any string of at most 4000000000 bytes: the letters A to Z made a to z. -/
import Derived.Test.YtmafnkjplnckoaaDoorPLx0
import Derived.Lib.ConvBytes
import Derived.Lib.AtoiErrMem
import Derived.Laws.BytesArg
import Derived.Outline
import Derived.Lib.Hide
namespace Go.Proofs.YtmafnkjplnckoaaDoor.PL
open Go.RowKit Go.Proofs.YtmafnkjplnckoaaDoorW.PrintWords Go.Proofs.YtmafnkjplnckoaaDoorW.PrintLast Go.Proofs.YtmafnkjplnckoaaDoorW.PrintMore

def low (c : UInt8) : UInt8 := if 65 ≤ c.toNat ∧ c.toNat ≤ 90 then UInt8.ofNat (c.toNat + 32) else c
def lowB (a0 : ByteArray) : ByteArray := ⟨(a0.data.toList.map low).toArray⟩
def sniff_small.f (a0 : ByteArray) : Option ByteArray := if a0.size ≤ 4000000000 then some (lowB a0) else none
def at_ (s : ByteArray) (j : Nat) : UInt8 := s.data.toList.getD j 0
def mid (s : ByteArray) (k j : Nat) : Int := ((if j < k then low (at_ s j) else at_ s j).toNat : Int)
structure SR (w : World) (s : ByteArray) (k : Nat) (wr : World) : Prop where
  cell : ∀ j, j < s.size → wr.cell? ⟨w.heap.size, j, none⟩ = some (.int .u8 (mid s k j))
  free : ∀ j, j < s.size → wr.frozen? ⟨w.heap.size, j, none⟩ = false
  bel : Below w.heap.size w wr
theorem or32 : ∀ n : Fin 26, bits .or .u8 (65 + (n.val : Int)) 32 = 97 + (n.val : Int) := by decide
theorem bytes_free (w : World) (e : TypeId) (s : ByteArray) (j : Nat) (hj : j < s.size) : (Lib.bytesWorld w e s).frozen? ⟨w.heap.size, j, none⟩ = false := by
  have h := Lib.bytesWorld_at_new w e s
  have hs : s.size ≤ (Lib.bytesCells w e s).size := by simp [Lib.bytesCells]
  unfold World.frozen?
  simp [h]
  omega
theorem SR.start (w : World) (s : ByteArray) : SR w s 0 (Lib.bytesWorld w 5 s) :=
  ⟨fun j hj => by rw [Lib.bytesWorld_cell w 5 s j hj]; rfl, fun j hj => bytes_free w 5 s j hj, Lib.bytesWorld_below w 5 s⟩
theorem mid_next_low {s : ByteArray} {k : Nat} {n : Int} (hn : n = ((at_ s k).toNat : Int)) (h1 : 65 ≤ n) (h2 : n ≤ 90) : bits .or .u8 n 32 = mid s (k + 1) k := by
  have h := or32 ⟨(n - 65).toNat, by omega⟩
  simp only at h
  rw [show (65 : Int) + ((n - 65).toNat : Int) = n from by omega] at h
  rw [h]
  unfold mid low
  rw [if_pos (Nat.lt_succ_self k), if_pos ⟨by omega, by omega⟩]
  have : (UInt8.ofNat ((at_ s k).toNat + 32)).toNat = (at_ s k).toNat + 32 := by simp; omega
  omega
theorem mid_other {s : ByteArray} {k j : Nat} (h : j ≠ k) : mid s (k + 1) j = mid s k j := by
  unfold mid
  by_cases h1 : j < k
  · rw [if_pos h1, if_pos (by omega)]
  · rw [if_neg h1, if_neg (by omega)]
theorem SR.next {w wr : World} {s : ByteArray} {k : Nat} (h : SR w s k wr) (hk : k < s.size) {c : UInt8} {n : Int} (hc : c = at_ s k) (hn : n = (c.toNat : Int)) (h1 : 65 ≤ n) (h2 : n ≤ 90) : SR w s (k + 1) (wr.setCell ⟨w.heap.size, k, none⟩ (.int .u8 (bits .or .u8 n 32))) := by
  subst hc
  refine ⟨fun j hj => ?_, fun j hj => ?_, h.bel.setCell (p := ⟨w.heap.size, k, none⟩) (Nat.le_refl _) _⟩
  · by_cases hjk : j = k
    · subst hjk
      rw [World.cell?_setCell_same _ _ _ (h.cell j hj), mid_next_low hn h1 h2]
    · rw [World.cell?_setCell_other _ _ _ _ (fun e => hjk (by injection e with _ e2 _; exact e2.symm)), h.cell j hj, mid_other hjk]
  · rw [World.frozen?_setCell]
    exact h.free j hj
theorem SR.same {w wr : World} {s : ByteArray} {k : Nat} (h : SR w s k wr) {c : UInt8} (hc : c = at_ s k) (hn : ¬ (65 ≤ c.toNat ∧ c.toNat ≤ 90)) : SR w s (k + 1) wr := by
  subst hc
  refine ⟨fun j hj => ?_, h.free, h.bel⟩
  rw [h.cell j hj]
  by_cases hjk : j = k
  · subst hjk
    unfold mid low
    rw [if_neg (Nat.lt_irrefl j), if_pos (Nat.lt_succ_self j), if_neg hn]
  · rw [mid_other hjk]
theorem SR.back {w wr : World} {s : ByteArray} (h : SR w s s.size wr) {cap : Nat} : (convert 35 9 (.slice (some ⟨w.heap.size, 0, none⟩) s.size cap)).run Tryd.prog wr = .ok (.string (lowB s)) wr := by
  have hl : s.data.toList.length = s.size := by simp
  have e := run_convert_bytes_arg (P := Tryd.prog) wr 35 5 Tryd.underlying35 Tryd.underlying5 w.heap.size 0 s.size cap (s.data.toList.map fun c => ((low c).toNat : Int)) (by simp) (fun i hi => by
    rw [Nat.zero_add, h.cell i hi]
    unfold mid at_
    rw [if_pos hi, List.getD_eq_getElem?_getD, List.getD_eq_getElem?_getD, List.getElem?_map, List.getElem?_eq_getElem (by omega)]
    rfl) 9 Tryd.underlying9
  rw [e]
  congr 3
  unfold strOfNums lowB
  rw [List.map_map]
  congr 2
  refine List.map_congr_left fun c _ => ?_
  simp
set_option maxRecDepth 100000 in
set_option maxHeartbeats 4000000 in
theorem small_walk (a0 : ByteArray) (r : ByteArray) (hr : lowB a0 = r) (w : World) (hs : a0.size ≤ 4000000000) : Calls Tryd.prog 9 #[.string a0] w fun e w' => e = .returned (.string r) ∧ Below w.heap.size w w' := by
  have HR := Aside0.mk hr
  clear hr
  obtain ⟨cap, hcap⟩ : ∃ cap, cap = grownCap w a0.size 0 5 := ⟨_, rfl⟩
  obtain ⟨bw, hbw⟩ : ∃ bw, bw = Lib.bytesWorld w 5 a0 := ⟨_, rfl⟩
  have hconv : (convert 9 35 (.string a0)).run Tryd.prog w = .ok (.slice (some ⟨w.heap.size, 0, none⟩) a0.size cap) bw := by
    rw [hcap, hbw]
    exact Lib.run_convert_string_bytes w 9 35 5 a0 Tryd.underlying9 Tryd.underlying35 Tryd.underlying5
  have HS := Aside0.mk (show SR w a0 0 bw from hbw ▸ SR.start w a0)
  clear hcap hbw
  go_enter Tryd.func9, Tryd.ntmps9
  go_wp2
  go_loopg [10] a0.size (fun kq i wr => ∃ (k : Nat), i = .int .i64 (k : Int) ∧ k ≤ a0.size ∧ Aside0 (SR w a0 k wr) ∧ Aside0 (kq + k = a0.size))
  case atStart => exact ⟨0, rfl, Nat.zero_le _, HS, ⟨by omega⟩⟩
  case round =>
    obtain ⟨k, rfl, hk, HB, HM⟩ := hrel
    by_cases hlt : k < a0.size
    · have hx := HB.out.cell k hlt
      have hz := HB.out.free k hlt
      obtain ⟨c, hc⟩ : ∃ c, c = at_ a0 k := ⟨_, rfl⟩
      have hm : mid a0 k k = (c.toNat : Int) := by unfold mid; rw [if_neg (Nat.lt_irrefl k), ← hc]
      rw [hm] at hx
      have HC := Aside0.mk hc
      have HM2 := Aside0.mk hlt
      clear hc hm
      by_cases h1 : (65 : Int) ≤ (c.toNat : Int)
      · have d1 := decide_eq_true h1
        by_cases h2 : (c.toNat : Int) ≤ 90
        · have d2 := decide_eq_true h2
          go_wp2
          go_roundg (gk - 1)
          case measure => have := HM.out; have := HM2.out; omega
          case rel => exact ⟨k + 1, by go_num, HM2.out, ⟨HB.out.next HM2.out HC.out rfl h1 h2⟩, ⟨by have := HM.out; have := HM2.out; omega⟩⟩
        · have d2 := decide_eq_false h2
          go_wp2
          go_roundg (gk - 1)
          case measure => have := HM.out; have := HM2.out; omega
          case rel => exact ⟨k + 1, by go_num, HM2.out, ⟨HB.out.same HC.out (by omega)⟩, ⟨by have := HM.out; have := HM2.out; omega⟩⟩
      · have d1 := decide_eq_false h1
        go_wp2
        go_roundg (gk - 1)
        case measure => have := HM.out; have := HM2.out; omega
        case rel => exact ⟨k + 1, by go_num, HM2.out, ⟨HB.out.same HC.out (by omega)⟩, ⟨by have := HM.out; have := HM2.out; omega⟩⟩
    · obtain rfl : k = a0.size := by omega
      have hback := HB.out.back (cap := cap)
      rw [HR.out] at hback
      go_wp2
      go_ret
      exact ⟨rfl, HB.out.bel⟩
theorem sniff_small.calls (a0 : ByteArray) (r : ByteArray) (w : World) (h : sniff_small.f a0 = some r) : Calls Tryd.prog 9 #[.string a0] w fun e w' => e = .returned (.string r) ∧ Below w.heap.size w w' := by
  unfold sniff_small.f at h
  split at h
  · rename_i hs
    exact small_walk a0 r (Option.some.inj h) w hs
  · cases h
end Go.Proofs.YtmafnkjplnckoaaDoor.PL
