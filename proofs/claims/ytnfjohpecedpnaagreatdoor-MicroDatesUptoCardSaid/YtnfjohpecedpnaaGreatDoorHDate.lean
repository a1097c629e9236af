/- micro.Date at any text: a date, and nothing behind it. -/
import Derived.Test.YtnfjohpecedpnaaGreatDoorPMx6
import Derived.Test.YtnfjohpecedpnaaGreatDoorHInt
namespace Go.Proofs.YtnfjohpecedpnaaGreatDoor.PM
open Go.RowKit Go.Proofs.YtnfjohpecedpnaaGreatDoor.Glob Go.Proofs.YtnfjohpecedpnaaGreatDoorW.PrintWords Go.Proofs.YtnfjohpecedpnaaGreatDoorW.PrintLast Go.Proofs.YtnfjohpecedpnaaGreatDoorW.PrintMore

def micro_Date.f (k : Nat) (a0 : ByteArray) : Option (Int × Int × Int × Bool) := (micro_scan_date.f k a0 false).bind fun d => (micro_scan_over.f d.2.2.2.1 d.2.2.2.2).bind fun o => if o.1 = true then some (d.1, d.2.1, d.2.2.1, true) else some (0, 0, 0, false)
theorem micro_Date.mono : ∀ a0 k, LeO (micro_Date.f k a0) (micro_Date.f (k + 1) a0) := by
  intro a0 k
  unfold micro_Date.f
  exact LeO.bind (micro_scan_date.mono _ _ _) (fun _ => LeO.refl _)
set_option maxRecDepth 100000 in
set_option maxHeartbeats 4000000 in
theorem micro_Date.calls (k : Nat) (a0 : ByteArray) (r1 r2 r3 : Int) (r4 : Bool) (w : World) (hG : GW w) (h : micro_Date.f k a0 = some (r1, r2, r3, r4)) : Calls Tryz.prog 9 #[.string a0] w fun e w' => e = .returned (.tuple #[.agg #[.int .i64 r1, .int .i64 r2, .int .i64 r3], .bool r4]) ∧ Below w.heap.size w w' := by
  obtain ⟨⟨d1, d2, d3, s1, b1⟩, hf1, h⟩ := Option.bind_eq_some_iff.1 h
  obtain ⟨⟨o, s2, b2⟩, hf2, h⟩ := Option.bind_eq_some_iff.1 h
  simp only at hf2 h
  have F1 := Aside0.mk hf1
  have F2 := Aside0.mk hf2
  have HG := Aside0.mk hG
  clear hf1 hf2 hG
  obtain ⟨C, hC⟩ : ∃ C, Obj.cells #[Value.int IntKind.i64 0, Value.int IntKind.i64 0, Value.int IntKind.i64 0] 24 = C := ⟨_, rfl⟩
  have hI := Aside0.mk (show IsS46 (w.alloc C) ((w.alloc C).alloc (.cells #[.string a0, .bool false] 46)) (w.heap.size + 1) a0 false by simpa using s46_new (w.alloc C) a0)
  have hB := Aside0.mk ((Below.refl (w.alloc C).heap.size (w.alloc C)).alloc (Nat.le_refl _) (.cells #[.string a0, .bool false] 46))
  have HG2 := Aside0.mk (HG.out.alloc C)
  have hA := Aside0.mk ((Below.refl w.heap.size w).alloc (Nat.le_refl _) C)
  subst hC
  cases o with
  | false =>
    obtain ⟨rfl, rfl, rfl, rfl⟩ : r1 = 0 ∧ r2 = 0 ∧ r3 = 0 ∧ r4 = false := by
      have e := Option.some.inj h
      simp only [Prod.mk.injEq] at e
      exact ⟨e.1.symm, e.2.1.symm, e.2.2.1.symm, e.2.2.2.symm⟩
    clear h
    go_enter Tryz.func9, Tryz.ntmps9
    go_wp2_with (first
      | (go_at_call 34; refine (micro_scan_date.calls k (w.heap.size + 1) a0 false d1 d2 d3 s1 b1 _ _ hI.out hB.out HG2.out F1.out).mono ?_; rintro e w1 ⟨rfl, hi1, hb1, _⟩; have I1 := Aside0.mk hi1; have B1 := Aside0.mk hb1; clear hi1 hb1)
      | (go_at_call 35; refine (micro_scan_over.calls (w.heap.size + 1) s1 b1 false s2 b2 _ _ (I1.out.alloc _) (B1.out.alloc B1.out.size _) F2.out).mono ?_; rintro e w3 ⟨rfl, hi3, hb3, hk3⟩
         have hlt1 : w.heap.size + 1 < w1.heap.size := blk_lt I1.out.1
         have hres : w3.heap[w.heap.size]? = some (.cells #[.int .i64 0, .int .i64 0, .int .i64 0] 24 (0, 0)) := (hb3.block w.heap.size (by simp)).trans (blk_new w _)
         have hdd : w3.heap[w1.heap.size]? = some (.cells #[.int .i64 d1, .int .i64 d2, .int .i64 d3] 24 (0, 0)) := hk3.blk (blk_new w1 _) (by omega) (by simp)
         have hr0 := blk_cell hres 0
         have hr1 := blk_cell hres 1
         have hr2 := blk_cell hres 2
         have hq0 := blk_frozen hres 0
         have hq1 := blk_frozen hres 1
         have hq2 := blk_frozen hres 2
         have he0 := blk_cell hdd 0
         have he1 := blk_cell hdd 1
         have he2 := blk_cell hdd 2
         have B3 := Aside0.mk hb3
         have BK := Aside0.mk hres
         clear hi3 hb3 hk3 hres hdd hlt1))
    refine bodyPost_ret (results_ct rfl _ _ w.heap.size 24 #[.int .i64 0, .int .i64 0, .int .i64 0] (0, 0) _ rfl (by refine blk_put (cs := #[.int .i64 0, .int .i64 0, .int .i64 0]) ?_ 2 _ rfl; refine blk_put (cs := #[.int .i64 0, .int .i64 0, .int .i64 0]) ?_ 1 _ rfl; refine blk_put (cs := #[.int .i64 0, .int .i64 0, .int .i64 0]) ?_ 0 _ rfl; exact BK.out) Tryz.underlying24 rfl (by kernel_rfl)) rfl ?_
    refine ⟨rfl, ?_⟩
    have B := hA.out.trans (B3.out.mono (by simp))
    exact ((B.setCell (Nat.le_refl _) _).setCell (Nat.le_refl _) _).setCell (Nat.le_refl _) _
  | true =>
    obtain ⟨rfl, rfl, rfl, rfl⟩ : d1 = r1 ∧ d2 = r2 ∧ d3 = r3 ∧ r4 = true := by
      have e := Option.some.inj h
      simp only [Prod.mk.injEq] at e
      exact ⟨e.1, e.2.1, e.2.2.1, e.2.2.2.symm⟩
    clear h
    go_enter Tryz.func9, Tryz.ntmps9
    go_wp2_with (first
      | (go_at_call 34; refine (micro_scan_date.calls k (w.heap.size + 1) a0 false d1 d2 d3 s1 b1 _ _ hI.out hB.out HG2.out F1.out).mono ?_; rintro e w1 ⟨rfl, hi1, hb1, _⟩; have I1 := Aside0.mk hi1; have B1 := Aside0.mk hb1; clear hi1 hb1)
      | (go_at_call 35; refine (micro_scan_over.calls (w.heap.size + 1) s1 b1 true s2 b2 _ _ (I1.out.alloc _) (B1.out.alloc B1.out.size _) F2.out).mono ?_; rintro e w3 ⟨rfl, hi3, hb3, hk3⟩
         have hlt1 : w.heap.size + 1 < w1.heap.size := blk_lt I1.out.1
         have hres : w3.heap[w.heap.size]? = some (.cells #[.int .i64 0, .int .i64 0, .int .i64 0] 24 (0, 0)) := (hb3.block w.heap.size (by simp)).trans (blk_new w _)
         have hdd : w3.heap[w1.heap.size]? = some (.cells #[.int .i64 d1, .int .i64 d2, .int .i64 d3] 24 (0, 0)) := hk3.blk (blk_new w1 _) (by omega) (by simp)
         have hr0 := blk_cell hres 0
         have hr1 := blk_cell hres 1
         have hr2 := blk_cell hres 2
         have hq0 := blk_frozen hres 0
         have hq1 := blk_frozen hres 1
         have hq2 := blk_frozen hres 2
         have he0 := blk_cell hdd 0
         have he1 := blk_cell hdd 1
         have he2 := blk_cell hdd 2
         have B3 := Aside0.mk hb3
         have BK := Aside0.mk hres
         clear hi3 hb3 hk3 hres hdd hlt1))
    refine bodyPost_ret (results_ct rfl _ _ w.heap.size 24 #[.int .i64 d1, .int .i64 d2, .int .i64 d3] (0, 0) _ rfl (by refine blk_put (cs := #[.int .i64 d1, .int .i64 d2, .int .i64 0]) ?_ 2 _ rfl; refine blk_put (cs := #[.int .i64 d1, .int .i64 0, .int .i64 0]) ?_ 1 _ rfl; refine blk_put (cs := #[.int .i64 0, .int .i64 0, .int .i64 0]) ?_ 0 _ rfl; exact BK.out) Tryz.underlying24 rfl (by kernel_rfl)) rfl ?_
    refine ⟨rfl, ?_⟩
    have B := hA.out.trans (B3.out.mono (by simp))
    exact ((B.setCell (Nat.le_refl _) _).setCell (Nat.le_refl _) _).setCell (Nat.le_refl _) _
end Go.Proofs.YtnfjohpecedpnaaGreatDoor.PM
