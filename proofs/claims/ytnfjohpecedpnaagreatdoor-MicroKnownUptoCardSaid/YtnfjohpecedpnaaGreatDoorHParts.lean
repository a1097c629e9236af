/- The parts of what micro.when tries: date, month, time, split, zone. -/
import Derived.Test.YtnfjohpecedpnaaGreatDoorPMx5
import Derived.Test.YtnfjohpecedpnaaGreatDoorHWhole
namespace Go.Proofs.YtnfjohpecedpnaaGreatDoor.PM
open Go.RowKit Go.Proofs.YtnfjohpecedpnaaGreatDoor.Glob Go.Proofs.YtnfjohpecedpnaaGreatDoorW.PrintWords Go.Proofs.YtnfjohpecedpnaaGreatDoorW.PrintLast Go.Proofs.YtnfjohpecedpnaaGreatDoorW.PrintMore

def pDate (k : Nat) : Part := ⟨56, fun s b => (micro_scan_date.f k s b).map fun x => (x.2.2.2.1, x.2.2.2.2)⟩
def pMonth (k : Nat) : Part := ⟨57, fun s b => (micro_scan_month.f k s b).map fun x => (x.2.2.1, x.2.2.2)⟩
def pTime (k : Nat) : Part := ⟨58, fun s b => micro_scan_time.f k s b⟩
def pSplit : Part := ⟨59, fun s b => micro_scan_must.f s b ⟨#[84, 32]⟩⟩
def pZone (k : Nat) : Part := ⟨60, fun s b => micro_scan_zone.f k s b⟩
set_option maxHeartbeats 1000000 in
theorem pDate.good (k : Nat) : (pDate k).Good := by
  refine ⟨enters_of Tryz.func56 (by kernel_rfl) rfl, fun w0 w g s s' b b' hI hB hG h => ?_⟩
  obtain ⟨⟨r1, r2, r3, r4, r5⟩, h2, e⟩ := Option.map_eq_some_iff.1 h
  cases e
  have hc := micro_scan_date.calls k g s b r1 r2 r3 r4 r5 w0 w hI hB hG h2
  show Calls Tryz.prog 56 _ _ _
  clear h h2
  go_enter Tryz.func56, Tryz.ntmps56
  go_wp2_with (go_at_call 34; refine hc.mono ?_; rintro e w1 ⟨rfl, h1, h2, h3⟩)
  go_end0
  exact ⟨⟨_, rfl⟩, h1, h2, h3⟩
set_option maxHeartbeats 1000000 in
theorem pMonth.good (k : Nat) : (pMonth k).Good := by
  refine ⟨enters_of Tryz.func57 (by kernel_rfl) rfl, fun w0 w g s s' b b' hI hB hG h => ?_⟩
  obtain ⟨⟨r1, r2, r4, r5⟩, h2, e⟩ := Option.map_eq_some_iff.1 h
  cases e
  have hc := micro_scan_month.calls k g s b r1 r2 r4 r5 w0 w hI hB hG h2
  show Calls Tryz.prog 57 _ _ _
  clear h h2
  go_enter Tryz.func57, Tryz.ntmps57
  go_wp2_with (go_at_call 65; refine hc.mono ?_; rintro e w1 ⟨rfl, h1, h2, h3⟩)
  go_end0
  exact ⟨⟨_, rfl⟩, h1, h2, h3⟩
theorem pTime.good (k : Nat) : (pTime k).Good := by
  refine ⟨enters_of Tryz.func58 (by kernel_rfl) rfl, fun w0 w g s s' b b' hI hB hG h => ?_⟩
  exact (micro_scan_time.calls k g s b s' b' w0 w hI hB hG h).mono fun e w' ⟨he, h1, h2, h3⟩ => ⟨⟨_, he⟩, h1, h2, h3⟩
theorem pZone.good (k : Nat) : (pZone k).Good := by
  refine ⟨enters_of Tryz.func60 (by kernel_rfl) rfl, fun w0 w g s s' b b' hI hB hG h => ?_⟩
  exact (micro_scan_zone.calls k g s b s' b' w0 w hI hB hG h).mono fun e w' ⟨he, h1, h2, h3⟩ => ⟨⟨_, he⟩, h1, h2, h3⟩
set_option maxHeartbeats 1000000 in
theorem pSplit.good : pSplit.Good := by
  refine ⟨enters_of Tryz.func59 (by kernel_rfl) rfl, fun w0 w g s s' b b' hI hB hG h => ?_⟩
  have hc := micro_scan_must.calls g s b ⟨#[84, 32]⟩ s' b' w0 w hI hB h
  show Calls Tryz.prog 59 _ _ _
  clear h
  go_enter Tryz.func59, Tryz.ntmps59
  go_wp2_with (go_at_call 66; refine hc.mono ?_; rintro e w1 ⟨rfl, h1, h2, h3⟩)
  go_end0
  exact ⟨⟨_, rfl⟩, h1, h2, h3⟩
end Go.Proofs.YtnfjohpecedpnaaGreatDoor.PM
