/- micro.whole at any parts: each part is run on the one scan, then nothing may be left. -/
import Derived.Test.YtnfjohpecedpnaaGreatDoorPMx3
import Derived.Test.YtnfjohpecedpnaaGreatDoorHInt
import Derived.Outline
namespace Go.Proofs.YtnfjohpecedpnaaGreatDoor.PM
open Go.RowKit Go.Proofs.YtnfjohpecedpnaaGreatDoor.Glob Go.Proofs.YtnfjohpecedpnaaGreatDoorW.PrintWords Go.Proofs.YtnfjohpecedpnaaGreatDoorW.PrintLast Go.Proofs.YtnfjohpecedpnaaGreatDoorW.PrintMore

/-- A part: what it does to the scan. -/
structure Part where
  fn : FuncId
  step : ByteArray → Bool → Option (ByteArray × Bool)
def Part.Good (p : Part) : Prop := (∀ args w, (callFunc p.fn args).run Tryz.prog w = .ok (.enter p.fn args) w) ∧ ∀ (w0 w : World) (g : Nat) (s s' : ByteArray) (b b' : Bool), IsS46 w0 w g s b → Below w0.heap.size w0 w → GW w0 → p.step s b = some (s', b') →
  Calls Tryz.prog p.fn #[.pointer (some ⟨g, 0, none⟩)] w fun e w' => (∃ v, e = .returned v) ∧ IsS46 w0 w' g s' b' ∧ Below w0.heap.size w0 w' ∧ KeepBut w w' g none
def runParts : List Part → ByteArray → Bool → Option (ByteArray × Bool)
  | [], s, b => some (s, b)
  | p :: r, s, b => (p.step s b).bind fun x => runParts r x.1 x.2
def wholeF (ps : List Part) (s : ByteArray) : Option Bool := (runParts ps s false).bind fun x => (micro_scan_over.f x.1 x.2).bind fun y => some y.1
set_option maxRecDepth 100000 in
set_option maxHeartbeats 4000000 in
theorem whole_walk (ps : List Part) (hp : ∀ p ∈ ps, p.Good) (hlen : ps.length ≤ 100) (s : ByteArray) (r : Bool) (blk : Nat) (w : World) (hG : GW w) (hc : ∀ (i : Nat) p, ps[i]? = some p → w.cell? ⟨blk, i, none⟩ = some (.func (.func p.fn) #[] #[])) (h : wholeF ps s = some r) :
    Calls Tryz.prog 51 #[.string s, .slice (some ⟨blk, 0, none⟩) ps.length ps.length] w fun e w' => e = .returned (.bool r) ∧ Below w.heap.size w w' := by
  obtain ⟨⟨s1, b1⟩, h1, h⟩ := Option.bind_eq_some_iff.1 h
  obtain ⟨⟨o, s2, b2⟩, h2, h⟩ := Option.bind_eq_some_iff.1 h
  obtain rfl := Option.some.inj h
  simp only at h2
  have F1 := Aside0.mk h1
  have F2 := Aside0.mk h2
  have HG := Aside0.mk hG
  have HP := Aside0.mk hp
  have HC := Aside0.mk hc
  clear h1 h2 hG h hp hc
  go_enter Tryz.func51, Tryz.ntmps51
  go_wp2
  go_loopg [13] ps.length (fun kq i wr => ∃ (k : Nat) (sk : ByteArray) (bk : Bool), i = .int .i64 (k : Int) ∧ k ≤ ps.length ∧ Aside0 (IsS46 w wr w.heap.size sk bk) ∧ Aside0 (Below w.heap.size w wr) ∧ Aside0 (runParts (ps.drop k) sk bk = some (s1, b1)) ∧ Aside0 (kq + k = ps.length))
  case atStart => exact ⟨0, s, false, rfl, Nat.zero_le _, ⟨s46_new w s⟩, ⟨(Below.refl _ _).alloc (Nat.le_refl _) _⟩, F1, ⟨by omega⟩⟩
  case round =>
    obtain ⟨k, sk, bk, rfl, hk, HI, HB, HR, HM⟩ := hrel
    by_cases hlt : k < ps.length
    · obtain ⟨p, hpk⟩ : ∃ p, ps[k]? = some p := ⟨_, List.getElem?_eq_getElem hlt⟩
      have hgood := HP.out p (List.mem_of_getElem? hpk)
      have hx := HC.out k p hpk
      have hx2 := (HB.out.cell (World.block_lt_of_cell? w _ hx)).trans hx
      have hrr := HR.out
      have hd : ps.drop k = p :: ps.drop (k + 1) := by
        obtain ⟨hl, rfl⟩ := List.getElem?_eq_some_iff.1 hpk
        exact List.drop_eq_getElem_cons hl
      rw [hd, runParts] at hrr
      obtain ⟨⟨s', b'⟩, hst, hrr⟩ := Option.bind_eq_some_iff.1 hrr
      have hcall := hgood.2 w wr w.heap.size sk s' bk b' HI.out HB.out HG.out hst
      have eg := hgood.1
      have HRR := Aside0.mk hrr
      have HM2 := Aside0.mk hlt
      obtain ⟨fid, hfid⟩ : ∃ f, f = p.fn := ⟨_, rfl⟩
      rw [← hfid] at hcall eg hx2
      clear hgood hx hrr hd hst hpk hfid
      go_wp2_with (go_at_fn fid; refine hcall.mono ?_; rintro e w1 ⟨⟨v, rfl⟩, hi1, hb1, _⟩; have I1 := Aside0.mk hi1; have B1 := Aside0.mk hb1; clear hi1 hb1)
      go_roundg (gk - 1)
      case measure => have := HM.out; have := HM2.out; omega
      case rel => exact ⟨k + 1, s', b', by go_num, HM2.out, ⟨I1.out⟩, ⟨B1.out⟩, ⟨HRR.out⟩, ⟨by have := HM.out; have := HM2.out; omega⟩⟩
    · obtain rfl : k = ps.length := by omega
      have hr := HR.out
      rw [List.drop_length] at hr
      obtain ⟨rfl, rfl⟩ : sk = s1 ∧ bk = b1 := by
        have e := Option.some.inj hr
        injection e with e1 e2
        exact ⟨e1, e2⟩
      clear hr
      go_wp2_with (go_at_call 35; refine (micro_scan_over.calls w.heap.size sk bk o s2 b2 w _ HI.out HB.out F2.out).mono ?_; rintro e w3 ⟨rfl, hi3, hb3, _⟩; have B3 := Aside0.mk hb3; clear hi3 hb3)
      go_ret
      exact ⟨rfl, B3.out⟩
end Go.Proofs.YtnfjohpecedpnaaGreatDoor.PM
