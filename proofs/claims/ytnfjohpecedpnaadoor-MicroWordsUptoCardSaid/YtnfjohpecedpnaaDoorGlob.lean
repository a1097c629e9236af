/- What the contracts ask of package-level variables: the world's shape, the two errors of strconv, its table of powers; kept wherever what was there is kept; had from the rows' lists. -/
import Derived.Test.YtnfjohpecedpnaaDoorRows
import Derived.Test.YtnfjohpecedpnaaDoorShelf
import Derived.WalkSmall
import Derived.Lib.LaidTab
import Derived.Lib.LaidU8
import Derived.Stop.LaidErr
import Derived.ChangeAgain
import Derived.LaidHandle
import Derived.MakeChecks
import Derived.Lib.AppendIntMem
import Derived.Lib.AtoiErrMem
import Derived.Below
namespace Go.Proofs.YtnfjohpecedpnaaDoor.Glob
open Go.RowKit

def IfaceCell (w : World) (g : Nat) : Prop := ∃ ev, w.cell? ⟨g, 0, none⟩ = some ev ∧ (ev = .nilIface ∨ ∃ te pe, ev = .iface te pe)
structure GW (w : World) : Prop where
  shaped : w.ShapedOpen Tryd.prog
  syn : IfaceCell w 1
  rng : IfaceCell w 2
  pow : Lib.TabIs Tryd.prog w "internal/strconv.uint64pow10" .u64 Lib.pow10Tab
theorem IfaceCell.below {w w' : World} {g : Nat} (h : IfaceCell w g) (hb : Below w.heap.size w w') : IfaceCell w' g := by
  obtain ⟨ev, hc, he⟩ := h
  exact ⟨ev, (hb.cell (p := ⟨g, 0, none⟩) (World.block_lt_of_cell? w _ hc)).trans hc, he⟩
theorem gPow : Tryd.prog.globalNamed "internal/strconv.uint64pow10" = some 5 := by kernel_rfl
theorem tab_below {w w' : World} (h : Lib.TabIs Tryd.prog w "internal/strconv.uint64pow10" .u64 Lib.pow10Tab) (hb : Below w.heap.size w w') : Lib.TabIs Tryd.prog w' "internal/strconv.uint64pow10" .u64 Lib.pow10Tab := by
  refine var?_below hb gPow ?_ h
  unfold Lib.TabIs World.var? at h
  rw [gPow] at h
  simp only [Option.bind_some] at h
  apply Decidable.byContradiction
  intro hn
  rw [Array.getElem?_eq_none (by omega)] at h
  cases h
theorem GW.below {w w' : World} (h : GW w) (hb : Below w.heap.size w w') : GW w' :=
  ⟨h.shaped.keptBut (hb.frame (fun _ => False)) (fun _ hp => hp.elim), h.syn.below hb, h.rng.below hb, tab_below h.pow hb⟩
theorem GW.alloc {w : World} (h : GW w) (o : Obj) : GW (w.alloc o) := h.below ((Below.refl _ _).alloc (Nat.le_refl _) o)
theorem GW.drewN {w : World} (h : GW w) (n : Nat) : GW (w.drewN n) := h.below ⟨rfl, rfl, rfl, Nat.le_refl _, fun _ _ => rfl⟩
theorem GW.drew {w : World} (h : GW w) : GW w.drew := h.below (Go.RowKit.Below.drew (Below.refl _ _))

theorem gSyn : Tryd.prog.globalNamed "strconv.ErrSyntax" = some 1 := by kernel_rfl
theorem gRng : Tryd.prog.globalNamed "strconv.ErrRange" = some 2 := by kernel_rfl
theorem tSyn : (Tryd.prog.globals[1]?).map (·.type) = some 47 := by kernel_rfl
theorem tRng : (Tryd.prog.globals[2]?).map (·.type) = some 47 := by kernel_rfl
theorem tPow : (Tryd.prog.globals[5]?).map (·.type) = some 123 := by kernel_rfl
theorem cells123 : Tryd.prog.cellsOf 123 = 20 := by kernel_rfl
theorem cells96 : Tryd.prog.cellsOf 96 = 1 := by kernel_rfl
theorem cells113 : Tryd.prog.cellsOf 113 = 1 := by kernel_rfl
theorem cells9 : Tryd.prog.cellsOf 9 = 1 := by kernel_rfl
theorem iface_of {w : World} {n : String} {g : Nat} {a : Addr} {tp : TypeId} (hg : Tryd.prog.globalNamed n = some g) (h : w.var? Tryd.prog n = some #[.iface tp (.pointer (some a))]) : IfaceCell w g :=
  ⟨_, by have := World.var?_cell hg h 0; simpa using this, .inr ⟨_, _, rfl⟩⟩
theorem star : "*" ++ "errors.errorString" = "*errors.errorString" := by decide
theorem row111 (u : TypeId) (h : Tryd.prog.typeName? 3 u = some "*errors.errorString") : u = 111 :=
  typeName_ptr_named (nm := "errors.errorString") (by rw [star]; kernel_rfl) (by kernel_rfl) (by decide) u (by rw [star]; exact h)
theorem gw_of {W : World} (h : laidMet Tryd.prog Rows.microNumbersRow.laid W) (hsh : W.ShapedOpen Tryd.prog) : GW W := by
  have h3 := laidMet.tail (laidMet.tail h)
  have h5 := laidMet.tail (laidMet.tail h3)
  have h6 := laidMet.tail h5
  obtain ⟨a1, s1, hv1, _⟩ := laid_sentinel h5 gRng tRng Tryd.underlying47 row111 Tryd.underlying111 Tryd.underlying113 rfl rfl Tryd.underlying9 cells113 cells9
  obtain ⟨a2, s2, hv2, _⟩ := laid_sentinel h6 gSyn tSyn Tryd.underlying47 row111 Tryd.underlying111 Tryd.underlying113 rfl rfl Tryd.underlying9 cells113 cells9
  exact ⟨hsh, iface_of gSyn hv2, iface_of gRng hv1, Lib.tabIs_of_head gPow tPow Tryd.underlying123 Tryd.underlying96 cells96 cells123 h3⟩
theorem gw_ofMicroNumbers {W : World} (hL : laidMetH Tryd.prog Rows.microNumbersUptoRow.laid W) (hsh : W.ShapedOpen Tryd.prog) : GW W := by
  rw [MakeChecks.laidMetH_plain _ _ _ (by kernel_rfl)] at hL
  exact gw_of hL hsh
theorem gw_ofMicroDays {W : World} (hL : laidMetH Tryd.prog Rows.microDaysUptoRow.laid W) (hsh : W.ShapedOpen Tryd.prog) : GW W := by
  rw [MakeChecks.laidMetH_plain _ _ _ (by kernel_rfl)] at hL
  exact gw_of hL hsh
theorem gw_ofMicroOrder {W : World} (hL : laidMetH Tryd.prog Rows.microOrderUptoRow.laid W) (hsh : W.ShapedOpen Tryd.prog) : GW W := by
  rw [MakeChecks.laidMetH_plain _ _ _ (by kernel_rfl)] at hL
  exact gw_of hL hsh
theorem gw_ofMicroWords {W : World} (hL : laidMetH Tryd.prog Rows.microWordsUptoRow.laid W) (hsh : W.ShapedOpen Tryd.prog) : GW W := by
  rw [MakeChecks.laidMetH_plain _ _ _ (by kernel_rfl)] at hL
  exact gw_of hL hsh
/-- How strconv.Atoi ends. -/
def AtoiPost (s : ByteArray) (w : World) (e : Ending) (w' : World) : Prop :=
  Below w.heap.size w w' ∧ ((∃ v, Lib.atoiAll s.data.toList = .ok v ∧ e = .returned (.tuple #[.int .i64 v, .nilIface])) ∨ ((∀ v, Lib.atoiAll s.data.toList ≠ .ok v) ∧ ∃ (n : Int) (N : Nat), e = .returned (.tuple #[.int .i64 n, .iface 87 (.pointer (some ⟨N, 0, none⟩))])))
theorem atoi_calls (s : ByteArray) (w : World) (hG : GW w) (hs : s.size ≤ 281474976710656) : Calls Tryd.prog 27 #[.string s] w (AtoiPost s w) := by
  cases h : Lib.atoiAll s.data.toList with
  | ok v =>
    refine (Tryd.strconv_Atoi_ok s (by omega) v h w).mono ?_
    rintro e w' ⟨rfl, hw⟩
    refine ⟨?_, .inl ⟨v, h, rfl⟩⟩
    rcases hw with rfl | ⟨t, rfl⟩
    · exact Below.refl _ _
    · exact Lib.bytesWorld_below _ _ _
  | range =>
    obtain ⟨ev, hc, he⟩ := hG.rng
    refine (Tryd.strconv_Atoi_range s hs h ev w hc he).mono ?_
    rintro e w' ⟨N, rfl, -, -, hb⟩
    exact ⟨hb, .inr ⟨fun v => by simp [h], _, _, rfl⟩⟩
  | _ =>
    obtain ⟨ev, hc, he⟩ := hG.syn
    refine (Any.strconv_Atoi_syntax Tryd.laysC172 s hs h ev w hc he).mono ?_
    rintro e w' ⟨N, rfl, -, -, hb⟩
    exact ⟨hb, .inr ⟨fun v => by simp [h], _, _, rfl⟩⟩
end Go.Proofs.YtnfjohpecedpnaaDoor.Glob
