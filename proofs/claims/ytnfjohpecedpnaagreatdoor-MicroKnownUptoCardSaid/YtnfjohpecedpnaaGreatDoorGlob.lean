/- What the contracts ask of package-level variables: the world's shape, the two errors of strconv, its table of powers; kept wherever what was there is kept; had from the rows' lists. -/
import Derived.Test.YtnfjohpecedpnaaGreatDoorRows
import Derived.Test.YtnfjohpecedpnaaGreatDoorShelf
import Derived.WalkSmall
import Derived.Lib.LaidTab
import Derived.Lib.LaidU8
import Derived.Stop.LaidErr
import Derived.ChangeAgain
import Derived.LaidHandle
import Derived.MakeChecks
import Derived.Lib.AppendIntMem
import Derived.Lib.AtoiErrMem
import Derived.Below
namespace Go.Proofs.YtnfjohpecedpnaaGreatDoor.Glob
open Go.RowKit

def IfaceCell (w : World) (g : Nat) : Prop := ∃ ev, w.cell? ⟨g, 0, none⟩ = some ev ∧ (ev = .nilIface ∨ ∃ te pe, ev = .iface te pe)
structure GW (w : World) : Prop where
  shaped : w.ShapedOpen Tryz.prog
  syn : IfaceCell w 5
  rng : IfaceCell w 6
  pow : Lib.TabIs Tryz.prog w "internal/strconv.uint64pow10" .u64 Lib.pow10Tab
  spc : Lib.TabIs Tryz.prog w "strings.asciiSpace" .u8 Lib.asciiSpaceTab
theorem IfaceCell.below {w w' : World} {g : Nat} (h : IfaceCell w g) (hb : Below w.heap.size w w') : IfaceCell w' g := by
  obtain ⟨ev, hc, he⟩ := h
  exact ⟨ev, (hb.cell (p := ⟨g, 0, none⟩) (World.block_lt_of_cell? w _ hc)).trans hc, he⟩
theorem gPow : Tryz.prog.globalNamed "internal/strconv.uint64pow10" = some 7 := by kernel_rfl
theorem tab_below {w w' : World} (h : Lib.TabIs Tryz.prog w "internal/strconv.uint64pow10" .u64 Lib.pow10Tab) (hb : Below w.heap.size w w') : Lib.TabIs Tryz.prog w' "internal/strconv.uint64pow10" .u64 Lib.pow10Tab := by
  refine var?_below hb gPow ?_ h
  unfold Lib.TabIs World.var? at h
  rw [gPow] at h
  simp only [Option.bind_some] at h
  apply Decidable.byContradiction
  intro hn
  rw [Array.getElem?_eq_none (by omega)] at h
  cases h
theorem gSpc : Tryz.prog.globalNamed "strings.asciiSpace" = some 0 := by kernel_rfl
theorem spc_below {w w' : World} (h : Lib.TabIs Tryz.prog w "strings.asciiSpace" .u8 Lib.asciiSpaceTab) (hb : Below w.heap.size w w') : Lib.TabIs Tryz.prog w' "strings.asciiSpace" .u8 Lib.asciiSpaceTab := by
  refine var?_below hb gSpc ?_ h
  unfold Lib.TabIs World.var? at h
  rw [gSpc] at h
  simp only [Option.bind_some] at h
  apply Decidable.byContradiction
  intro hn
  rw [Array.getElem?_eq_none (by omega)] at h
  cases h
theorem GW.below {w w' : World} (h : GW w) (hb : Below w.heap.size w w') : GW w' :=
  ⟨h.shaped.keptBut (hb.frame (fun _ => False)) (fun _ hp => hp.elim), h.syn.below hb, h.rng.below hb, tab_below h.pow hb, spc_below h.spc hb⟩
theorem GW.alloc {w : World} (h : GW w) (o : Obj) : GW (w.alloc o) := h.below ((Below.refl _ _).alloc (Nat.le_refl _) o)
theorem GW.drewN {w : World} (h : GW w) (n : Nat) : GW (w.drewN n) := h.below ⟨rfl, rfl, rfl, Nat.le_refl _, fun _ _ => rfl⟩
theorem GW.drew {w : World} (h : GW w) : GW w.drew := h.below (Go.RowKit.Below.drew (Below.refl _ _))

theorem gSyn : Tryz.prog.globalNamed "strconv.ErrSyntax" = some 5 := by kernel_rfl
theorem gRng : Tryz.prog.globalNamed "strconv.ErrRange" = some 6 := by kernel_rfl
theorem tSyn : (Tryz.prog.globals[5]?).map (·.type) = some 76 := by kernel_rfl
theorem tRng : (Tryz.prog.globals[6]?).map (·.type) = some 76 := by kernel_rfl
theorem tPow : (Tryz.prog.globals[7]?).map (·.type) = some 158 := by kernel_rfl
theorem cells158 : Tryz.prog.cellsOf 158 = 20 := by kernel_rfl
theorem cells138 : Tryz.prog.cellsOf 138 = 1 := by kernel_rfl
theorem cells150 : Tryz.prog.cellsOf 150 = 1 := by kernel_rfl
theorem cells9 : Tryz.prog.cellsOf 9 = 1 := by kernel_rfl
theorem iface_of {w : World} {n : String} {g : Nat} {a : Addr} {tp : TypeId} (hg : Tryz.prog.globalNamed n = some g) (h : w.var? Tryz.prog n = some #[.iface tp (.pointer (some a))]) : IfaceCell w g :=
  ⟨_, by have := World.var?_cell hg h 0; simpa using this, .inr ⟨_, _, rfl⟩⟩
theorem star : "*" ++ "errors.errorString" = "*errors.errorString" := by decide
theorem row148 (u : TypeId) (h : Tryz.prog.typeName? 3 u = some "*errors.errorString") : u = 148 :=
  typeName_ptr_named (nm := "errors.errorString") (by rw [star]; kernel_rfl) (by kernel_rfl) (by decide) u (by rw [star]; exact h)
theorem tSpc : (Tryz.prog.globals[0]?).map (·.type) = some 105 := by kernel_rfl
theorem cells105 : Tryz.prog.cellsOf 105 = 256 := by kernel_rfl
theorem cells5 : Tryz.prog.cellsOf 5 = 1 := by kernel_rfl
theorem spcData : (Rows.laid_strings_asciiSpace : DataW Unit) = Lib.tabData .u8 Lib.asciiSpaceTab := by kernel_rfl
theorem gw_of {W : World} (h : laidMet Tryz.prog Rows.microKnownRow.laid W) (hsh : W.ShapedOpen Tryz.prog) : GW W := by
  have h3 := laidMet.tail (laidMet.tail h)
  have h5 := laidMet.tail (laidMet.tail h3)
  have h6 := laidMet.tail h5
  have h8 : laidMet Tryz.prog (("strings.asciiSpace", Rows.laid_strings_asciiSpace) :: [("unicode/utf8.first", Rows.laid_unicode_utf8_first)]) W := laidMet.tail (laidMet.tail h6)
  rw [spcData] at h8
  obtain ⟨a1, s1, hv1, _⟩ := laid_sentinel h5 gRng tRng Tryz.underlying76 row148 Tryz.underlying148 Tryz.underlying150 rfl rfl Tryz.underlying9 cells150 cells9
  obtain ⟨a2, s2, hv2, _⟩ := laid_sentinel h6 gSyn tSyn Tryz.underlying76 row148 Tryz.underlying148 Tryz.underlying150 rfl rfl Tryz.underlying9 cells150 cells9
  exact ⟨hsh, iface_of gSyn hv2, iface_of gRng hv1, Lib.tabIs_of_head gPow tPow Tryz.underlying158 Tryz.underlying138 cells138 cells158 h3,
    Lib.tabIs_of_head gSpc tSpc Tryz.underlying105 Tryz.underlying5 cells5 cells105 h8⟩
theorem gw_ofMicroKnown {W : World} (hL : laidMetH Tryz.prog Rows.microKnownUptoRow.laid W) (hsh : W.ShapedOpen Tryz.prog) : GW W := by
  rw [MakeChecks.laidMetH_plain _ _ _ (by kernel_rfl)] at hL
  exact gw_of hL hsh
/-- How strconv.Atoi ends. -/
def AtoiPost (s : ByteArray) (w : World) (e : Ending) (w' : World) : Prop :=
  Below w.heap.size w w' ∧ ((∃ v, Lib.atoiAll s.data.toList = .ok v ∧ e = .returned (.tuple #[.int .i64 v, .nilIface])) ∨ ((∀ v, Lib.atoiAll s.data.toList ≠ .ok v) ∧ ∃ (n : Int) (N : Nat), e = .returned (.tuple #[.int .i64 n, .iface 122 (.pointer (some ⟨N, 0, none⟩))])))
theorem atoi_calls (s : ByteArray) (w : World) (hG : GW w) (hs : s.size ≤ 281474976710656) : Calls Tryz.prog 84 #[.string s] w (AtoiPost s w) := by
  cases h : Lib.atoiAll s.data.toList with
  | ok v =>
    refine (Tryz.strconv_Atoi_ok s (by omega) v h w).mono ?_
    rintro e w' ⟨rfl, hw⟩
    refine ⟨?_, .inl ⟨v, h, rfl⟩⟩
    rcases hw with rfl | ⟨t, rfl⟩
    · exact Below.refl _ _
    · exact Lib.bytesWorld_below _ _ _
  | range =>
    obtain ⟨ev, hc, he⟩ := hG.rng
    refine (Tryz.strconv_Atoi_range s hs h ev w hc he).mono ?_
    rintro e w' ⟨N, rfl, -, -, hb⟩
    exact ⟨hb, .inr ⟨fun v => by simp [h], _, _, rfl⟩⟩
  | _ =>
    obtain ⟨ev, hc, he⟩ := hG.syn
    refine (Any.strconv_Atoi_syntax Tryz.laysC172 s hs h ev w hc he).mono ?_
    rintro e w' ⟨N, rfl, -, -, hb⟩
    exact ⟨hb, .inr ⟨fun v => by simp [h], _, _, rfl⟩⟩
end Go.Proofs.YtnfjohpecedpnaaGreatDoor.Glob
