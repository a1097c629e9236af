/- Merged by a program of this session out of its own texts: HMadeR11. No condition beside those in each statement. -/
import Derived.Test.YtomdidopflebjaaGreatDoorD5
namespace Go.Proofs.YtomdidopflebjaaGreatDoor.PM
open Go.RowKit Go.Proofs.YtomdidopflebjaaGreatDoorW.PrintWords Go.Proofs.YtomdidopflebjaaGreatDoorW.PrintLast Go.Proofs.YtomdidopflebjaaGreatDoorW.PrintMore
set_option maxHeartbeats 100000000 in
set_option maxRecDepth 1000000 in
theorem made_r11 (u0 u1 u2 u3 u4 u5 u6 u7 u8 u13 u14 u15 u16 u17 u18 u19 u20 u21 u22 u23 u24 u25 u26 u27 u28 u29 u30 u31 u32 u33 u34 u35 u36 u37 u38 u39 u40 u41 u42 u43 u44 u45 u46 u47 u48 u49 u50 u51 u52 u53 u54 u55 u56 u57 u58 u59 u60 u61 u62 u63 u64 u65 u66 u67 u68 u69 u70 u71 u72 u73 u74 u75 u76 u77 u78 u79 u80 u81 u82 u83 u84 u85 u86 u87 u88 u89 u90 u91 u92 u93 u94 u95 u96 u97 u98 u99 u100 u101 u102 u103 u104 u105 u106 u107 u108 u109 u110 u111 u112 u113 u114 u115 u116 u117 u118 u119 u120 u121 u122 u123 u124 u125 u126 u127 u128 u129 u130 u131 u132 u133 u134 u135 u136 u137 u138 u139 u140 u141 u142 u143 u144 u145 u146 u147 u148 u149 u150 u151 u152 u153 u154 u155 u156 u157 u158 u159 u160 u161 u162 u163 u164 u165 : Value) (wb wc : World) (m : S54) (x y j bM : Nat) (A B : Option Addr) (c d e2 : Nat) (ad2 : Addr) (HAT : AttrAt wb.heap.size x y wc m j j A B c d) (HXL : wb.heap.size ≤ x) (HYL : wb.heap.size ≤ y) (hj1 : j < m.f2.length) (hj2 : j < 8) (HBC : Below wb.heap.size wb wc)
    (b2 : wc.cell? ⟨bM, 2, none⟩ = some (.slice (some ad2) m.f2.length e2)) (y0 : wc.cell? (ad2.add (j * 2)) = some (.string (rd_T69 m.f2 (j : Int)).f0)) (y1 : wc.cell? ⟨(ad2.add (j * 2)).block, (ad2.add (j * 2)).off + 1, none⟩ = some (.string (rd_T69 m.f2 (j : Int)).f1)) (K K1 K2 K3 K4 K5 K6 : Act → World → Prop) (R : Ending → World → Prop) (Q0 : Exit → Act → World → Prop) (hQd : Q0 = bodyPost Tryz.prog Tryz.f8 R)
    (hQ : ∀ (t56 t57 t58 t59 t60 t61 t62 t63 t64 t65 t66 t67 t68 t69 t70 t71 t72 t73 : Value) (A' : Option Addr) (c' : Nat) (w' : World), AttrAt wb.heap.size x y w' m (j + 1) j A' B c' d → Below wb.heap.size wb w' → (Exit.then K (Exit.inBlock 3 (Exit.then K1 (Exit.then K2 (Exit.inBlock 2 (Exit.then K3 (Exit.inBlock 1 (Exit.then K4 (Exit.then K5 (Exit.inBlock 0 (Exit.then K6 Q0))))))))))) .normal ⟨#[u0, u1, u2, u3, u4, u5, u6, u7, u8, .pointer (some ⟨bM, 0, none⟩), .pointer (some ⟨x, 0, none⟩), .pointer (some ⟨y, 0, none⟩), .int .i64 (j : Int), u13, u14, u15, u16, u17, u18, u19, u20, u21, u22, u23, u24, u25, u26, u27, u28, u29, u30, u31, u32, u33, u34, u35, u36, u37, u38, u39, u40, u41, u42, u43, u44, u45, u46, u47, u48, u49, u50, u51, u52, u53, u54, u55, t56, t57, t58, t59, t60, t61, t62, t63, t64, t65, t66, t67, t68, t69, t70, t71, t72, t73, u74, u75, u76, u77, u78, u79, u80, u81, u82, u83, u84, u85, u86, u87, u88, u89, u90, u91, u92, u93, u94, u95, u96, u97, u98, u99, u100, u101, u102, u103, u104, u105, u106, u107, u108, u109, u110, u111, u112, u113, u114, u115, u116, u117, u118, u119, u120, u121, u122, u123, u124, u125, u126, u127, u128, u129, u130, u131, u132, u133, u134, u135, u136, u137, u138, u139, u140, u141, u142, u143, u144, u145, u146, u147, u148, u149, u150, u151, u152, u153, u154, u155, u156, u157, u158, u159, u160, u161, u162, u163, u164, u165], []⟩ w') :
    Code.wp Tryz.prog (regC 11) (Exit.then K (Exit.inBlock 3 (Exit.then K1 (Exit.then K2 (Exit.inBlock 2 (Exit.then K3 (Exit.inBlock 1 (Exit.then K4 (Exit.then K5 (Exit.inBlock 0 (Exit.then K6 Q0))))))))))) ⟨#[u0, u1, u2, u3, u4, u5, u6, u7, u8, .pointer (some ⟨bM, 0, none⟩), .pointer (some ⟨x, 0, none⟩), .pointer (some ⟨y, 0, none⟩), .int .i64 (j : Int), u13, u14, u15, u16, u17, u18, u19, u20, u21, u22, u23, u24, u25, u26, u27, u28, u29, u30, u31, u32, u33, u34, u35, u36, u37, u38, u39, u40, u41, u42, u43, u44, u45, u46, u47, u48, u49, u50, u51, u52, u53, u54, u55, u56, u57, u58, u59, u60, u61, u62, u63, u64, u65, u66, u67, u68, u69, u70, u71, u72, u73, u74, u75, u76, u77, u78, u79, u80, u81, u82, u83, u84, u85, u86, u87, u88, u89, u90, u91, u92, u93, u94, u95, u96, u97, u98, u99, u100, u101, u102, u103, u104, u105, u106, u107, u108, u109, u110, u111, u112, u113, u114, u115, u116, u117, u118, u119, u120, u121, u122, u123, u124, u125, u126, u127, u128, u129, u130, u131, u132, u133, u134, u135, u136, u137, u138, u139, u140, u141, u142, u143, u144, u145, u146, u147, u148, u149, u150, u151, u152, u153, u154, u155, u156, u157, u158, u159, u160, u161, u162, u163, u164, u165], []⟩ wc := by
  subst hQd
  have HQ := Aside0.mk hQ
  clear hQ
  have HATx := Aside0.mk HAT
  have HBCx := Aside0.mk HBC
  have HXLx := Aside0.mk HXL
  have HYLx := Aside0.mk HYL
  have HJ1 := Aside0.mk hj1
  have HJ2 := Aside0.mk hj2
  have f1 : decide ((j : Int) < (m.f2.length : Int)) = true := decide_eq_true (by omega)
  have f2 : decide ((j : Int) < 8) = true := decide_eq_true (by omega)
  have f3 : decide (j < m.f2.length) = true := decide_eq_true hj1
  have j0 : (0 : Int) ≤ (j : Int) := by omega
  have j1 : (j : Int) < (m.f2.length : Int) := by omega
  clear HAT HBC HXL HYL hj1 hj2
  have HAT := HATx
  have HBC := HBCx
  have HXL := HXLx
  have HYL := HYLx
  clear HATx HBCx HXLx HYLx
  obtain ⟨i0_, hi0, hz0, hz1, hz2⟩ := info_parts infoP71
  have xa := (blk_cell HAT.out.hx 4).trans rfl
  have xaa := fun o => Go.Lib.cell?_alloc_some o xa
  obtain ⟨inner, hown, hrep⟩ := HAT.out.ra.2
  rw [attrs8_length m j (Nat.le_of_lt HJ1.out)] at hown
  have HOWN := Aside0.mk hown
  have HREP := Aside0.mk hrep
  clear hown hrep
  have hu71 := Tryz.underlying71
  have hszc := HBC.out.size
  have hlen : j + 1 ≤ maxLen := by have := HJ2.out; unfold maxLen; omega
  have hbig : (j + 1) * 32 ≤ 140737488355328 := by have := HJ2.out; omega
  conv => arg 2; whnf
  go_region_law (refine step_append_lies _ (by rfl) (.tmp 57) (.tmp 71) 57 (by rfl) wb.heap.size 71 i0_ _ 2 32 Tryz.underlying57 hi0 hz0 hz1 hz2 rfl (by omega) (.slice A j c) j inner (by rfl) (World.ownsRow.drew (HOWN.out.alloc _)) ⟨wc.heap.size, 0, none⟩ 1 1 [.string (rd_T69 m.f2 (j : Int)).f0, .string (rd_T69 m.f2 (j : Int)).f1] (by rfl) (by rfl) (World.news_of_block (cs := #[.string (rd_T69 m.f2 (j : Int)).f0, .string (rd_T69 m.f2 (j : Int)).f1]) (t := 71) (fr := (0, 0)) (heap_alloc_new wc _)) (by simp [Value.oneCell']) (by omega) hlen hbig (by simp; omega) (wc.heap.size + 1) (by simp) ?_; intro gg cap w1 hown1 hgrow0 hat hltg; have hgrow : (wc.alloc (.cells #[.string (rd_T69 m.f2 (j : Int)).f0, .string (rd_T69 m.f2 (j : Int)).f1] 71)).grownBy w1 ((.slice A j c) : Value).ownBlock := ⟨hgrow0.os, hgrow0.tape, hgrow0.output, hgrow0.size, hgrow0.block⟩; clear hgrow0; have bX := blk_grown HAT.out.hx ((World.grownBy_alloc wc _ _).trans hgrow) (blk_ne_row HAT.out.hx HAT.out.ra (by decide)); have cX := (blk_cell bX 4).trans rfl; have fX := blk_frozen bX 4; have HO1 := Aside0.mk hown1; have HG1 := Aside0.mk hgrow; have HAT1 := Aside0.mk hat; clear hown1 hgrow hat bX)
  all_goals
    have hp := attr_parts HAT.out HJ1.out HXL.out (Nat.le_trans (Nat.le_refl _) HBC.out.size) HOWN.out HREP.out HO1.out HG1.out HAT1.out
    exact HQ.out _ _ _ _ _ _ _ _ _ _ _ _ _ _ _ _ _ _ _ _ _ hp.1 (Below.trans HBC.out hp.2)
end Go.Proofs.YtomdidopflebjaaGreatDoor.PM
