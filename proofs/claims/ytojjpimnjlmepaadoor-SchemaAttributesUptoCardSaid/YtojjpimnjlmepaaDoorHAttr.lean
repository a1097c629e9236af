/- schema.Attribute: of an element, or of all. -/
import Derived.Test.YtojjpimnjlmepaaDoorHOf
import Derived.Test.YtojjpimnjlmepaaDoorPMx4
set_option linter.unusedVariables false
namespace Go.Proofs.YtojjpimnjlmepaaDoor.PM
open Go.RowKit Go.Lib Go.Proofs.YtojjpimnjlmepaaDoor.Glob Go.Proofs.YtojjpimnjlmepaaDoorW.PrintWords Go.Proofs.YtojjpimnjlmepaaDoorW.PrintLast Go.Proofs.YtojjpimnjlmepaaDoorW.PrintMore

def allText : ByteArray := ⟨#[97, 99, 99, 101, 115, 115, 107, 101, 121, 58, 116, 111, 107, 101, 110, 115, 32, 97, 114, 105, 97, 45, 99, 111, 110, 116, 114, 111, 108, 115, 58, 105, 100, 115, 32, 97, 114, 105, 97, 45, 100, 101, 115, 99, 114, 105, 98, 101, 100, 98, 121, 58, 105, 100, 115, 32, 97, 114, 105, 97, 45, 108, 97, 98, 101, 108, 58, 116, 101, 120, 116, 32, 97, 114, 105, 97, 45, 108, 97, 98, 101, 108, 108, 101, 100, 98, 121, 58, 105, 100, 115, 32, 97, 114, 105, 97, 45, 111, 119, 110, 115, 58, 105, 100, 115, 32, 99, 108, 97, 115, 115, 58, 116, 111, 107, 101, 110, 115, 32, 100, 105, 114, 58, 101, 110, 117, 109, 61, 97, 117, 116, 111, 44, 108, 116, 114, 44, 114, 116, 108, 32, 104, 105, 100, 100, 101, 110, 58, 102, 108, 97, 103, 32, 105, 100, 58, 105, 100, 32, 108, 97, 110, 103, 58, 108, 97, 110, 103, 32, 114, 111, 108, 101, 58, 116, 111, 107, 101, 110, 115, 32, 115, 116, 121, 108, 101, 58, 116, 101, 120, 116, 32, 116, 97, 98, 105, 110, 100, 101, 120, 58, 105, 110, 116, 32, 116, 105, 116, 108, 101, 58, 116, 101, 120, 116]⟩
def ofA (k : Nat) (name : ByteArray) : Option (Bool × List S39) := (schema_Of.f k name).map fun x => (x.2.2.2.2, x.2.2.2.1)
def schema_Attribute.f (k : Nat) (a0 a1 : ByteArray) : Option (ByteArray × ByteArray × Bool × Bool) := (ofA k a0).bind fun o => (schema_find.f k o.2 a1).bind fun a => if a.2.2.2 = true then some a else
  (strings_CutPrefix.f a1 ⟨#[100, 97, 116, 97, 45]⟩).bind fun c => if c.2 = true then (if c.1.toList = [] then (schema_attrs.f k allText).bind fun al => schema_find.f k al a1 else some (a1, ⟨#[116, 101, 120, 116]⟩, false, true)) else (schema_attrs.f k allText).bind fun al => schema_find.f k al a1
theorem schema_Attribute.mono : ∀ a0 a1 k, LeO (schema_Attribute.f k a0 a1) (schema_Attribute.f (k + 1) a0 a1) := by
  intro a0 a1 k
  have h2 : ∀ s, LeO (schema_attrs.f k s) (schema_attrs.f (k + 1) s) := fun s => schema_attrs.mono s k
  have h3 : ∀ al, LeO (schema_find.f k al a1) (schema_find.f (k + 1) al a1) := fun al => schema_find.mono al a1 k
  have h4 : LeO ((schema_attrs.f k allText).bind fun al => schema_find.f k al a1) ((schema_attrs.f (k + 1) allText).bind fun al => schema_find.f (k + 1) al a1) := LeO.bind (h2 _) (fun al => h3 al)
  unfold schema_Attribute.f
  refine LeO.bind ?_ (fun o => LeO.bind (h3 _) (fun a => LeO.ite (LeO.refl _) (LeO.bind (LeO.refl _) (fun c => LeO.ite (LeO.ite h4 (LeO.refl _)) h4))))
  unfold ofA
  intro r hr
  obtain ⟨x, hx, rfl⟩ := Option.map_eq_some_iff.1 hr
  exact Option.map_eq_some_iff.2 ⟨x, schema_Of.mono a0 k x hx, rfl⟩
theorem of_reads (k : Nat) (name : ByteArray) (ok : Bool) (al : List S39) (w : World) (hG : GW w) (h : ofA k name = some (ok, al)) : Calls Tryd.prog 6 #[.string name] w fun e w' => ∃ n c Ac nc cc Aa ca, e = .returned (.tuple #[.agg #[.string n, .string c, .slice Ac nc cc, .slice Aa al.length ca], .bool ok]) ∧ al.length ≤ ca ∧ Kd.C k39 w' Aa al.length al ∧ Below w.heap.size w w' := by
  obtain ⟨⟨r1, r2, r3, r4, r5⟩, hx, e⟩ := Option.map_eq_some_iff.1 h
  cases e
  refine (schema_Of.calls k name r1 r2 r3 _ _ w hG hx).mono ?_
  rintro e w' ⟨vc, va, he, hr1, hr2, hb⟩
  obtain ⟨A, ca, rfl, hca, hC⟩ := Kd.R_reads hr2
  obtain ⟨A', ca', rfl, _, _⟩ := Kd.R_reads hr1
  exact ⟨_, _, A', _, ca', A, ca, he, hca, hC, hb⟩
set_option maxRecDepth 100000 in
set_option maxHeartbeats 4000000 in
theorem attr_hit (k : Nat) (el name : ByteArray) (w : World) (hG : GW w) (ok : Bool) (al1 : List S39) (ho : ofA k el = some (ok, al1)) (f1 f2 : ByteArray) (f3 : Bool) (hf : schema_find.f k al1 name = some (f1, f2, f3, true)) :
    Calls Tryd.prog 12 #[.string el, .string name] w fun e w' => e = .returned (.tuple #[.agg #[.string f1, .string f2, .bool f3], .bool true]) ∧ Below w.heap.size w w' := by
  have mixed : Tryd.prog.follows Departure.mixedOrders = true := by kernel_rfl
  obtain ⟨Z, hZ⟩ : ∃ Z, Obj.cells #[Value.string ⟨#[]⟩, Value.string ⟨#[]⟩, Value.bool false] 39 = Z := ⟨_, rfl⟩
  have c1 := fun W (hW : Below w.heap.size w W) => of_reads k el ok al1 W (hG.below hW) ho
  have hA := Aside0.mk ((Below.refl w.heap.size w).alloc (Nat.le_refl _) Z)
  subst hZ
  go_enter Tryd.func12, Tryd.ntmps12
  go_wp2_with (first
    | (go_at_call 6; refine (c1 _ hA.out).mono ?_; rintro e w1 ⟨n, c, Ac, nc, cc, Aa, ca, rfl, hca, hC, hb⟩
       have C1 := Aside0.mk hC; have B1 := Aside0.mk hb; have L1 := Aside0.mk hca; clear hC hb hca)
    | (go_at_call 25; refine (schema_find.calls k Aa ca al1 name f1 f2 f3 true _ (Kd.C_below C1.out ((Below.refl _ _).alloc (Nat.le_refl _) _)) L1.out hf).mono ?_; rintro e w2 ⟨rfl, hb⟩
       have s1 : w.heap.size + 1 ≤ w1.heap.size := by have h := B1.out.size; simpa using h
       have s2 : w1.heap.size + 1 ≤ w2.heap.size := by have h := hb.size; simpa using h
       have b0 := (B1.out.block w.heap.size (by simp)).trans (blk_new w _)
       have b1 := (Below.heap_alloc w1 (.cells #[.string n, .string c, .slice Ac nc cc, .slice Aa al1.length ca] 26) w.heap.size (by omega)).trans b0
       have b2 := (hb.block w.heap.size (by simp; omega)).trans b1
       have b3 := (Below.heap_alloc w2 (.cells #[.string f1, .string f2, .bool f3] 39) w.heap.size (by omega)).trans b2
       have BK := Aside0.mk b3
       clear b0 b1 b2 b3 s1 s2
       have hr0 := blk_cell BK.out 0
       have hr1 := blk_cell BK.out 1
       have hr2 := blk_cell BK.out 2
       have hq0 := blk_frozen BK.out 0
       have hq1 := blk_frozen BK.out 1
       have hq2 := blk_frozen BK.out 2
       have B2 := Aside0.mk hb; clear hb))
  refine bodyPost_ret (results_ct rfl _ _ w.heap.size 39 #[.string f1, .string f2, .bool f3] (0, 0) _ rfl (by refine blk_put (cs := #[.string f1, .string f2, .bool false]) ?_ 2 _ rfl; refine blk_put (cs := #[.string f1, .string ⟨#[]⟩, .bool false]) ?_ 1 _ rfl; refine blk_put (cs := #[.string ⟨#[]⟩, .string ⟨#[]⟩, .bool false]) ?_ 0 _ rfl; exact BK.out) Tryd.underlying39 rfl (by kernel_rfl)) rfl ?_
  refine ⟨rfl, ?_⟩
  have hb1 := hA.out.trans (B1.out.mono (by simp))
  have hb2 := (hb1.alloc hb1.size (.cells #[.string n, .string c, .slice Ac nc cc, .slice Aa al1.length ca] 26)).trans (B2.out.mono (by have := hb1.size; simp; omega))
  have hb3 := hb2.alloc hb2.size (.cells #[.string f1, .string f2, .bool f3] 39)
  exact ((hb3.setCell (Nat.le_refl _) _).setCell (Nat.le_refl _) _).setCell (Nat.le_refl _) _
theorem below_of {w w1 w2 : World} {Z E : Obj} (hA : Below w.heap.size w (w.alloc Z)) (h1 : Below (w.alloc Z).heap.size (w.alloc Z) w1) (h2 : Below (w1.alloc E).heap.size (w1.alloc E) w2) (O : Obj) : Below w.heap.size w (w2.alloc O) := by
  have hb1 := hA.trans (h1.mono (by simp))
  have hb2 := (hb1.alloc hb1.size E).trans (h2.mono (by have := hb1.size; simp; omega))
  exact hb2.alloc hb2.size O
set_option maxRecDepth 100000 in
set_option maxHeartbeats 8000000 in
theorem attr_data (k : Nat) (el name : ByteArray) (w : World) (hG : GW w) (ok : Bool) (al1 : List S39) (ho : ofA k el = some (ok, al1)) (f1 f2 : ByteArray) (f3 : Bool) (hf : schema_find.f k al1 name = some (f1, f2, f3, false)) (r1 : ByteArray) (r2 : Bool) (hc : strings_CutPrefix.f name ⟨#[100, 97, 116, 97, 45]⟩ = some (r1, r2)) (h2 : r2 = true) (h1 : r1.toList ≠ []) :
    Calls Tryd.prog 12 #[.string el, .string name] w fun e w' => e = .returned (.tuple #[.agg #[.string name, .string ⟨#[116, 101, 120, 116]⟩, .bool false], .bool true]) ∧ Below w.heap.size w w' := by
  have mixed : Tryd.prog.follows Departure.mixedOrders = true := by kernel_rfl
  obtain ⟨Z, hZ⟩ : ∃ Z, Obj.cells #[Value.string ⟨#[]⟩, Value.string ⟨#[]⟩, Value.bool false] 39 = Z := ⟨_, rfl⟩
  have c1 := fun W (hW : Below w.heap.size w W) => of_reads k el ok al1 W (hG.below hW) ho
  have hA := Aside0.mk ((Below.refl w.heap.size w).alloc (Nat.le_refl _) Z)
  subst hZ
  have HG := Aside0.mk hG
  subst h2
  have e1 : (r1.toList == []) = false := beq_eq_false_iff_ne.2 h1
  have e2 : (r1.toList != []) = true := bne_iff_ne.2 h1
  clear hG ho
  go_enter Tryd.func12, Tryd.ntmps12
  go_wp2_with (first
    | (go_at_call 6; refine (c1 _ hA.out).mono ?_; rintro e w1 ⟨n, c, Ac, nc, cc, Aa, ca, rfl, hca, hC, hb⟩
       have C1 := Aside0.mk hC; have B1 := Aside0.mk hb; have L1 := Aside0.mk hca; clear hC hb hca)
    | (go_at_call 25; refine (schema_find.calls k Aa ca al1 name f1 f2 f3 false _ (Kd.C_below C1.out ((Below.refl _ _).alloc (Nat.le_refl _) _)) L1.out hf).mono ?_; rintro e w2 ⟨rfl, hb⟩
       have s1 : w.heap.size + 1 ≤ w1.heap.size := by have h := B1.out.size; simpa using h
       have s2 : w1.heap.size + 1 ≤ w2.heap.size := by have h := hb.size; simpa using h
       have b0 := (B1.out.block w.heap.size (by simp)).trans (blk_new w _)
       have b1 := (Below.heap_alloc w1 (.cells #[.string n, .string c, .slice Ac nc cc, .slice Aa al1.length ca] 26) w.heap.size (by omega)).trans b0
       have b2 := (hb.block w.heap.size (by simp; omega)).trans b1
       have BK2 := Aside0.mk ((Below.heap_alloc w2 (.cells #[.string f1, .string f2, .bool f3] 39) w.heap.size (by omega)).trans b2)
       have S2 := Aside0.mk (show w.heap.size < (w2.alloc (.cells #[.string f1, .string f2, .bool f3] 39)).heap.size by simp; omega)
       have B2 := Aside0.mk hb
       have H3 := Aside0.mk (below_of hA.out B1.out hb (.cells #[.string f1, .string f2, .bool f3] 39))
       clear b0 b1 b2 s1 s2 hb)
    | (go_at_call 26; refine (strings_CutPrefix.calls name _ r1 true _ hc).mono ?_; rintro e w3 ⟨rfl, hd⟩
       have hb := hd.below
       have BK := Aside0.mk ((hb.block w.heap.size (by have h := S2.out; simp at h ⊢; omega)).trans BK2.out)
       have S3 := Aside0.mk (show w.heap.size < w3.heap.size by have h := S2.out; have h2 := hb.size; simp at h h2; omega)
       have H4 := Aside0.mk (H3.out.trans (hb.mono H3.out.size))
       clear hb hd
       have hr0 := blk_cell BK.out 0
       have hr1 := blk_cell BK.out 1
       have hr2 := blk_cell BK.out 2
       have hq0 := blk_frozen BK.out 0
       have hq1 := blk_frozen BK.out 1
       have hq2 := blk_frozen BK.out 2))
  repeat (go_quiet (fail); try go_wp2)
  refine bodyPost_ret (results_ct rfl _ _ w.heap.size 39 #[.string name, .string ⟨#[116, 101, 120, 116]⟩, .bool false] (0, 0) _ rfl (by (with_reducible repeat (first | refine blk_drewN ?_ _ | refine blk_drew ?_)); refine blk_put (cs := #[.string name, .string ⟨#[116, 101, 120, 116]⟩, .bool false]) ?_ 2 _ rfl; refine blk_put (cs := #[.string name, .string ⟨#[]⟩, .bool false]) ?_ 1 _ rfl; refine blk_put (cs := #[.string ⟨#[]⟩, .string ⟨#[]⟩, .bool false]) ?_ 0 _ rfl; (with_reducible repeat (first | refine blk_drewN ?_ _ | refine blk_drew ?_)); exact BK.out) Tryd.underlying39 rfl (by kernel_rfl)) rfl ?_
  refine ⟨rfl, ?_⟩
  exact ((H4.out.setCell (Nat.le_refl _) _).setCell (Nat.le_refl _) _).setCell (Nat.le_refl _) _
set_option maxRecDepth 100000 in
set_option maxHeartbeats 8000000 in
theorem attr_allF (k : Nat) (el name : ByteArray) (w : World) (hG : GW w) (ok : Bool) (al1 : List S39) (ho : ofA k el = some (ok, al1)) (f1 f2 : ByteArray) (f3 : Bool) (hf : schema_find.f k al1 name = some (f1, f2, f3, false)) (r1 : ByteArray) (r2 : Bool) (hc : strings_CutPrefix.f name ⟨#[100, 97, 116, 97, 45]⟩ = some (r1, r2)) (h2 : r2 = false) (al2 : List S39) (hal : schema_attrs.f k allText = some al2) (g1 g2 : ByteArray) (g3 g4 : Bool) (hg : schema_find.f k al2 name = some (g1, g2, g3, g4)) :
    Calls Tryd.prog 12 #[.string el, .string name] w fun e w' => e = .returned (.tuple #[.agg #[.string g1, .string g2, .bool g3], .bool g4]) ∧ Below w.heap.size w w' := by
  have mixed : Tryd.prog.follows Departure.mixedOrders = true := by kernel_rfl
  obtain ⟨Z, hZ⟩ : ∃ Z, Obj.cells #[Value.string ⟨#[]⟩, Value.string ⟨#[]⟩, Value.bool false] 39 = Z := ⟨_, rfl⟩
  have c1 := fun W (hW : Below w.heap.size w W) => of_reads k el ok al1 W (hG.below hW) ho
  have hA := Aside0.mk ((Below.refl w.heap.size w).alloc (Nat.le_refl _) Z)
  subst hZ
  have HG := Aside0.mk hG
  subst h2
  have c5 := fun W (hW : Below w.heap.size w W) => schema_attrs.calls k allText al2 W (HG.out.below hW) hal
  clear hG ho
  go_enter Tryd.func12, Tryd.ntmps12
  go_wp2_with (first
    | (go_at_call 25; refine (schema_find.calls k A5 c5 al2 name g1 g2 g3 g4 _ C5.out L5.out hg).mono ?_; rintro e w6 ⟨rfl, hb⟩
       have BK := Aside0.mk ((hb.block w.heap.size S4.out).trans BK4.out)
       have H6 := Aside0.mk (H5.out.trans (hb.mono H5.out.size))
       clear hb
       have hr0 := blk_cell BK.out 0
       have hr1 := blk_cell BK.out 1
       have hr2 := blk_cell BK.out 2
       have hq0 := blk_frozen BK.out 0
       have hq1 := blk_frozen BK.out 1
       have hq2 := blk_frozen BK.out 2)
    | (go_at_call 6; refine (c1 _ hA.out).mono ?_; rintro e w1 ⟨n, c, Ac, nc, cc, Aa, ca, rfl, hca, hC, hb⟩
       have C1 := Aside0.mk hC; have B1 := Aside0.mk hb; have L1 := Aside0.mk hca; clear hC hb hca)
    | (go_at_call 25; refine (schema_find.calls k Aa ca al1 name f1 f2 f3 false _ (Kd.C_below C1.out ((Below.refl _ _).alloc (Nat.le_refl _) _)) L1.out hf).mono ?_; rintro e w2 ⟨rfl, hb⟩
       have s1 : w.heap.size + 1 ≤ w1.heap.size := by have h := B1.out.size; simpa using h
       have s2 : w1.heap.size + 1 ≤ w2.heap.size := by have h := hb.size; simpa using h
       have b0 := (B1.out.block w.heap.size (by simp)).trans (blk_new w _)
       have b1 := (Below.heap_alloc w1 (.cells #[.string n, .string c, .slice Ac nc cc, .slice Aa al1.length ca] 26) w.heap.size (by omega)).trans b0
       have b2 := (hb.block w.heap.size (by simp; omega)).trans b1
       have BK2 := Aside0.mk ((Below.heap_alloc w2 (.cells #[.string f1, .string f2, .bool f3] 39) w.heap.size (by omega)).trans b2)
       have S2 := Aside0.mk (show w.heap.size < (w2.alloc (.cells #[.string f1, .string f2, .bool f3] 39)).heap.size by simp; omega)
       have B2 := Aside0.mk hb
       have H3 := Aside0.mk (below_of hA.out B1.out hb (.cells #[.string f1, .string f2, .bool f3] 39))
       clear b0 b1 b2 s1 s2 hb)
    | (go_at_call 26; refine (strings_CutPrefix.calls name _ r1 false _ hc).mono ?_; rintro e w3 ⟨rfl, hd⟩
       have hb := hd.below
       have BK3 := Aside0.mk ((hb.block w.heap.size (by have h := S2.out; simp at h ⊢; omega)).trans BK2.out)
       have S3 := Aside0.mk (show w.heap.size < w3.heap.size by have h := S2.out; have h2 := hb.size; simp at h h2; omega)
       have H4 := Aside0.mk (H3.out.trans (hb.mono H3.out.size))
       clear hb hd)
    | (go_at_call 21; refine (c5 _ H4.out).mono ?_; rintro e w4 ⟨v4, rfl, hr, hb⟩
       obtain ⟨A5, c5, rfl, hc5, hC5⟩ := Kd.R_reads hr
       have C5 := Aside0.mk hC5
       have L5 := Aside0.mk hc5
       have BK4 := Aside0.mk ((hb.block w.heap.size S3.out).trans BK3.out)
       have S4 := Aside0.mk (show w.heap.size < w4.heap.size by have h := S3.out; have h2 := hb.size; omega)
       have H5 := Aside0.mk (H4.out.trans (hb.mono H4.out.size))
       clear hb hr hC5 hc5))
  repeat (go_quiet (fail); try go_wp2)
  refine bodyPost_ret (results_ct rfl _ _ w.heap.size 39 #[.string g1, .string g2, .bool g3] (0, 0) _ rfl (by (with_reducible repeat (first | refine blk_drewN ?_ _ | refine blk_drew ?_)); refine blk_put (cs := #[.string g1, .string g2, .bool false]) ?_ 2 _ rfl; refine blk_put (cs := #[.string g1, .string ⟨#[]⟩, .bool false]) ?_ 1 _ rfl; refine blk_put (cs := #[.string ⟨#[]⟩, .string ⟨#[]⟩, .bool false]) ?_ 0 _ rfl; (with_reducible repeat (first | refine blk_drewN ?_ _ | refine blk_drew ?_)); exact BK.out) Tryd.underlying39 rfl (by kernel_rfl)) rfl ?_
  refine ⟨rfl, ?_⟩
  exact ((H6.out.setCell (Nat.le_refl _) _).setCell (Nat.le_refl _) _).setCell (Nat.le_refl _) _
set_option maxRecDepth 100000 in
set_option maxHeartbeats 8000000 in
theorem attr_allE (k : Nat) (el name : ByteArray) (w : World) (hG : GW w) (ok : Bool) (al1 : List S39) (ho : ofA k el = some (ok, al1)) (f1 f2 : ByteArray) (f3 : Bool) (hf : schema_find.f k al1 name = some (f1, f2, f3, false)) (r1 : ByteArray) (r2 : Bool) (hc : strings_CutPrefix.f name ⟨#[100, 97, 116, 97, 45]⟩ = some (r1, r2)) (h2 : r2 = true) (h1 : r1.toList = []) (al2 : List S39) (hal : schema_attrs.f k allText = some al2) (g1 g2 : ByteArray) (g3 g4 : Bool) (hg : schema_find.f k al2 name = some (g1, g2, g3, g4)) :
    Calls Tryd.prog 12 #[.string el, .string name] w fun e w' => e = .returned (.tuple #[.agg #[.string g1, .string g2, .bool g3], .bool g4]) ∧ Below w.heap.size w w' := by
  have mixed : Tryd.prog.follows Departure.mixedOrders = true := by kernel_rfl
  obtain ⟨Z, hZ⟩ : ∃ Z, Obj.cells #[Value.string ⟨#[]⟩, Value.string ⟨#[]⟩, Value.bool false] 39 = Z := ⟨_, rfl⟩
  have c1 := fun W (hW : Below w.heap.size w W) => of_reads k el ok al1 W (hG.below hW) ho
  have hA := Aside0.mk ((Below.refl w.heap.size w).alloc (Nat.le_refl _) Z)
  subst hZ
  have HG := Aside0.mk hG
  subst h2
  have e1 : (r1.toList == []) = true := beq_iff_eq.2 h1
  have e2 : (r1.toList != []) = false := bne_eq_false_iff_eq.2 h1
  clear h1
  have c5 := fun W (hW : Below w.heap.size w W) => schema_attrs.calls k allText al2 W (HG.out.below hW) hal
  clear hG ho
  go_enter Tryd.func12, Tryd.ntmps12
  go_wp2_with (first
    | (go_at_call 25; refine (schema_find.calls k A5 c5 al2 name g1 g2 g3 g4 _ C5.out L5.out hg).mono ?_; rintro e w6 ⟨rfl, hb⟩
       have BK := Aside0.mk ((hb.block w.heap.size S4.out).trans BK4.out)
       have H6 := Aside0.mk (H5.out.trans (hb.mono H5.out.size))
       clear hb
       have hr0 := blk_cell BK.out 0
       have hr1 := blk_cell BK.out 1
       have hr2 := blk_cell BK.out 2
       have hq0 := blk_frozen BK.out 0
       have hq1 := blk_frozen BK.out 1
       have hq2 := blk_frozen BK.out 2)
    | (go_at_call 6; refine (c1 _ hA.out).mono ?_; rintro e w1 ⟨n, c, Ac, nc, cc, Aa, ca, rfl, hca, hC, hb⟩
       have C1 := Aside0.mk hC; have B1 := Aside0.mk hb; have L1 := Aside0.mk hca; clear hC hb hca)
    | (go_at_call 25; refine (schema_find.calls k Aa ca al1 name f1 f2 f3 false _ (Kd.C_below C1.out ((Below.refl _ _).alloc (Nat.le_refl _) _)) L1.out hf).mono ?_; rintro e w2 ⟨rfl, hb⟩
       have s1 : w.heap.size + 1 ≤ w1.heap.size := by have h := B1.out.size; simpa using h
       have s2 : w1.heap.size + 1 ≤ w2.heap.size := by have h := hb.size; simpa using h
       have b0 := (B1.out.block w.heap.size (by simp)).trans (blk_new w _)
       have b1 := (Below.heap_alloc w1 (.cells #[.string n, .string c, .slice Ac nc cc, .slice Aa al1.length ca] 26) w.heap.size (by omega)).trans b0
       have b2 := (hb.block w.heap.size (by simp; omega)).trans b1
       have BK2 := Aside0.mk ((Below.heap_alloc w2 (.cells #[.string f1, .string f2, .bool f3] 39) w.heap.size (by omega)).trans b2)
       have S2 := Aside0.mk (show w.heap.size < (w2.alloc (.cells #[.string f1, .string f2, .bool f3] 39)).heap.size by simp; omega)
       have B2 := Aside0.mk hb
       have H3 := Aside0.mk (below_of hA.out B1.out hb (.cells #[.string f1, .string f2, .bool f3] 39))
       clear b0 b1 b2 s1 s2 hb)
    | (go_at_call 26; refine (strings_CutPrefix.calls name _ r1 true _ hc).mono ?_; rintro e w3 ⟨rfl, hd⟩
       have hb := hd.below
       have BK3 := Aside0.mk ((hb.block w.heap.size (by have h := S2.out; simp at h ⊢; omega)).trans BK2.out)
       have S3 := Aside0.mk (show w.heap.size < w3.heap.size by have h := S2.out; have h2 := hb.size; simp at h h2; omega)
       have H4 := Aside0.mk (H3.out.trans (hb.mono H3.out.size))
       clear hb hd)
    | (go_at_call 21; refine (c5 _ H4.out).mono ?_; rintro e w4 ⟨v4, rfl, hr, hb⟩
       obtain ⟨A5, c5, rfl, hc5, hC5⟩ := Kd.R_reads hr
       have C5 := Aside0.mk hC5
       have L5 := Aside0.mk hc5
       have BK4 := Aside0.mk ((hb.block w.heap.size S3.out).trans BK3.out)
       have S4 := Aside0.mk (show w.heap.size < w4.heap.size by have h := S3.out; have h2 := hb.size; omega)
       have H5 := Aside0.mk (H4.out.trans (hb.mono H4.out.size))
       clear hb hr hC5 hc5))
  repeat (go_quiet (fail); try go_wp2)
  refine bodyPost_ret (results_ct rfl _ _ w.heap.size 39 #[.string g1, .string g2, .bool g3] (0, 0) _ rfl (by (with_reducible repeat (first | refine blk_drewN ?_ _ | refine blk_drew ?_)); refine blk_put (cs := #[.string g1, .string g2, .bool false]) ?_ 2 _ rfl; refine blk_put (cs := #[.string g1, .string ⟨#[]⟩, .bool false]) ?_ 1 _ rfl; refine blk_put (cs := #[.string ⟨#[]⟩, .string ⟨#[]⟩, .bool false]) ?_ 0 _ rfl; (with_reducible repeat (first | refine blk_drewN ?_ _ | refine blk_drew ?_)); exact BK.out) Tryd.underlying39 rfl (by kernel_rfl)) rfl ?_
  refine ⟨rfl, ?_⟩
  exact ((H6.out.setCell (Nat.le_refl _) _).setCell (Nat.le_refl _) _).setCell (Nat.le_refl _) _
theorem schema_Attribute.calls (k : Nat) (a0 a1 : ByteArray) (r1 r2 : ByteArray) (r3 r4 : Bool) (w : World) (hG : GW w) (h : schema_Attribute.f k a0 a1 = some (r1, r2, r3, r4)) : Calls Tryd.prog 12 #[.string a0, .string a1] w fun e w' => e = .returned (.tuple #[.agg #[.string r1, .string r2, .bool r3], .bool r4]) ∧ Below w.heap.size w w' := by
  obtain ⟨⟨ok, al1⟩, ho, h⟩ := Option.bind_eq_some_iff.1 h
  obtain ⟨⟨f1, f2, f3, f4⟩, hf, h⟩ := Option.bind_eq_some_iff.1 h
  simp only at hf h
  cases f4 with
  | true =>
    rw [if_pos rfl] at h
    cases h
    exact attr_hit k a0 a1 w hG ok al1 ho _ _ _ hf
  | false =>
    rw [if_neg (by decide)] at h
    obtain ⟨⟨c1, c2⟩, hc, h⟩ := Option.bind_eq_some_iff.1 h
    simp only at h
    cases c2 with
    | true =>
      rw [if_pos rfl] at h
      by_cases h1 : c1.toList = []
      · rw [if_pos h1] at h
        obtain ⟨al2, hal, hg⟩ := Option.bind_eq_some_iff.1 h
        exact attr_allE k a0 a1 w hG ok al1 ho f1 f2 f3 hf c1 true hc rfl h1 al2 hal _ _ _ _ hg
      · rw [if_neg h1] at h
        cases h
        exact attr_data k a0 a1 w hG ok al1 ho f1 f2 f3 hf c1 true hc rfl h1
    | false =>
      rw [if_neg (by decide)] at h
      obtain ⟨al2, hal, hg⟩ := Option.bind_eq_some_iff.1 h
      exact attr_allF k a0 a1 w hG ok al1 ho f1 f2 f3 hf c1 false hc rfl al2 hal _ _ _ _ hg
end Go.Proofs.YtojjpimnjlmepaaDoor.PM
