/- schema.Of: the row of a name, its attributes. -/
import Derived.Test.YtojjpimnjlmepaaDoorPMx2
import Derived.Test.YtojjpimnjlmepaaDoorPMx3
import Derived.Test.YtojjpimnjlmepaaDoorHBin
import Derived.Deep.RegionHeld
set_option linter.unusedVariables false
namespace Go.Proofs.YtojjpimnjlmepaaDoor.PM
open Go.RowKit Go.Lib Go.Proofs.YtojjpimnjlmepaaDoor.Glob Go.Proofs.YtojjpimnjlmepaaDoorW.PrintWords Go.Proofs.YtojjpimnjlmepaaDoorW.PrintLast Go.Proofs.YtojjpimnjlmepaaDoorW.PrintMore

theorem rows_of {w : World} {base : Nat} {v : Value} {xs : List S54} (h : Kd.R k54 54 w base (fun _ => True) v xs) (hne : xs ≠ []) : ∃ g c, v = .slice (some ⟨g, 0, none⟩) xs.length c ∧ base ≤ g ∧ RowsAt xs g w := by
  obtain ⟨A, c, rfl, hc, hC⟩ := Kd.R_reads h
  obtain ⟨_, inner, ho, _⟩ := h
  have hlen : 0 < xs.length := List.length_pos_iff.2 hne
  rcases ho.2 with ⟨e, h0⟩ | ⟨g, cap, cur, e, hbg, _⟩
  · omega
  · injection e with e1 e2 e3
    subst e1
    refine ⟨g, c, rfl, hbg, fun i x hx => ?_⟩
    have hi := (List.getElem?_eq_some_iff.1 hx).1
    obtain ⟨ad, ea, h0, h1, h2, h3⟩ := at_T54 hC (i : Int) (by omega) (by omega)
    obtain rfl := Option.some.inj ea
    have hr : rd_T54 xs (i : Int) = x := by
      have := List.getElem?_eq_some_iff.1 hx
      simp [rd_T54, List.getD_eq_getElem?_getD, hx]
    rw [hr] at h0 h1 h2 h3
    have hadd : ((⟨g, 0, none⟩ : Addr).add ((i : Int).toNat * 4)) = ⟨g, i * 4, none⟩ := by
      rw [Int.toNat_natCast]
      simp only [Addr.add, Nat.zero_add]
      split <;> simp_all
    rw [hadd] at h0 h1 h2 h3
    exact ⟨h0, h1, h2, h3⟩
def Bel (w2 w' : World) : Prop := Below w2.heap.size w2 w'
def rowOf (name : ByteArray) : Option (Option S54) := (schema_table.f).bind fun t => if t ≠ [] ∧ t.length ≤ 1000 then some (if bsOk t name = true then t[bsAt t name]? else none) else none
set_option maxRecDepth 100000 in
set_option maxHeartbeats 4000000 in
theorem of_none (name : ByteArray) (t : List S54) (ht : schema_table.f = some t) (hne : t ≠ []) (hn : t.length ≤ 1000) (hok : bsOk t name = false) (w : World) :
    Calls Tryd.prog 6 #[.string name] w fun e w' => e = .returned (.tuple #[.agg #[.string ⟨#[]⟩, .string ⟨#[]⟩, .slice none 0 0, .slice none 0 0], .bool false]) ∧ Below w.heap.size w w' := by
  obtain ⟨Z, hZ⟩ : ∃ Z, Obj.cells #[Value.string ⟨#[]⟩, Value.string ⟨#[]⟩, Value.slice none 0 0, Value.slice none 0 0] 26 = Z := ⟨_, rfl⟩
  have c1 := fun W => schema_table.calls t W ht
  have c2 := fun g c W (hR : RowsAt t g W) => bin_walk t g c name W hn hR
  rw [hok] at c2
  have hA := Aside0.mk ((Below.refl w.heap.size w).alloc (Nat.le_refl _) Z)
  subst hZ
  go_enter Tryd.func6, Tryd.ntmps6
  go_wp2_with (first
    | (go_at_call 16; refine (c1 _).mono ?_; rintro e w1 ⟨v, rfl, hr, hb⟩
       obtain ⟨g, c, rfl, hbg, hrows⟩ := rows_of hr hne
       have R1 := Aside0.mk hrows; have B1 := Aside0.mk hb; clear hr hb hrows)
    | (go_at_call 17; refine (c2 _ _ _ R1.out).mono ?_; rintro e w2 ⟨rfl, hb⟩
       have BK := Aside0.mk (((hb.block w.heap.size (by have := B1.out.size; simp at this; omega)).trans (B1.out.block w.heap.size (by simp))).trans (blk_new w _))
       have hr0 := blk_cell BK.out 0
       have hr1 := blk_cell BK.out 1
       have hr2 := blk_cell BK.out 2
       have hr3 := blk_cell BK.out 3
       have hq0 := blk_frozen BK.out 0
       have hq1 := blk_frozen BK.out 1
       have hq2 := blk_frozen BK.out 2
       have hq3 := blk_frozen BK.out 3
       have B2 := Aside0.mk hb; clear hb))
  refine bodyPost_ret (results_ct rfl _ _ w.heap.size 26 #[.string ⟨#[]⟩, .string ⟨#[]⟩, .slice none 0 0, .slice none 0 0] (0, 0) _ rfl (by refine blk_put (cs := #[.string ⟨#[]⟩, .string ⟨#[]⟩, .slice none 0 0, .slice none 0 0]) ?_ 3 _ rfl; refine blk_put (cs := #[.string ⟨#[]⟩, .string ⟨#[]⟩, .slice none 0 0, .slice none 0 0]) ?_ 2 _ rfl; refine blk_put (cs := #[.string ⟨#[]⟩, .string ⟨#[]⟩, .slice none 0 0, .slice none 0 0]) ?_ 1 _ rfl; refine blk_put (cs := #[.string ⟨#[]⟩, .string ⟨#[]⟩, .slice none 0 0, .slice none 0 0]) ?_ 0 _ rfl; exact BK.out) Tryd.underlying26 rfl (by kernel_rfl)) rfl ?_
  refine ⟨rfl, ?_⟩
  have B := (hA.out.trans (B1.out.mono (show w.heap.size ≤ _ by simp))).trans (B2.out.mono (by have := B1.out.size; simp at this; omega))
  exact (((B.setCell (Nat.le_refl _) _).setCell (Nat.le_refl _) _).setCell (Nat.le_refl _) _).setCell (Nat.le_refl _) _
set_option maxRecDepth 100000 in
set_option maxHeartbeats 4000000 in
theorem of_some (k : Nat) (name : ByteArray) (t : List S54) (ht : schema_table.f = some t) (hne : t ≠ []) (hn : t.length ≤ 1000) (hok : bsOk t name = true) (x : S54) (hx : t[bsAt t name]? = some x) (cl : List ByteArray) (al : List S39) (hf : strings_Fields.f x.f2 = some cl) (ha : schema_attrs.f k x.f3 = some al) (w : World) (hG : GW w) :
    Calls Tryd.prog 6 #[.string name] w fun e w' => ∃ vc va, e = .returned (.tuple #[.agg #[.string x.f0, .string x.f1, vc, va], .bool true]) ∧ Kd.R Kd.string 9 w' w.heap.size (fun _ => True) vc cl ∧ Kd.R k39 39 w' w.heap.size (fun _ => True) va al ∧ Below w.heap.size w w' := by
  have mixed : Tryd.prog.follows Departure.mixedOrders = true := by kernel_rfl
  obtain ⟨Z, hZ⟩ : ∃ Z, Obj.cells #[Value.string ⟨#[]⟩, Value.string ⟨#[]⟩, Value.slice none 0 0, Value.slice none 0 0] 26 = Z := ⟨_, rfl⟩
  have c1 := fun W => schema_table.calls t W ht
  have c2 := fun g c W (hR : RowsAt t g W) => bin_walk t g c name W hn hR
  rw [hok] at c2
  obtain ⟨I, hI⟩ : ∃ I, bsAt t name = I := ⟨_, rfl⟩
  rw [hI] at c2 hx
  have hil := (List.getElem?_eq_some_iff.1 hx).1
  have c3 := fun W (hW : Below w.heap.size w W) => strings_Fields.calls x.f2 cl W (hG.below hW) hf
  have c4 := fun W (hW : Below w.heap.size w W) => schema_attrs.calls k x.f3 al W (hG.below hW) ha
  clear hI
  have hA := Aside0.mk ((Below.refl w.heap.size w).alloc (Nat.le_refl _) Z)
  subst hZ
  go_enter Tryd.func6, Tryd.ntmps6
  go_wp2_with (first
    | (go_at_call 16; refine (c1 _).mono ?_; rintro e w1 ⟨v, rfl, hr, hb⟩
       obtain ⟨g, c, rfl, hbg, hrows⟩ := rows_of hr hne
       have R1 := Aside0.mk hrows; have B1 := Aside0.mk hb; clear hr hb hrows)
    | (go_at_call 17; refine (c2 _ _ _ R1.out).mono ?_; rintro e w2 ⟨rfl, hb⟩
       have BK := Aside0.mk (((hb.block w.heap.size (by have := B1.out.size; simp at this; omega)).trans (B1.out.block w.heap.size (by simp))).trans (blk_new w _))
       have hr0 := blk_cell BK.out 0
       have hr1 := blk_cell BK.out 1
       have hr2 := blk_cell BK.out 2
       have hr3 := blk_cell BK.out 3
       have hq0 := blk_frozen BK.out 0
       have hq1 := blk_frozen BK.out 1
       have hq2 := blk_frozen BK.out 2
       have hq3 := blk_frozen BK.out 3
       obtain ⟨f0, f1, f2, f3⟩ := (R1.out.below hb) I x hx; have B2 := Aside0.mk hb; clear hb))
  have hS : ∀ W, Below w2.heap.size w2 W → (W.cell? ⟨g, I * 4, none⟩ = some (.string x.f0) ∧ W.cell? ⟨g, I * 4 + 1, none⟩ = some (.string x.f1) ∧ W.cell? ⟨g, I * 4 + 2, none⟩ = some (.string x.f2) ∧ W.cell? ⟨g, I * 4 + 3, none⟩ = some (.string x.f3) ∧ W.cell? ⟨w.heap.size, 0, none⟩ = some (.string ⟨#[]⟩) ∧ W.cell? ⟨w.heap.size, 1, none⟩ = some (.string ⟨#[]⟩) ∧ W.cell? ⟨w.heap.size, 2, none⟩ = some (.slice none 0 0) ∧ W.cell? ⟨w.heap.size, 3, none⟩ = some (.slice none 0 0) ∧ W.frozen? ⟨w.heap.size, 0, none⟩ = false ∧ W.frozen? ⟨w.heap.size, 1, none⟩ = false ∧ W.frozen? ⟨w.heap.size, 2, none⟩ = false ∧ W.frozen? ⟨w.heap.size, 3, none⟩ = false ∧ Bel w2 W) := fun W hW => by
    have BK2 := (hW.block w.heap.size (by have := B2.out.size; have := B1.out.size; simp at *; omega)).trans BK.out
    refine ⟨?_, ?_, ?_, ?_, blk_cell BK2 0, blk_cell BK2 1, blk_cell BK2 2, blk_cell BK2 3, blk_frozen BK2 0, blk_frozen BK2 1, blk_frozen BK2 2, blk_frozen BK2 3, hW⟩
    · exact (hW.cell (World.block_lt_of_cell? w2 _ f0)).trans f0
    · exact (hW.cell (World.block_lt_of_cell? w2 _ f1)).trans f1
    · exact (hW.cell (World.block_lt_of_cell? w2 _ f2)).trans f2
    · exact (hW.cell (World.block_lt_of_cell? w2 _ f3)).trans f3
  have hw2 : Below w.heap.size w w2 := (hA.out.trans (B1.out.mono (show w.heap.size ≤ _ by simp))).trans (B2.out.mono (by have := B1.out.size; simp at this; omega))
  have d3 : ∀ W, Bel w2 W → Calls Tryd.prog 20 #[.string x.f2] W fun e w' => ∃ A n c, e = .returned (.slice A n c) ∧ Aside0 (Kd.R Kd.string 9 w' w2.heap.size (fun _ => True) (.slice A n c) cl) ∧ (w'.cell? ⟨g, I * 4, none⟩ = some (.string x.f0) ∧ w'.cell? ⟨g, I * 4 + 1, none⟩ = some (.string x.f1) ∧ w'.cell? ⟨g, I * 4 + 2, none⟩ = some (.string x.f2) ∧ w'.cell? ⟨g, I * 4 + 3, none⟩ = some (.string x.f3) ∧ w'.cell? ⟨w.heap.size, 0, none⟩ = some (.string ⟨#[]⟩) ∧ w'.cell? ⟨w.heap.size, 1, none⟩ = some (.string ⟨#[]⟩) ∧ w'.cell? ⟨w.heap.size, 2, none⟩ = some (.slice none 0 0) ∧ w'.cell? ⟨w.heap.size, 3, none⟩ = some (.slice none 0 0) ∧ w'.frozen? ⟨w.heap.size, 0, none⟩ = false ∧ w'.frozen? ⟨w.heap.size, 1, none⟩ = false ∧ w'.frozen? ⟨w.heap.size, 2, none⟩ = false ∧ w'.frozen? ⟨w.heap.size, 3, none⟩ = false ∧ Bel w2 w') := fun W hW => (c3 W (hw2.trans (hW.mono hw2.size))).mono fun e w' ⟨v, he, hr, hb⟩ => by
    obtain ⟨A, c, rfl⟩ := Kd.R_slice hr
    exact ⟨A, _, c, he, ⟨Kd.R_lower hr hW.size⟩, hS w' (hW.trans (hb.mono hW.size))⟩
  have d4 : ∀ W, Bel w2 W → Calls Tryd.prog 21 #[.string x.f3] W fun e w' => ∃ A n c, e = .returned (.slice A n c) ∧ Aside0 (Kd.R k39 39 w' w2.heap.size (fun _ => True) (.slice A n c) al) ∧ Aside0 (Below W.heap.size W w') ∧ (w'.cell? ⟨g, I * 4, none⟩ = some (.string x.f0) ∧ w'.cell? ⟨g, I * 4 + 1, none⟩ = some (.string x.f1) ∧ w'.cell? ⟨g, I * 4 + 2, none⟩ = some (.string x.f2) ∧ w'.cell? ⟨g, I * 4 + 3, none⟩ = some (.string x.f3) ∧ w'.cell? ⟨w.heap.size, 0, none⟩ = some (.string ⟨#[]⟩) ∧ w'.cell? ⟨w.heap.size, 1, none⟩ = some (.string ⟨#[]⟩) ∧ w'.cell? ⟨w.heap.size, 2, none⟩ = some (.slice none 0 0) ∧ w'.cell? ⟨w.heap.size, 3, none⟩ = some (.slice none 0 0) ∧ w'.frozen? ⟨w.heap.size, 0, none⟩ = false ∧ w'.frozen? ⟨w.heap.size, 1, none⟩ = false ∧ w'.frozen? ⟨w.heap.size, 2, none⟩ = false ∧ w'.frozen? ⟨w.heap.size, 3, none⟩ = false ∧ Bel w2 w') := fun W hW => (c4 W (hw2.trans (hW.mono hw2.size))).mono fun e w' ⟨v, he, hr, hb⟩ => by
    obtain ⟨A, c, rfl⟩ := Kd.R_slice hr
    exact ⟨A, _, c, he, ⟨Kd.R_lower hr hW.size⟩, ⟨hb⟩, hS w' (hW.trans (hb.mono hW.size))⟩
  obtain ⟨z0, z1, z2, z3, z4, z5, z6, z7, z8, z9, z10, z11, zb⟩ := hS w2 (Below.refl _ _)
  have zd : Bel w2 w2.drew := (⟨rfl, rfl, rfl, Nat.le_refl _, fun _ _ => rfl⟩ : Below w2.heap.size w2 w2.drew)
  have HW2 := Aside0.mk hw2
  have LW2 := Aside0.mk (show w.heap.size < w2.heap.size by have := B2.out.size; have := B1.out.size; simp at *; omega)
  clear hS c3 c4 hw2 c1 c2 f0 f1 f2 f3 hr0 hr1 hr2 hr3 hq0 hq1 hq2 hq3
  have hgn : g ≠ w.heap.size := by simp at hbg; omega
  have hgn2 : w.heap.size ≠ g := Ne.symm hgn
  go_region_held (fun w' => w'.cell? ⟨g, I * 4, none⟩ = some (.string x.f0) ∧ w'.cell? ⟨g, I * 4 + 1, none⟩ = some (.string x.f1) ∧ w'.cell? ⟨g, I * 4 + 2, none⟩ = some (.string x.f2) ∧ w'.cell? ⟨g, I * 4 + 3, none⟩ = some (.string x.f3)) (go_keep)
    (first
    | (go_at_call 20; refine (d3 _ (by first | assumption | simp [*])).mono ?_; rintro e w3 ⟨A3, n3, c3, rfl, R3, k0, k1, k2, k3, k4, k5, k6, k7, k8, k9, k10, k11, kb⟩)
    | (go_at_call 21; refine (d4 _ (by first | assumption | simp [*])).mono ?_; rintro e w4 ⟨A4, n4, c4, rfl, R4, B4, k0, k1, k2, k3, k4, k5, k6, k7, k8, k9, k10, k11, kb⟩))
  go_wp2
  have hkb : Below w2.heap.size w2 w4 := kb
  have BK4 := (hkb.block w.heap.size LW2.out).trans BK.out
  refine bodyPost_ret (results_ct rfl _ _ w.heap.size 26 #[.string x.f0, .string x.f1, .slice A3 n3 c3, .slice A4 n4 c4] (0, 0) _ rfl (by refine blk_put (cs := #[.string x.f0, .string x.f1, .slice A3 n3 c3, .slice none 0 0]) ?_ 3 _ rfl; refine blk_put (cs := #[.string x.f0, .string x.f1, .slice none 0 0, .slice none 0 0]) ?_ 2 _ rfl; refine blk_put (cs := #[.string x.f0, .string ⟨#[]⟩, .slice none 0 0, .slice none 0 0]) ?_ 1 _ rfl; refine blk_put (cs := #[.string ⟨#[]⟩, .string ⟨#[]⟩, .slice none 0 0, .slice none 0 0]) ?_ 0 _ rfl; exact BK4) Tryd.underlying26 rfl (by kernel_rfl)) rfl ?_
  have B := HW2.out.trans (hkb.mono HW2.out.size)
  have hR := Kd.R_mono (Kd.R_bound R4.out) (ok' := fun k => w2.heap.size ≤ k) (fun k hk => hk.2.1)
  have hf : ∀ k, w2.heap.size ≤ k → k ≠ w.heap.size := fun k hk => by have := LW2.out; omega
  have hR3 := Kd.R_mono (Kd.R_bound (Kd.R_below R3.out B4.out)) (ok' := fun k => w2.heap.size ≤ k) (fun k hk => hk.2.1)
  refine ⟨_, _, rfl, Kd.R_mono (Kd.R_lower (Kd.R_far (Kd.R_far (Kd.R_far (Kd.R_far hR3 hf _) hf _) hf _) hf _) (Nat.le_of_lt LW2.out)) (fun _ _ => trivial), Kd.R_mono (Kd.R_lower (Kd.R_far (Kd.R_far (Kd.R_far (Kd.R_far hR hf _) hf _) hf _) hf _) (Nat.le_of_lt LW2.out)) (fun _ _ => trivial), ?_⟩
  exact (((B.setCell (Nat.le_refl _) _).setCell (Nat.le_refl _) _).setCell (Nat.le_refl _) _).setCell (Nat.le_refl _) _
/-- schema.Of at any name. -/
def schema_Of.f (k : Nat) (name : ByteArray) : Option (ByteArray × ByteArray × List ByteArray × List S39 × Bool) := (rowOf name).bind fun o => match o with
  | none => some (⟨#[]⟩, ⟨#[]⟩, [], [], false)
  | some x => (strings_Fields.f x.f2).bind fun cl => (schema_attrs.f k x.f3).bind fun al => some (x.f0, x.f1, cl, al, true)
theorem schema_Of.mono : ∀ a0 k, LeO (schema_Of.f k a0) (schema_Of.f (k + 1) a0) := by
  intro a0 k
  unfold schema_Of.f
  refine LeO.bind (LeO.refl _) (fun o => ?_)
  cases o with
  | none => exact LeO.refl _
  | some x => exact LeO.bind (LeO.refl _) (fun _ => LeO.bind (schema_attrs.mono _ _) (fun _ => LeO.refl _))
theorem schema_Of.calls (k : Nat) (name : ByteArray) (r1 r2 : ByteArray) (r3 : List ByteArray) (r4 : List S39) (r5 : Bool) (w : World) (hG : GW w) (h : schema_Of.f k name = some (r1, r2, r3, r4, r5)) : Calls Tryd.prog 6 #[.string name] w fun e w' => ∃ vc va, e = .returned (.tuple #[.agg #[.string r1, .string r2, vc, va], .bool r5]) ∧ Kd.R Kd.string 9 w' w.heap.size (fun _ => True) vc r3 ∧ Kd.R k39 39 w' w.heap.size (fun _ => True) va r4 ∧ Below w.heap.size w w' := by
  obtain ⟨o, h1, h2⟩ := Option.bind_eq_some_iff.1 h
  obtain ⟨t, ht, h3⟩ := Option.bind_eq_some_iff.1 h1
  split at h3
  case isFalse => cases h3
  rename_i hc
  have h4 := Option.some.inj h3
  cases hb : bsOk t name with
  | false =>
    rw [hb, if_neg (by decide)] at h4
    subst h4
    cases h2
    exact (of_none name t ht hc.1 hc.2 hb w).mono fun e w' ⟨he, hbl⟩ => ⟨_, _, he, Kd.R_nil _ _ _ _ _, Kd.R_nil _ _ _ _ _, hbl⟩
  | true =>
    rw [hb, if_pos rfl] at h4
    cases o with
    | none =>
      unfold bsOk at hb
      rw [h4] at hb
      cases hb
    | some x =>
      obtain ⟨cl, hf, h5⟩ := Option.bind_eq_some_iff.1 h2
      obtain ⟨al', ha, h6⟩ := Option.bind_eq_some_iff.1 h5
      cases h6
      exact of_some k name t ht hc.1 hc.2 hb x h4 _ _ hf ha w hG
end Go.Proofs.YtojjpimnjlmepaaDoor.PM
