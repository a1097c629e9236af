/- How an argument that can be read as data is told as a plain value: kind by kind, with what its bulk bounds. No condition beside those in each statement. -/
import Derived.Test.YtkkdpkfachpjeaaRows
import Derived.Test.YtkkdpkfachpjeaaWMore
import Derived.ChangeArms
import Derived.OpenShut
import Derived.ProofKit
import Derived.WalkKit
import Derived.Deep.Slices
import Derived.Carry
import Derived.ChangeOld
import Derived.SizedLaws
import Derived.LaidLaws
import Derived.Stop.Joined
import Derived.JoinedCond
set_option linter.unusedVariables false
namespace Go.Proofs.Ytkkdpkfachpjeaa.Opens
open Go.Proofs.YtkkdpkfachpjeaaW.PrintWords

/-- Every weight is within the reach. -/
def Light {H : Type} (P : Program) (T : TypeId) (x : DataW H) : Prop := ∀ n ∈ x.weights P T, n ≤ 140737488351232
structure Opn {α : Type} (P : Program) (d : Kd α) (T : TypeId) (B : α → Nat) (Wf Sz : α → Prop) : Prop where
  cells : P.cellsOf T = d.sz
  open_ : ∀ {H : Type} {enc : TypeId × Value → H} {W : World} {base : Nat} {spare : Nat → Bool} {held : Bool} {fuel : Nat} {cs : List Value} {x : DataW H × List MemPlace},
    DataW.trod enc P W base spare held fuel T cs = some x → ∃ a, d.K W a cs ∧ B a ≤ Rows.uptoBulk x.1 ∧ Wf a ∧ (Light P T x.1 → Sz a)

theorem one_le {H : Type} (d : DataW H) : 1 ≤ Rows.uptoBulk d := by
  cases d with
  | lit l => cases l <;> simp [Rows.uptoBulk]
  | nil => simp [Rows.uptoBulk]
  | ptr d => simp [Rows.uptoBulk]
  | slice elems spare => simp [Rows.uptoBulk]
  | agg parts => simp [Rows.uptoBulk]
  | iface t d => simp [Rows.uptoBulk]
  | map entries => simp [Rows.uptoBulk]
  | held h => simp [Rows.uptoBulk]
theorem all_append {H : Type} (l r : List (DataW H)) : Rows.uptoBulkAll (l ++ r) = Rows.uptoBulkAll l + Rows.uptoBulkAll r := by
  induction l with
  | nil => simp [Rows.uptoBulkAll]
  | cons x l ih => simp only [List.cons_append, Rows.uptoBulkAll, ih]; omega
theorem bound {H : Type} {l : List (DataW H)} (hk : Rows.uptoSmall H l = true) : Rows.uptoBulkAll l ≤ 1048576 := of_decide_eq_true hk

section
variable {P : Program} {T : TypeId}
theorem Opn.int {k : IntKind} (hT : P.underlying T = some (.int k)) (hc : P.cellsOf T = 1) : Opn P (Kd.int k) T (fun _ => 1) (fun n => (Lit.int k n).wf = true) (fun _ => True) :=
  ⟨hc, fun h => by
    obtain ⟨n, rfl, rfl, hw⟩ := DataW.trod_int hT h
    exact ⟨n, rfl, one_le _, hw, fun _ => trivial⟩⟩
theorem Opn.bool (hT : P.underlying T = some .bool) (hc : P.cellsOf T = 1) : Opn P Kd.bool T (fun _ => 1) (fun _ => True) (fun _ => True) :=
  ⟨hc, fun h => by
    obtain ⟨n, rfl, rfl⟩ := DataW.trod_bool hT h
    exact ⟨n, rfl, one_le _, trivial, fun _ => trivial⟩⟩
theorem Opn.string (hT : P.underlying T = some .string) (hc : P.cellsOf T = 1) : Opn P Kd.string T (fun s => s.size + 1) (fun s => s.size ≤ maxLen) (fun s => s.size ≤ 140737488351232) :=
  ⟨hc, fun h => by
    obtain ⟨n, rfl, rfl, hw⟩ := DataW.trod_string hT h
    refine ⟨n, rfl, ?_, hw, fun hl => ?_⟩
    · simp only [Rows.uptoBulk, Array.length_toList]
      exact Nat.le_refl _
    · have := hl n.data.toList.length (by simp [DataW.weights])
      simpa using this⟩
theorem Opn.iso {α β : Type} {d : Kd α} {B : α → Nat} {Wf Sz : α → Prop} (f : β → α) (g : α → β) (hfg : ∀ a, f (g a) = a) (h : Opn P d T B Wf Sz) : Opn P (Kd.iso d f) T (fun x => B (f x)) (fun x => Wf (f x)) (fun x => Sz (f x)) :=
  ⟨h.cells, fun ht => by
    obtain ⟨a, ha, hB, hw, hz⟩ := h.open_ ht
    exact ⟨g a, by show d.K _ (f (g a)) _; rw [hfg]; exact ha, by rw [hfg]; exact hB, by rw [hfg]; exact hw, by rw [hfg]; exact hz⟩⟩

/-- Parts, one behind the other, each of its type at its place, from place 'off' on. -/
structure Fields {α : Type} (P : Program) (d : Kd α) (fs : List (TypeId × Nat)) (off : Nat) (B : α → Nat) (Wf Sz : α → Prop) : Prop where
  open_ : ∀ {H : Type} {enc : TypeId × Value → H} {W : World} {base : Nat} {spare : Nat → Bool} {held : Bool} {fuel : Nat} {cs : List Value} {ys : List (DataW H × List MemPlace)},
    ys.length = fs.length → (∀ (i : Nat) (f : TypeId × Nat), fs[i]? = some f → DataW.trod enc P W base spare held fuel f.1 ((cs.drop f.2).take (P.cellsOf f.1)) = ys[i]?) →
    ∃ a, d.K W a ((cs.drop off).take d.sz) ∧ B a ≤ Rows.uptoBulkAll (ys.map (·.1)) ∧ Wf a ∧ ((∀ (i : Nat) (f : TypeId × Nat) (y : DataW H × List MemPlace), fs[i]? = some f → ys[i]? = some y → Light P f.1 y.1) → Sz a)
theorem Fields.one {α : Type} {d : Kd α} {B : α → Nat} {Wf Sz : α → Prop} {t : TypeId} {off : Nat} (h : Opn P d t B Wf Sz) : Fields P d [(t, off)] off B Wf Sz :=
  ⟨fun {H enc W base spare held fuel cs ys} hl hf => by
    match ys, hl with
    | [y], _ =>
      have h0 := hf 0 _ rfl
      rw [h.cells] at h0
      obtain ⟨a, ha, hB, hw, hz⟩ := h.open_ h0
      exact ⟨a, ha, by simp only [List.map_cons, List.map_nil, Rows.uptoBulkAll]; omega, hw, fun hl => hz (hl 0 _ y rfl rfl)⟩⟩
theorem Fields.cons {α β : Type} {d : Kd α} {B : α → Nat} {Wf Sz : α → Prop} {d' : Kd β} {B' : β → Nat} {Wf' Sz' : β → Prop} {t : TypeId} {fs : List (TypeId × Nat)} {off : Nat} (h : Opn P d t B Wf Sz) (h' : Fields P d' fs (off + d.sz) B' Wf' Sz') :
    Fields P (Kd.pair d d') ((t, off) :: fs) off (fun x => B x.1 + B' x.2) (fun x => Wf x.1 ∧ Wf' x.2) (fun x => Sz x.1 ∧ Sz' x.2) :=
  ⟨fun {H enc W base spare held fuel cs ys} hl hf => by
    match ys, hl with
    | y :: ys, hl =>
      have h0 := hf 0 _ rfl
      rw [h.cells] at h0
      obtain ⟨a, ha, hB, hw, hz⟩ := h.open_ h0
      obtain ⟨b, hb, hB', hw', hz'⟩ := h'.open_ (ys := ys) (by simpa using hl) (fun i g hi => by simpa using hf (i + 1) g (by simpa using hi))
      refine ⟨(a, b), ⟨_, _, ?_, ha, hb⟩, by simp only [List.map_cons, Rows.uptoBulkAll]; omega, ⟨hw, hw'⟩, fun hl => ⟨hz (hl 0 _ y rfl rfl), hz' (fun i f z hi hy => hl (i + 1) f z (by simpa using hi) (by simpa using hy))⟩⟩
      show ((cs.drop off).take (d.sz + d'.sz)) = _
      rw [List.take_add, List.drop_drop]⟩
theorem Opn.struct {α : Type} {d : Kd α} {B : α → Nat} {Wf Sz : α → Prop} {fs : Array Field} {l : List (TypeId × Nat)} (hT : P.underlying T = some (.struct fs)) (hc : P.cellsOf T = d.sz) (hl : fs.toList.map (fun f => (f.type, f.offset)) = l) (h : Fields P d l 0 B Wf Sz) : Opn P d T B Wf Sz :=
  ⟨hc, fun {H enc W base spare held fuel cs x} ht => by
    obtain ⟨xs, n, _, rfl, hcl, hlen, hf⟩ := DataW.trod_struct hT ht
    subst hl
    obtain ⟨a, ha, hB, hw, hz⟩ := h.open_ (cs := cs) (ys := xs) (by simpa using hlen) (fun i f hi => by
      rw [List.getElem?_map] at hi
      cases e : fs.toList[i]? with
      | none => rw [e] at hi; cases hi
      | some g =>
        rw [e] at hi
        obtain rfl := Option.some.inj hi
        exact hf i g (by simpa using e))
    rw [List.drop_zero, List.take_of_length_le (by omega)] at ha
    refine ⟨a, ha, by simp only [Rows.uptoBulk]; omega, hw, fun hL => hz (fun i f y hi hy => ?_)⟩
    intro n hn
    rw [List.getElem?_map] at hi
    cases e : fs.toList[i]? with
    | none => rw [e] at hi; cases hi
    | some g =>
      rw [e] at hi
      obtain rfl := Option.some.inj hi
      refine hL n ?_
      simp only [DataW.weights, hT]
      exact DataW.weights_mem_each (j := i) (t := g.type) (d := y.1) (by rw [List.getElem?_map, e]; rfl) (by rw [List.getElem?_map, hy]; rfl) n hn⟩
theorem weights_mem_all {H : Type} {e : TypeId} : ∀ {ds : List (DataW H)} {i : Nat} {d : DataW H}, ds[i]? = some d → ∀ n ∈ d.weights P e, n ∈ DataW.weightsAll P e ds
  | d0 :: ds, 0, d, h, n, hn => by
    obtain rfl : d0 = d := by simpa using h
    simp only [DataW.weightsAll, List.mem_append]
    exact .inl hn
  | d0 :: ds, i + 1, d, h, n, hn => by
    simp only [DataW.weightsAll, List.mem_append]
    exact .inr (weights_mem_all (by simpa using h) n hn)
  | [], i, d, h, _, _ => by simp at h
theorem Opn.array {α : Type} {d : Kd α} {B : α → Nat} {Wf Sz : α → Prop} {n : Nat} {e : TypeId} {l : List (TypeId × Nat)} (hT : P.underlying T = some (.array n e)) (hc : P.cellsOf T = d.sz) (hl : (List.range n).map (fun i => (e, i * P.cellsOf e)) = l) (h : Fields P d l 0 B Wf Sz) : Opn P d T B Wf Sz :=
  ⟨hc, fun {H enc W base spare held fuel cs x} ht => by
    obtain ⟨xs, m, _, rfl, hcl, hlen, hf⟩ := DataW.trod_array hT ht
    subst hl
    have hget : ∀ (i : Nat) (f : TypeId × Nat), ((List.range n).map (fun i => (e, i * P.cellsOf e)))[i]? = some f → i < n ∧ f = (e, i * P.cellsOf e) := by
      intro i f hi
      rw [List.getElem?_map] at hi
      by_cases hin : i < n
      · rw [List.getElem?_range hin] at hi
        exact ⟨hin, (Option.some.inj hi).symm⟩
      · rw [List.getElem?_eq_none (by simpa using hin)] at hi
        cases hi
    obtain ⟨a, ha, hB, hw, hz⟩ := h.open_ (cs := cs) (ys := xs) (by simpa using hlen) (fun i f hi => by
      obtain ⟨hin, rfl⟩ := hget i f hi
      exact hf i hin)
    rw [List.drop_zero, List.take_of_length_le (by omega)] at ha
    refine ⟨a, ha, by simp only [Rows.uptoBulk]; omega, hw, fun hL => hz (fun i f y hi hy => ?_)⟩
    intro k hk
    obtain ⟨hin, rfl⟩ := hget i f hi
    refine hL k ?_
    simp only [DataW.weights, hT]
    exact weights_mem_all (i := i) (by rw [List.getElem?_map, hy]; rfl) k hk⟩

def sumB {α : Type} (B : α → Nat) (xs : List α) : Nat := (xs.map B).sum
theorem sumB_nil {α : Type} (B : α → Nat) : sumB B [] = 0 := rfl
theorem sumB_cons {α : Type} (B : α → Nat) (x : α) (xs : List α) : sumB B (x :: xs) = B x + sumB B xs := by simp [sumB]
theorem sumB_append {α : Type} (B : α → Nat) (xs ys : List α) : sumB B (xs ++ ys) = sumB B xs + sumB B ys := by simp [sumB]
theorem length_le_sumB {α : Type} {B : α → Nat} (hB : ∀ a, 1 ≤ B a) (xs : List α) : xs.length ≤ sumB B xs := by
  induction xs with
  | nil => simp
  | cons x xs ih => rw [sumB_cons]; have := hB x; simp only [List.length_cons]; omega
theorem mem_le_sumB {α : Type} {B : α → Nat} {x : α} {xs : List α} (h : x ∈ xs) : B x ≤ sumB B xs := by
  induction xs with
  | nil => cases h
  | cons y xs ih =>
    rw [sumB_cons]
    rcases List.mem_cons.1 h with rfl | h
    · omega
    · have := ih h; omega
theorem all_map_le {H α : Type} {B : α → Nat} {ys : List (DataW H)} {xs : List α} (hl : xs.length = ys.length) (h : ∀ (i : Nat) (x : α) (y : DataW H), xs[i]? = some x → ys[i]? = some y → B x ≤ Rows.uptoBulk y) : sumB B xs ≤ Rows.uptoBulkAll ys := by
  induction xs generalizing ys with
  | nil => simp [sumB]
  | cons x xs ih =>
    match ys, hl with
    | y :: ys, hl =>
      rw [sumB_cons]
      simp only [Rows.uptoBulkAll]
      have h0 := h 0 x y rfl rfl
      have := ih (ys := ys) (by simpa using hl) (fun i a b ha hb => h (i + 1) a b (by simpa using ha) (by simpa using hb))
      omega
theorem list_of {α : Type} {p : Nat → α → Prop} : ∀ n, (∀ i, i < n → ∃ a, p i a) → ∃ xs : List α, xs.length = n ∧ ∀ i x, xs[i]? = some x → p i x
  | 0, _ => ⟨[], rfl, fun i x h => by simp at h⟩
  | n + 1, h => by
    obtain ⟨xs, hl, hx⟩ := list_of n (fun i hi => h i (by omega))
    obtain ⟨a, ha⟩ := h n (by omega)
    refine ⟨xs ++ [a], by simp [hl], fun i x hi => ?_⟩
    by_cases e : i < n
    · rw [List.getElem?_append_left (by omega)] at hi
      exact hx i x hi
    · rw [List.getElem?_append_right (by omega), hl] at hi
      obtain ⟨e1, e2⟩ : i - n = 0 ∧ a = x := by
        cases hh : i - n with
        | zero => rw [hh] at hi; exact ⟨rfl, by simpa using hi⟩
        | succ m => rw [hh] at hi; simp at hi
      obtain rfl : i = n := by omega
      exact e2 ▸ ha

theorem Opn.slice {α : Type} {d : Kd α} {B : α → Nat} {Wf Sz : α → Prop} {e : TypeId} {by_ : Nat} (hT : P.underlying T = some (.slice e)) (hc : P.cellsOf T = 1) (hby : P.bytesOf e = by_) (h : Opn P d e B Wf Sz) :
    Opn P (Kd.slice e d) T (fun xs => sumB B xs + 1) (fun xs => xs.length ≤ maxLen ∧ ∀ x ∈ xs, Wf x) (fun xs => xs.length * by_ ≤ 140737488351232 ∧ ∀ x ∈ xs, Sz x) :=
  ⟨hc, fun {H enc W base spare held fuel cs x} ht => by
    rcases Go.Deep.open_slice hT ht with ⟨rfl, rfl⟩ | ⟨a, len, cap, m, n, D, Pl, rfl, hb, hl, hm, hmm, rfl, hx⟩
    · exact ⟨[], ⟨none, 0, rfl, Nat.le_refl _, rfl, by simp, fun hn => absurd hn (by simp)⟩, by simp [sumB, Rows.uptoBulk], by simp, by simp⟩
    · have hlm : len ≤ m := by rw [hmm]; split <;> omega
      obtain ⟨xs, hxl, hxs⟩ := list_of (α := α) (p := fun i v => ∃ cs', W.cells? base (a.add (i * P.cellsOf e)) (P.cellsOf e) = some cs' ∧ d.K W v cs' ∧ B v ≤ Rows.uptoBulk (D i) ∧ Wf v ∧ (Light P e (D i) → Sz v)) len (fun i hi => by
        obtain ⟨cs', h1, h2⟩ := hx i (by omega)
        obtain ⟨v, hK, hB, hw, hz⟩ := h.open_ h2
        exact ⟨v, cs', h1, hK, hB, hw, hz⟩)
      refine ⟨xs, ⟨some a, cap, by rw [hxl], by omega, rfl, by rw [hxl]; simp only [maxLen] at hm; omega, fun _ => ⟨a, rfl, fun j p hj => ?_⟩⟩, ?_, ⟨by rw [hxl]; omega, fun v hv => ?_⟩, fun hL => ⟨?_, fun v hv => ?_⟩⟩
      · obtain ⟨cs', h1, hK, _, _⟩ := hxs j p hj
        obtain ⟨_, hlen, hcell⟩ := World.cells?_some h1
        rw [h.cells] at hlen hcell
        refine ⟨cs', hlen, hK, fun i u hu => ?_⟩
        have hil : i < cs'.length := (List.getElem?_eq_some_iff.1 hu).1
        have := hcell i (by omega)
        rw [Go.Deep.add_add a (j * d.sz) i] at this
        rw [this]
        exact hu
      · simp only [Rows.uptoBulk]
        have h1 := all_map_le (B := B) (ys := (List.range len).map D) (xs := xs) (by simp [hxl]) (fun i v y hi hy => by
          obtain ⟨_, _, _, hB, _⟩ := hxs i v hi
          have hil : i < len := by have := (List.getElem?_eq_some_iff.1 hi).1; omega
          rw [List.getElem?_map, List.getElem?_range hil] at hy
          simp only [Option.map_some, Option.some.injEq] at hy
          rw [← hy]; exact hB)
        omega
      · obtain ⟨i, hi⟩ := List.getElem?_of_mem hv
        exact (hxs i v hi).choose_spec.2.2.2.1
      · rw [hxl]
        have h1 := hL ((((List.range len).map D).length + ((List.range (m - len)).map fun j => D (len + j)).length) * P.bytesOf e) (by simp [DataW.weights, hT])
        simp only [List.length_map, List.length_range] at h1
        rw [hby] at h1
        exact Nat.le_trans (Nat.mul_le_mul_right _ (by omega)) h1
      · obtain ⟨i, hi⟩ := List.getElem?_of_mem hv
        refine (hxs i v hi).choose_spec.2.2.2.2 (fun k hk => ?_)
        have hil : i < len := by have := (List.getElem?_eq_some_iff.1 hi).1; omega
        refine hL k ?_
        simp only [DataW.weights, hT, List.mem_cons, List.mem_append]
        exact .inr (.inl (weights_mem_all (i := i) (by rw [List.getElem?_map, List.getElem?_range hil]; rfl) k hk))⟩

/-- A slice that is an argument. -/
theorem open_row {α : Type} {d : Kd α} {B : List α → Nat} {Wf Sz : List α → Prop} {e : TypeId} {H : Type} {enc : TypeId × Value → H} {W : World} {b0 : Nat} {base : Nat} {spare : Nat → Bool} {held : Bool} {r : Reach} {v : Value} {x : DataW H} {p : List MemPlace}
    (h : Opn P (Kd.slice e d) T B Wf Sz) (hT : P.underlying T = some (.slice e)) (hv : Value.okWide P W r b0 T v) (ht : DataW.Trod enc P W base spare held T v x p) :
    ∃ A c xs, v = .slice A xs.length c ∧ xs.length ≤ c ∧ d.C W A xs.length xs ∧ B xs ≤ Rows.uptoBulk x ∧ Wf xs ∧ (Light P T x → Sz xs) := by
  obtain ⟨A, n, c, rfl⟩ := WideShapes.okWide_slice hT hv
  obtain ⟨fuel, hf⟩ := ht
  obtain ⟨xs, ⟨A', c', he, hc, hC⟩, hB, hw, hz⟩ := h.open_ hf
  have he' : [Value.slice A n c] = [Value.slice A' xs.length c'] := he
  simp only [List.cons.injEq, Value.slice.injEq, and_true] at he'
  obtain ⟨rfl, rfl, rfl⟩ := he'
  exact ⟨_, _, xs, rfl, hc, hC, hB, hw, hz⟩
/-- A struct that is an argument. -/
theorem open_struct {α : Type} {d : Kd α} {B : α → Nat} {Wf Sz : α → Prop} {fs : Array Field} {H : Type} {enc : TypeId × Value → H} {W : World} {b0 : Nat} {base : Nat} {spare : Nat → Bool} {held : Bool} {r : Reach} {v : Value} {x : DataW H} {p : List MemPlace}
    (h : Opn P d T B Wf Sz) (hT : P.underlying T = some (.struct fs)) (hv : Value.okWide P W r b0 T v) (ht : DataW.Trod enc P W base spare held T v x p) :
    ∃ cs a, v = .agg cs ∧ d.K W a cs.toList ∧ B a ≤ Rows.uptoBulk x ∧ Wf a ∧ (Light P T x → Sz a) := by
  obtain ⟨cs, rfl, _⟩ := WideShapes.okWide_struct hT hv
  obtain ⟨fuel, hf⟩ := ht
  obtain ⟨a, ha, hB, hw, hz⟩ := h.open_ hf
  exact ⟨cs, a, rfl, ha, hB, hw, hz⟩
/-- A world of one's own making: the input that fits. -/
theorem witness_door {H : Type} {enc : TypeId × Value → H} {C : Checked} {os : Os} {f : FuncId} {fn : Func} {s : OpenSpec} {conds : List PathCond} {apart : Bool} {laid : List (String × DataW Unit)} (modest : Bool) (w0 : World) (args : Array Value) (hos : w0.os = os)
    (hsh : (w0.forCall (fun _ _ => 0) ⟨#[], args, []⟩).Shaped C.prog)
    (hok : Input.okWideB C.prog (w0.forCall (fun _ _ => 0) ⟨#[], args, []⟩) f ⟨#[], args, []⟩ = true)
    (hrow : s.preRow enc C.prog fn conds apart laid (w0.forCall (fun _ _ => 0) ⟨#[], args, []⟩).memory args) :
    ∃ (w : World) (tape : Tape) (i : Input), w.os = os ∧ (w.forCall tape i).Shaped C.prog ∧ i.vars = [] ∧ Input.okWide C.prog (w.forCall tape i) .any w.heap.size f i ∧
      s.preRow enc C.prog fn conds apart laid (w.forCall tape i).memory i.args ∧ ({ modest := modest } : Assume).holds C.prog (lone (Frame.enter C.prog f i.args .normal) [] (w.forCall tape i)) :=
  ⟨w0, fun _ _ => 0, ⟨#[], args, []⟩, hos, hsh, (Input.okWide_of_okWideB (base := 0) hok).1, (Input.okWide_of_okWideB hok).2, hrow, by
    simp only [Assume.holds]
    exact ⟨by simp, by simp, fun _ => Modest.zero, by simp, by simp⟩⟩
/-- An argument's weights. -/
theorem light_of {H : Type} {ts : List TypeId} {ds : List (DataW H)} {j : Nat} {t : TypeId} {d : DataW H} (h : (DataW.weightsEach P ts ds).all (· ≤ reachBytes) = true) (ht : ts[j]? = some t) (hd : ds[j]? = some d) : Light P t d := fun n hn => by
  have : n ≤ reachBytes := by simpa using List.all_eq_true.1 h n (DataW.weights_mem_each ht hd n hn)
  exact this
theorem light_string {H : Type} {ts : List TypeId} {ds : List (DataW H)} {j : Nat} {t : TypeId} {s : ByteArray} (h : (DataW.weightsEach P ts ds).all (· ≤ reachBytes) = true) (ht : ts[j]? = some t) (hd : ds[j]? = some (.lit (.string s.data.toList))) : s.size ≤ 140737488351232 := by
  have := light_of h ht hd s.data.toList.length (by simp [DataW.weights])
  simpa using this
end
end Go.Proofs.Ytkkdpkfachpjeaa.Opens
