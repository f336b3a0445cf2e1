/- How a datum of a plain type (integers, bools, strings, slices and structs of these) reads as a Lean value: opened out of the row's reading; over any program. -/
import Derived.WalkKit
import Derived.ProofKit
import Derived.Deep.Slices
set_option linter.unusedVariables false
set_option linter.unusedSimpArgs false
namespace Go.Proofs.Ytclhgnlhejohgaa.Tc
open Go.RowKit Go.WideShapes

/-- The blocks that were there are as they were. -/
def Same (w w' : World) : Prop := ∀ k, k < w.heap.size → w'.heap[k]? = w.heap[k]?
theorem Same.cell {w w' : World} (h : Same w w') {a : Addr} {v : Value} (hc : w.cell? a = some v) : w'.cell? a = some v :=
  (World.cell?_of_block (h a.block (World.block_lt_of_cell? w a hc))).trans hc
theorem Same.of_below {w w' : World} (h : Below w.heap.size w w') : Same w w' := h.block

/-- A type's kind: how its cells read. -/
structure Kd (P : Program) (t : TypeId) (α : Type) where
  rel : World → α → List Value → Prop
  size : ∀ {w a cs}, rel w a cs → cs.length = P.cellsOf t
  same : ∀ {w w' : World} {a cs}, Same w w' → rel w a cs → rel w' a cs
  opens : ∀ {H : Type} {enc : TypeId × Value → H} {w : World} {base : Nat} {sp : Nat → Bool} {held : Bool} {fuel : Nat} {cs : List Value} {x : DataW H × List MemPlace},
    DataW.trod enc P w base sp held fuel t cs = some x → ∃ a, rel w a cs

section
variable {P : Program} {t e : TypeId} {α β : Type}

noncomputable def kInt {k : IntKind} (ht : P.underlying t = some (.int k)) (hc : P.cellsOf t = 1) : Kd P t Int where
  rel _ n cs := cs = [.int k n] ∧ (Lit.int k n).wf = true
  size h := by rw [h.1, hc]; rfl
  same _ h := h
  opens h := by
    obtain ⟨n, rfl, _, hw⟩ := DataW.trod_int ht h
    exact ⟨n, rfl, hw⟩
noncomputable def kBool (ht : P.underlying t = some .bool) (hc : P.cellsOf t = 1) : Kd P t Bool where
  rel _ b cs := cs = [.bool b]
  size h := by rw [h, hc]; rfl
  same _ h := h
  opens h := by
    obtain ⟨b, rfl, _⟩ := DataW.trod_bool ht h
    exact ⟨b, rfl⟩
noncomputable def kStr (ht : P.underlying t = some .string) (hc : P.cellsOf t = 1) : Kd P t ByteArray where
  rel _ s cs := cs = [.string s] ∧ s.size ≤ maxLen
  size h := by rw [h.1, hc]; rfl
  same _ h := h
  opens h := by
    obtain ⟨s, rfl, _, hs⟩ := DataW.trod_string ht h
    exact ⟨s, rfl, hs⟩

/-- What a slice's elements read as. -/
structure SliceIs (d : Kd P e α) (w : World) (A : Option Addr) (xs : List α) : Prop where
  len : xs.length ≤ maxLen
  at_ : 0 < xs.length → ∃ b off, A = some ⟨b, off, none⟩ ∧ b < w.heap.size ∧ ∀ i x, xs[i]? = some x → ∃ cs, d.rel w x cs ∧ ∀ j u, cs[j]? = some u → w.cell? ⟨b, off + i * P.cellsOf e + j, none⟩ = some u
theorem SliceIs.same {d : Kd P e α} {w w' : World} {A : Option Addr} {xs : List α} (h : SliceIs d w A xs) (hs : Same w w') (hz : w.heap.size ≤ w'.heap.size) : SliceIs d w' A xs :=
  ⟨h.len, fun hn => by
    obtain ⟨b, off, hA, hb, hc⟩ := h.at_ hn
    refine ⟨b, off, hA, by omega, fun i x hx => ?_⟩
    obtain ⟨cs, h1, h2⟩ := hc i x hx
    exact ⟨cs, d.same hs h1, fun j u hu => hs.cell (h2 j u hu)⟩⟩
theorem SliceIs.below {d : Kd P e α} {w w' : World} {A : Option Addr} {xs : List α} (h : SliceIs d w A xs) (hb : Below w.heap.size w w') : SliceIs d w' A xs := h.same hb.block hb.size
theorem SliceIs.nil (d : Kd P e α) (w : World) (A : Option Addr) : SliceIs d w A [] := ⟨Nat.zero_le _, fun h => absurd h (by simp)⟩

theorem spot_none {w : World} {a : Addr} {v : Value} (h : w.cell? a = some v) : a = ⟨a.block, a.off, none⟩ := by
  rcases a with ⟨b, o, s⟩
  cases s with
  | none => rfl
  | some s =>
    unfold World.cell? at h
    split at h
    · simp at h
    · cases h
theorem add_plain (b o n : Nat) : (⟨b, o, none⟩ : Addr).add n = ⟨b, o + n, none⟩ := by unfold Addr.add; split <;> simp_all

theorem slice_opens (ht : P.underlying t = some (.slice e)) (hp : 0 < P.cellsOf e) (d : Kd P e α) {H : Type} {enc : TypeId × Value → H} {w : World} {base : Nat} {sp : Nat → Bool} {held : Bool} {fuel : Nat} {cs : List Value} {x : DataW H × List MemPlace}
    (h : DataW.trod enc P w base sp held fuel t cs = some x) : ∃ A c, ∃ xs : List α, cs = [.slice A xs.length c] ∧ SliceIs d w A xs := by
  rcases Deep.open_slice ht h with ⟨rfl, _⟩ | ⟨a, len, cap, m, n, D, Pl, rfl, _, hl, hm, hmm, _, hel⟩
  · exact ⟨none, 0, [], rfl, SliceIs.nil d w none⟩
  · have hlm : len ≤ m := by rw [hmm]; split <;> omega
    have hx : ∀ i, i < len → ∃ y : α, ∃ cs', d.rel w y cs' ∧ w.cells? base (a.add (i * P.cellsOf e)) (P.cellsOf e) = some cs' := by
      intro i hi
      obtain ⟨cs', h1, h2⟩ := hel i (by omega)
      obtain ⟨y, hy⟩ := d.opens h2
      exact ⟨y, cs', hy, h1⟩
    have hlist : ∀ m, m ≤ len → ∃ xs : List α, xs.length = m ∧ ∀ i y, xs[i]? = some y → ∃ cs', d.rel w y cs' ∧ w.cells? base (a.add (i * P.cellsOf e)) (P.cellsOf e) = some cs' := by
      intro m
      induction m with
      | zero => intro _; exact ⟨[], rfl, by simp⟩
      | succ m ih =>
        intro hm'
        obtain ⟨xs, hxl, hxs⟩ := ih (by omega)
        obtain ⟨y, hy⟩ := hx m (by omega)
        refine ⟨xs ++ [y], by simp [hxl], fun i z hz => ?_⟩
        rcases Nat.lt_or_ge i m with hi | hi
        · rw [List.getElem?_append_left (by omega)] at hz
          exact hxs i z hz
        · rw [List.getElem?_append_right (by omega)] at hz
          by_cases hi' : i = m
          · subst hi'
            rw [hxl] at hz
            simp at hz
            rw [← hz]
            exact hy
          · rw [List.getElem?_eq_none (by simp; omega)] at hz
            cases hz
    obtain ⟨xs, hxl, hxs⟩ := hlist len (Nat.le_refl _)
    subst hxl
    refine ⟨some a, cap, xs, rfl, by omega, fun hn => ?_⟩
    obtain ⟨y0, hy0⟩ : ∃ y, xs[0]? = some y := ⟨xs[0], List.getElem?_eq_getElem hn⟩
    obtain ⟨cs0, h0, hc0⟩ := hxs 0 y0 hy0
    obtain ⟨_, hl0, hcell0⟩ := World.cells?_some hc0
    have e0 : a.add (0 * P.cellsOf e) = a := by simp [Addr.add]
    rw [e0] at hcell0
    have hz : w.cell? a = some (cs0[0]'(by omega)) := by
      have := hcell0 0 hp
      rw [List.getElem?_eq_getElem (by omega)] at this
      simpa [Addr.add] using this
    have ha := spot_none hz
    have hblk := World.block_lt_of_cell? w a hz
    refine ⟨a.block, a.off, congrArg some ha, hblk, fun i y hy => ?_⟩
    obtain ⟨cs', h1, h2⟩ := hxs i y hy
    obtain ⟨_, hl', hcell'⟩ := World.cells?_some h2
    refine ⟨cs', h1, fun j u hu => ?_⟩
    have hj : j < cs'.length := by
      rcases Nat.lt_or_ge j cs'.length with h | h
      · exact h
      · rw [List.getElem?_eq_none h] at hu; cases hu
    have := hcell' j (by omega)
    rw [ha, add_plain, add_plain, hu] at this
    exact this

noncomputable def kSlice (ht : P.underlying t = some (.slice e)) (hc : P.cellsOf t = 1) (hp : 0 < P.cellsOf e) (d : Kd P e α) : Kd P t (List α) where
  rel w xs cs := ∃ A c, cs = [.slice A xs.length c] ∧ SliceIs d w A xs ∧ (0 < xs.length → ∃ a, A = some a ∧ a.block < w.heap.size)
  size h := by obtain ⟨A, c, rfl, _⟩ := h; rw [hc]; rfl
  same := by
    rintro w w' xs cs hs ⟨A, c, rfl, h, hA⟩
    have hz : 0 < xs.length → w.heap.size ≤ w'.heap.size ∨ True := fun _ => .inr trivial
    refine ⟨A, c, rfl, ⟨h.len, fun hn => ?_⟩, fun hn => ?_⟩
    · obtain ⟨b, off, hA', hb, hcell⟩ := h.at_ hn
      refine ⟨b, off, hA', ?_, fun i x hx => ?_⟩
      · have := hs b hb
        rw [Array.getElem?_eq_getElem hb] at this
        exact (Array.getElem?_eq_some_iff.1 this).1
      · obtain ⟨cs, h1, h2⟩ := hcell i x hx
        exact ⟨cs, d.same hs h1, fun j u hu => hs.cell (h2 j u hu)⟩
    · obtain ⟨a, rfl, ha⟩ := hA hn
      refine ⟨a, rfl, ?_⟩
      have := hs a.block ha
      rw [Array.getElem?_eq_getElem ha] at this
      exact (Array.getElem?_eq_some_iff.1 this).1
  opens h := by
    obtain ⟨A, c, xs, rfl, hx⟩ := slice_opens ht hp d h
    refine ⟨xs, A, c, rfl, hx, fun hn => ?_⟩
    obtain ⟨b, off, rfl, hb, _⟩ := hx.at_ hn
    exact ⟨_, rfl, hb⟩

/-- Fields that stand one behind the other, from a cell on. -/
structure Fk (P : Program) (fs : List Field) (off : Nat) (α : Type) where
  rel : World → α → List Value → Prop
  tot : Nat
  size : ∀ {w a cs}, rel w a cs → cs.length = tot
  same : ∀ {w w' : World} {a cs}, Same w w' → rel w a cs → rel w' a cs
  opens : ∀ {H : Type} {enc : TypeId × Value → H} {w : World} {base : Nat} {sp : Nat → Bool} {held : Bool} {fuel : Nat} {cs : List Value}, cs.length = off + tot →
    (∀ (i : Nat) (f : Field), fs[i]? = some f → ∃ x, DataW.trod enc P w base sp held fuel f.type ((cs.drop f.offset).take (P.cellsOf f.type)) = some x) → ∃ a, rel w a (cs.drop off)

noncomputable def fOne {f : Field} {off : Nat} (ho : f.offset = off) (d : Kd P f.type α) : Fk P [f] off α where
  rel := d.rel
  tot := P.cellsOf f.type
  size := d.size
  same := d.same
  opens {H enc w base sp held fuel cs} hl h := by
    obtain ⟨x, hx⟩ := h 0 f rfl
    rw [ho, List.take_of_length_le (by rw [List.length_drop]; omega)] at hx
    exact d.opens hx
noncomputable def fCons {f : Field} {fs : List Field} {off : Nat} (ho : f.offset = off) (d : Kd P f.type α) (r : Fk P fs (off + P.cellsOf f.type) β) : Fk P (f :: fs) off (α × β) where
  rel w a cs := ∃ c0 c1, cs = c0 ++ c1 ∧ d.rel w a.1 c0 ∧ r.rel w a.2 c1
  tot := P.cellsOf f.type + r.tot
  size h := by obtain ⟨c0, c1, rfl, h0, h1⟩ := h; rw [List.length_append, d.size h0, r.size h1]
  same hs h := by obtain ⟨c0, c1, rfl, h0, h1⟩ := h; exact ⟨c0, c1, rfl, d.same hs h0, r.same hs h1⟩
  opens {H enc w base sp held fuel cs} hl h := by
    obtain ⟨x, hx⟩ := h 0 f rfl
    obtain ⟨a, ha⟩ := d.opens hx
    obtain ⟨b, hb⟩ := r.opens (by omega) (fun i g hg => h (i + 1) g (by simpa using hg))
    refine ⟨(a, b), _, _, ?_, ha, hb⟩
    rw [ho, ← List.drop_drop, List.take_append_drop]

/-- A struct, by a list of its fields' kinds. -/
noncomputable def kStruct {fs : Array Field} {l : List Field} (ht : P.underlying t = some (.struct fs)) (hl : fs.toList = l) (r : Fk P l 0 α) (hc : P.cellsOf t = r.tot) : Kd P t α where
  rel := r.rel
  size h := by rw [r.size h, hc]
  same := r.same
  opens h := by
    obtain ⟨xs, n, _, _, hlen, hxl, hf⟩ := DataW.trod_struct ht h
    obtain ⟨a, ha⟩ := r.opens (by rw [hlen, hc]; simp) (fun i f hi => by
      subst hl
      have hi' : fs[i]? = some f := by simpa using hi
      have := hf i f hi'
      have hlt : i < xs.length := by
        rw [hxl]
        exact (Array.getElem?_eq_some_iff.1 hi').1
      rw [List.getElem?_eq_getElem hlt] at this
      exact ⟨_, this⟩)
    exact ⟨a, by simpa using ha⟩
/-- The same datum under other names. -/
noncomputable def kMap (d : Kd P t α) (f : α → β) (g : β → α) (h : ∀ a, g (f a) = a) : Kd P t β where
  rel w b cs := d.rel w (g b) cs
  size := d.size
  same := d.same
  opens hx := by
    obtain ⟨a, ha⟩ := d.opens hx
    exact ⟨f a, by rw [h]; exact ha⟩
theorem SliceIs.same' {d : Kd P e α} {w w' : World} {A : Option Addr} {xs : List α} (h : SliceIs d w A xs) (hs : Same w w') : SliceIs d w' A xs :=
  ⟨h.len, fun hn => by
    obtain ⟨b, off, hA, hb, hc⟩ := h.at_ hn
    refine ⟨b, off, hA, ?_, fun i x hx => ?_⟩
    · have := hs b hb
      rw [Array.getElem?_eq_getElem hb] at this
      exact (Array.getElem?_eq_some_iff.1 this).1
    · obtain ⟨cs, h1, h2⟩ := hc i x hx
      exact ⟨cs, d.same hs h1, fun j u hu => hs.cell (h2 j u hu)⟩⟩
/-- A slice with its head: where it lies, its capacity, its elements. -/
noncomputable def kHdr (ht : P.underlying t = some (.slice e)) (hc : P.cellsOf t = 1) (hp : 0 < P.cellsOf e) (d : Kd P e α) : Kd P t (Option Addr × Nat × List α) where
  rel w x cs := cs = [.slice x.1 x.2.2.length x.2.1] ∧ SliceIs d w x.1 x.2.2
  size h := by rw [h.1, hc]; rfl
  same hs h := ⟨h.1, h.2.same' hs⟩
  opens h := by
    obtain ⟨A, c, xs, rfl, hx⟩ := slice_opens ht hp d h
    exact ⟨(A, c, xs), rfl, hx⟩
end
end Go.Proofs.Ytclhgnlhejohgaa.Tc
