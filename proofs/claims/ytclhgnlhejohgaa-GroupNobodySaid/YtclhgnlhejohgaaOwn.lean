/- Rows of structs in an array of the call's own, element by element: kept, read, stored into, appended to, cut, one taken out. -/
import Derived.Test.YtclhgnlhejohgaaRow
import Derived.Test.YtclhgnlhejohgaaKind
import Derived.Deep.DeepAppendRoom
import Derived.Lib.SliceRun
set_option linter.unusedVariables false
set_option linter.unusedSimpArgs false
namespace Go.Proofs.Ytclhgnlhejohgaa.Tc
open Go.RowKit
section
variable {α : Type} {size : Nat} {vals : α → List Value}
theorem fl_len (hv : ∀ x, (vals x).length = size) (l : List α) : (l.flatMap vals).length = l.length * size := by
  induction l with
  | nil => simp
  | cons x l ih => rw [List.flatMap_cons, List.length_append, ih, hv, List.length_cons, Nat.add_mul, Nat.one_mul]; omega
theorem fl_get (hv : ∀ x, (vals x).length = size) (l : List α) (i j : Nat) (hj : j < size) : (l.flatMap vals)[i * size + j]? = (l[i]?).bind fun x => (vals x)[j]? := by
  induction l generalizing i with
  | nil => simp
  | cons x l ih =>
    rw [List.flatMap_cons]
    cases i with
    | zero =>
      rw [Nat.zero_mul, Nat.zero_add, List.getElem?_append_left (by rw [hv]; exact hj)]
      rfl
    | succ i =>
      rw [List.getElem?_append_right (by rw [hv, Nat.add_mul, Nat.one_mul]; omega), hv]
      have : (i + 1) * size + j - size = i * size + j := by rw [Nat.add_mul, Nat.one_mul]; omega
      rw [this, ih i]
      simp
theorem fl_take (hv : ∀ x, (vals x).length = size) (l : List α) (k : Nat) : (l.flatMap vals).take (k * size) = (l.take k).flatMap vals := by
  induction l generalizing k with
  | nil => simp
  | cons x l ih =>
    cases k with
    | zero => simp
    | succ k =>
      rw [List.flatMap_cons, List.take_succ_cons, List.flatMap_cons, ← ih k, List.take_append, hv, List.take_of_length_le (by rw [hv, Nat.add_mul]; omega)]
      congr 2
      rw [Nat.add_mul, Nat.one_mul]; omega
theorem fl_set (hv : ∀ x, (vals x).length = size) (l : List α) (k : Nat) (x y : α) (hk : l[k]? = some x) (j : Nat) (hj : j < size) (u : Value) (hy : vals y = (vals x).set j u) : (l.flatMap vals).set (k * size + j) u = (l.set k y).flatMap vals := by
  induction l generalizing k with
  | nil => simp at hk
  | cons z l ih =>
    cases k with
    | zero =>
      obtain rfl : z = x := by simpa using hk
      rw [List.flatMap_cons, Nat.zero_mul, Nat.zero_add, List.set_append_left _ _ (by rw [hv]; exact hj), List.set_cons_zero, List.flatMap_cons, hy]
    | succ k =>
      rw [List.flatMap_cons, List.set_append_right _ _ (by rw [hv, Nat.add_mul, Nat.one_mul]; omega), hv, List.set_cons_succ, List.flatMap_cons]
      congr 1
      rw [← ih k (by simpa using hk)]
      congr 1
      rw [Nat.add_mul, Nat.one_mul]; omega
variable {w w' : World} {e : TypeId} {v : Value}
/-- The elements' cells. -/
theorem own_elem (hv : ∀ x, (vals x).length = size) {l : List α} (h : w.ownsRow 0 e size v l.length (l.flatMap vals)) {k : Nat} {x : α} (hk : l[k]? = some x) :
    ∃ g c, v = .slice (some ⟨g, 0, none⟩) l.length c ∧ (∀ j, w.frozen? ⟨g, j, none⟩ = false) ∧ ∀ j u, (vals x)[j]? = some u → w.cell? ⟨g, k * size + j, none⟩ = some u := by
  have hlt := (List.getElem?_eq_some_iff.1 hk).1
  obtain ⟨g, c, rfl, hf, hc⟩ := own_cells h (by omega)
  refine ⟨g, c, rfl, hf, fun j u hu => hc _ u ?_⟩
  have hj := (List.getElem?_eq_some_iff.1 hu).1
  rw [hv] at hj
  rw [fl_get hv l k j hj, hk]
  exact hu
theorem own_set (hv : ∀ x, (vals x).length = size) {l : List α} {g c : Nat} (h : w.ownsRow 0 e size (.slice (some ⟨g, 0, none⟩) l.length c) l.length (l.flatMap vals)) {k : Nat} {x y : α} (hk : l[k]? = some x) (j : Nat) (hj : j < size) (u : Value)
    (hy : vals y = (vals x).set j u) : (w.setCell ⟨g, k * size + j, none⟩ u).ownsRow 0 e size (.slice (some ⟨g, 0, none⟩) l.length c) l.length ((l.set k y).flatMap vals) ∧ w.grownBy (w.setCell ⟨g, k * size + j, none⟩ u) (some g) := by
  have hs := h.stored (k * size + j) u
  rw [fl_set hv l k x y hk j hj u hy] at hs
  exact hs
/-- The first k of a row. -/
theorem own_take {l : List Value} {g n c k : Nat} (h : w.ownsRow 0 e size (.slice (some ⟨g, 0, none⟩) n c) n l) (hk : k ≤ n) : w.ownsRow 0 e size (.slice (some ⟨g, 0, none⟩) k c) k (l.take (k * size)) := by
  have hlen := h.1
  refine ⟨by rw [List.length_take, hlen]; exact Nat.min_eq_left (Nat.mul_le_mul_right _ hk), .inr ?_⟩
  rcases h.2 with ⟨h0, _⟩ | ⟨g', cap, cur, hv, hb, hh, h1, h2, h3, h4⟩
  · cases h0
  · injection hv with hv1 hv2 hv3
    injection hv1 with hv1
    injection hv1 with hv1
    subst hv1
    subst hv3
    refine ⟨g, c, cur, rfl, hb, hh, by omega, h2, h3, ?_⟩
    rw [← h4, List.take_take, Nat.min_eq_left (Nat.mul_le_mul_right size hk)]
end
end Go.Proofs.Ytclhgnlhejohgaa.Tc
