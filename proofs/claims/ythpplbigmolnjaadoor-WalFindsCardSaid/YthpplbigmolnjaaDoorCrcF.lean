/- CrcFinds: its walk. -/
import Derived.Test.YthpplbigmolnjaaDoorCrcW
import Derived.Laws.BytesArg
import Derived.StillTailTactics
import Derived.OpenShut
set_option linter.unusedVariables false
set_option linter.unusedSimpArgs false
namespace Go.Proofs.YthpplbigmolnjaaDoor.CrcW
open Go.RowKit

/-- A row of bytes that may be written. -/
def BytesAt (w : World) (b : Nat) (l : List UInt8) : Prop := ∀ j (h : j < l.length), w.cell? ⟨b, j, none⟩ = some (.int .u8 (l[j].toNat : Int)) ∧ w.frozen? ⟨b, j, none⟩ = false
theorem bytesAt_world (w : World) (s : ByteArray) : BytesAt (Lib.bytesWorld w 5 s) w.heap.size s.data.toList := by
  intro j h
  have hj : j < s.size := by simpa using h
  have hl : s.data.toList.length = s.size := by simp
  refine ⟨?_, ?_⟩
  · rw [Lib.bytesWorld_cell w 5 s j hj, data_getD s j hj]
  · have hb := Lib.bytesWorld_at_new w 5 s
    have hz : s.size ≤ (Lib.bytesCells w 5 s).size := by simp [Lib.bytesCells]
    unfold World.frozen?
    rw [hb]
    simp
    omega
theorem cell_set (w : World) (b j i : Nat) (v : Value) {x : Value} (h : w.cell? ⟨b, j, none⟩ = some x) : (w.setCell ⟨b, i, none⟩ v).cell? ⟨b, j, none⟩ = if i = j then some v else some x := by
  unfold World.cell? at h ⊢
  simp only [World.setCell]
  rw [Array.getElem?_modify]
  simp only [if_true]
  cases hb : w.heap[b]? with
  | none => simp [hb] at h
  | some o =>
    cases o <;> simp [hb] at h ⊢
    rename_i c e f
    rw [Array.getElem?_setIfInBounds]
    have hlt : j < c.size := (Array.getElem?_eq_some_iff.1 h).1
    split
    · rename_i e'; subst e'; simp [hlt]
    · exact h
theorem frozen_set (w : World) (b j i : Nat) (v : Value) : (w.setCell ⟨b, i, none⟩ v).frozen? ⟨b, j, none⟩ = w.frozen? ⟨b, j, none⟩ := World.frozen?_setCell _ _ _ _
theorem BytesAt.set {w : World} {b : Nat} {l : List UInt8} (h : BytesAt w b l) (i : Nat) (x : UInt8) : BytesAt (w.setCell ⟨b, i, none⟩ (.int .u8 (x.toNat : Int))) b (l.set i x) := by
  intro j hj
  have hj' : j < l.length := by simpa using hj
  obtain ⟨h1, h2⟩ := h j hj'
  refine ⟨?_, by rw [frozen_set, h2]⟩
  rw [cell_set w b j i _ h1]
  by_cases e : i = j
  · subst e
    rw [if_pos rfl]
    simp
  · rw [if_neg e]
    rw [List.getElem_set_ne (by omega)]
theorem BytesAt.drew {w : World} {b : Nat} {l : List UInt8} (h : BytesAt w b l) : BytesAt w.drew b l := h

def eb (bits : Int) (i : Nat) : UInt8 := UInt8.ofNat (bits.toNat / 2 ^ (8 * i) % 256)
theorem eb_toNat (bits : Int) (h : 0 ≤ bits) (i : Nat) : ((eb bits i).toNat : Int) = bits / ((2 : Int) ^ (8 * i)) % 256 := by
  unfold eb
  rw [UInt8.toNat_ofNat']
  obtain ⟨n, rfl⟩ := Int.eq_ofNat_of_zero_le h
  simp only [Int.toNat_natCast]
  have e : n / 2 ^ (8 * i) % 256 % 2 ^ 8 = n / 2 ^ (8 * i) % 256 := Nat.mod_mod _ _
  rw [e, Int.natCast_emod, Int.natCast_ediv, Int.natCast_pow]
  rfl
theorem eb_zero {bits : Int} (h0 : 0 ≤ bits) (h1 : bits < 4294967296) (h : eb bits 0 = 0 ∧ eb bits 1 = 0 ∧ eb bits 2 = 0 ∧ eb bits 3 = 0) : bits = 0 := by
  have e := fun i (hi : eb bits i = 0) => by
    have := eb_toNat bits h0 i
    rw [hi] at this
    exact this
  have e0 := e 0 h.1
  have e1 := e 1 h.2.1
  have e2 := e 2 h.2.2.1
  have e3 := e 3 h.2.2.2
  simp at e0 e1 e2 e3
  omega
/-- The bytes behind so many rounds. -/
def flips (l : List UInt8) (k : Nat) (bits : Int) : Nat → List UInt8
  | 0 => l
  | i + 1 => (flips l k bits i).set (k + i) (l.getD (k + i) 0 ^^^ eb bits i)
theorem flips_length (l : List UInt8) (k : Nat) (bits : Int) (i : Nat) : (flips l k bits i).length = l.length := by
  induction i with
  | zero => rfl
  | succ i ih => simp [flips, ih]
theorem flips_get (l : List UInt8) (k : Nat) (bits : Int) (i j : Nat) (hj : k + i ≤ j) : (flips l k bits i)[j]? = l[j]? := by
  induction i with
  | zero => rfl
  | succ i ih =>
    unfold flips
    rw [List.getElem?_set_ne (by omega), ih (by omega)]
theorem flips_four (l : List UInt8) (k : Nat) (bits : Int) (h : k + 4 ≤ l.length) :
    flips l k bits 4 = l.take k ++ [l.getD k 0 ^^^ eb bits 0, l.getD (k + 1) 0 ^^^ eb bits 1, l.getD (k + 2) 0 ^^^ eb bits 2, l.getD (k + 3) 0 ^^^ eb bits 3] ++ l.drop (k + 4) := by
  apply List.ext_getElem?
  intro j
  simp only [flips, List.getElem?_set, List.length_set]
  by_cases h1 : j < k
  · rw [List.append_assoc, List.getElem?_append_left (by simp; omega), List.getElem?_take_of_lt h1]
    rw [if_neg (by omega), if_neg (by omega), if_neg (by omega), if_neg (by omega)]
  · rw [List.append_assoc, List.getElem?_append_right (by simp; omega)]
    have hk : (l.take k).length = k := by simp; omega
    rw [hk]
    by_cases h2 : j < k + 4
    · have : j = k ∨ j = k + 1 ∨ j = k + 2 ∨ j = k + 3 := by omega
      rcases this with rfl | rfl | rfl | rfl
      · simp; omega
      · simp; omega
      · simp; omega
      · simp; omega
    · rw [if_neg (by omega), if_neg (by omega), if_neg (by omega), if_neg (by omega)]
      rw [List.getElem?_append_right (by simp; omega), List.getElem?_drop]
      congr 1
      simp
      omega
theorem getD_some {l : List UInt8} {i : Nat} (h : i < l.length) : l[i]? = some (l.getD i 0) := by
  rw [List.getD_eq_getElem?_getD, List.getElem?_eq_getElem h, Option.getD_some]
theorem four_of (l : List UInt8) (k : Nat) (h : k + 4 ≤ l.length) : l = l.take k ++ [l.getD k 0, l.getD (k + 1) 0, l.getD (k + 2) 0, l.getD (k + 3) 0] ++ l.drop (k + 4) := by
  apply List.ext_getElem?
  intro j
  by_cases h1 : j < k
  · rw [List.append_assoc, List.getElem?_append_left (by simp; omega), List.getElem?_take_of_lt h1]
  · rw [List.append_assoc, List.getElem?_append_right (by simp; omega)]
    have hk : (l.take k).length = k := by simp; omega
    rw [hk]
    by_cases h2 : j < k + 4
    · have : j = k ∨ j = k + 1 ∨ j = k + 2 ∨ j = k + 3 := by omega
      rcases this with rfl | rfl | rfl | rfl
      · rw [getD_some (by omega), Nat.sub_self]; rfl
      · rw [getD_some (by omega), Nat.add_sub_cancel_left]; rfl
      · rw [getD_some (by omega), Nat.add_sub_cancel_left]; rfl
      · rw [getD_some (by omega), Nat.add_sub_cancel_left]; rfl
    · rw [List.getElem?_append_right (by simp; omega), List.getElem?_drop]
      congr 1
      simp
      omega
theorem finds_pure (l : List UInt8) (k : Nat) (bits : Int) (h : k + 4 ≤ l.length) (h0 : 0 ≤ bits) (h1 : bits < 4294967296) (hne : bits ≠ 0) : Crc.sum (flips l k bits 4) ≠ Crc.sum l := by
  rw [flips_four l k bits h]
  conv => rhs; rw [four_of l k h]
  exact Crc.sum_ne (fun hz => hne (eb_zero h0 h1 hz))

end Go.Proofs.YthpplbigmolnjaaDoor.CrcW
