/- What the functions of pick, and of its reference, come to. -/
import Derived.Test.YtclhgnlhejohgaaPickNum
import Derived.Test.YtclhgnlhejohgaaCls
import Derived.Test.YtclhgnlhejohgaaStr
import Derived.Handy
set_option linter.unusedVariables false
set_option linter.unusedSimpArgs false
namespace Go.Proofs.Ytclhgnlhejohgaa.PickW
open Go.RowKit Go.Proofs.Ytclhgnlhejohgaa.Tc Go.Proofs.Ytclhgnlhejohgaa.PickP

noncomputable def kI : Kd Try.prog 3 Int := kInt Try.underlying3 (by kernel_rfl)
noncomputable def kS : Kd Try.prog 9 ByteArray := kStr Try.underlying9 (by kernel_rfl)
theorem cells9 : Try.prog.cellsOf 9 = 1 := by kernel_rfl
theorem cells3 : Try.prog.cellsOf 3 = 1 := by kernel_rfl
theorem str_cell {w : World} {A : Option Addr} {l : List ByteArray} (h : SliceIs kS w A l) {k : Nat} (hk : k < l.length) :
    ∃ b off, A = some ⟨b, off, none⟩ ∧ w.cell? ⟨b, off + k, none⟩ = some (.string (l.getD k ByteArray.empty)) ∧ (l.getD k ByteArray.empty).size ≤ maxLen := by
  obtain ⟨b, off, hA, hb, hc⟩ := h.at_ (by omega)
  obtain ⟨cs, ⟨rfl, hs⟩, hcell⟩ := hc k l[k] (List.getElem?_eq_getElem hk)
  have := hcell 0 _ rfl
  rw [cells9, Nat.mul_one, Nat.add_zero] at this
  have e : l.getD k ByteArray.empty = l[k] := by simp [hk]
  rw [e]
  exact ⟨b, off, hA, this, hs⟩
theorem int_cell {w : World} {A : Option Addr} {l : List Int} (h : SliceIs kI w A l) {k : Nat} (hk : k < l.length) :
    ∃ b off, A = some ⟨b, off, none⟩ ∧ w.cell? ⟨b, off + k, none⟩ = some (.int .i64 (l.getD k 0)) := by
  obtain ⟨b, off, hA, hb, hc⟩ := h.at_ (by omega)
  obtain ⟨cs, ⟨rfl, hs⟩, hcell⟩ := hc k l[k] (List.getElem?_eq_getElem hk)
  have := hcell 0 _ rfl
  rw [cells3, Nat.mul_one, Nat.add_zero] at this
  have e : l.getD k 0 = l[k] := by simp [hk]
  rw [e]
  exact ⟨b, off, hA, this⟩

/-- Are the texts few, of few bytes? -/
def Few (l : List ByteArray) : Prop := l.length ≤ 20 ∧ ∀ k, k < l.length → (l.getD k ByteArray.empty).size ≤ 100
def FewPost (l : List ByteArray) (e : Ending) : Prop := ∃ b, e = .returned (.bool b) ∧ (b = true → Few l)
theorem FewPost.of {l : List ByteArray} {b : Bool} (h : b = true → Few l) : FewPost l (.returned (.bool b)) := ⟨b, rfl, h⟩
set_option maxHeartbeats 1000000 in
theorem few_any (w : World) (A : Option Addr) (cap : Nat) (l : List ByteArray) (hS : SliceIs kS w A l) :
    Calls Try.prog 22 #[.slice A l.length cap] w fun e w' => FewPost l e ∧ w = w' := by
  have hlen := hS.len
  unfold maxLen at hlen
  have HS := Lib.hid hS
  clear hS
  go_enter Try.func22, Try.ntmps22
  go_wp2
  go_loop [3] (fun x => ∃ k : Nat, k ≤ l.length ∧ k ≤ 20 ∧ (∀ j, j < l.length → j < k → (l.getD j ByteArray.empty).size ≤ 100) ∧ x = .int .i64 k) (fun x => l.length - (intOf x).toNat)
  case atStart => exact ⟨0, by omega, by omega, by intro j _ h; omega, rfl⟩
  case round =>
    obtain ⟨k, hk, hk40, hn, rfl⟩ := hrel
    have HN := Lib.hid hn
    clear hn
    by_cases hlt : k < l.length
    · by_cases h40 : k < 20
      · obtain ⟨b, off, rfl, c0, -⟩ := str_cell HS.out hlt
        generalize hz : l.getD k ByteArray.empty = z at c0
        have HZ := Lib.hid hz
        clear hz
        by_cases hs : z.size ≤ 100
        · go_wp2
          go_round
          case rel =>
            refine ⟨k + 1, by omega, by omega, ?_, by go_num⟩
            intro j hj hjk
            by_cases e : j = k
            · subst e; rw [HZ.out]; exact hs
            · exact HN.out j hj (by omega)
          case measure => simp [intOf]; omega
        · go_wp2
          go_ret
          exact ⟨FewPost.of (b := false) (fun h => absurd h (by decide)), rfl⟩
      · have h41 : ¬ l.length ≤ 20 := by omega
        go_wp2
        go_ret
        exact ⟨FewPost.of (b := decide ((l.length : Int) ≤ 20)) (fun h => absurd (of_decide_eq_true h) (by omega)), rfl⟩
    · obtain rfl : k = l.length := by omega
      go_wp2
      go_ret
      exact ⟨FewPost.of (b := decide ((l.length : Int) ≤ 20)) (fun _ => ⟨hk40, fun j hj => HN.out j hj hj⟩), rfl⟩

/-- Where a text is; -1: nowhere. -/
def idx (l : List ByteArray) (s : ByteArray) : Int := match l.findIdx? (fun x => decide (x = s)) with | some i => i | none => -1
theorem idx_at {l : List ByteArray} {s : ByteArray} {i : Nat} (hi : i < l.length) (h : l.getD i ByteArray.empty = s) (h0 : ∀ j, j < i → l.getD j ByteArray.empty ≠ s) : idx l s = i := by
  have := from_some hi h h0
  unfold from_ at this
  unfold idx
  cases hf : l.findIdx? (fun x => decide (x = s)) with
  | none => rw [hf] at this; simp at this
  | some j => rw [hf] at this; simp at this; simp [this]
theorem idx_not {l : List ByteArray} {s : ByteArray} (h0 : ∀ j, j < l.length → l.getD j ByteArray.empty ≠ s) : idx l s = -1 := by
  have := from_none h0
  unfold from_ at this
  unfold idx
  cases hf : l.findIdx? (fun x => decide (x = s)) with
  | none => rfl
  | some j => rw [hf] at this; simp at this
theorem idx_from (l : List ByteArray) (s : ByteArray) : idx l s + 1 = (from_ l s : Int) := by
  unfold idx from_
  cases l.findIdx? (fun x => decide (x = s)) <;> simp
theorem idx_bd (l : List ByteArray) (s : ByteArray) : -1 ≤ idx l s ∧ idx l s < l.length := by
  have := from_le l s
  have := idx_from l s
  omega
theorem idx_has (l : List ByteArray) (s : ByteArray) : decide (0 ≤ idx l s) = has l s := by
  unfold idx has
  rw [Bool.eq_iff_iff, decide_eq_true_iff]
  cases hf : l.findIdx? (fun x => decide (x = s)) with
  | none =>
    rw [List.findIdx?_eq_none_iff] at hf
    simp only [List.any_eq_true]
    constructor
    · intro h; exact absurd h (by decide)
    · rintro ⟨x, hx, h⟩; rw [hf x hx] at h; cases h
  | some i =>
    obtain ⟨hi, h1, _⟩ := List.findIdx?_eq_some_iff_getElem.1 hf
    simp only [List.any_eq_true]
    exact ⟨fun _ => ⟨_, List.getElem_mem hi, h1⟩, fun _ => by omega⟩
set_option maxHeartbeats 1000000 in
theorem index_any (w : World) (A : Option Addr) (cap : Nat) (l : List ByteArray) (hS : SliceIs kS w A l) (s : ByteArray) :
    Calls Try.prog 75 #[.slice A l.length cap, .string s] w fun e w' => e = .returned (.int .i64 (idx l s)) ∧ w = w' := by
  have hlen := hS.len
  unfold maxLen at hlen
  have HS := Lib.hid hS
  clear hS
  go_enter Try.func75, Try.ntmps75
  go_wp2
  go_loop [8] (fun x => ∃ k : Nat, k ≤ l.length ∧ (∀ j, j < k → l.getD j ByteArray.empty ≠ s) ∧ x = .int .i64 k) (fun x => l.length - (intOf x).toNat)
  case atStart => exact ⟨0, by omega, by intro j h; omega, rfl⟩
  case round =>
    obtain ⟨k, hk, hn, rfl⟩ := hrel
    have HN := Lib.hid hn
    clear hn
    by_cases hlt : k < l.length
    · obtain ⟨b, off, rfl, c0, -⟩ := str_cell HS.out hlt
      generalize hz : l.getD k ByteArray.empty = z at c0
      have HZ := Lib.hid hz
      clear hz
      by_cases hs : s = z
      · subst hs
        go_wp2
        go_ret
        exact ⟨ret_int (idx_at hlt HZ.out HN.out).symm, rfl⟩
      · have hsb := str_ne hs
        go_wp2
        go_round
        case rel =>
          refine ⟨k + 1, by omega, ?_, by go_num⟩
          intro j hj
          by_cases e : j = k
          · subst e; rw [HZ.out]; exact fun h => hs h.symm
          · exact HN.out j (by omega)
        case measure => simp [intOf]; omega
    · obtain rfl : k = l.length := by omega
      go_wp2
      go_ret
      exact ⟨ret_int (idx_not HN.out).symm, rfl⟩
theorem contains_any (w : World) (A : Option Addr) (cap : Nat) (l : List ByteArray) (hS : SliceIs kS w A l) (s : ByteArray) :
    Calls Try.prog 76 #[.slice A l.length cap, .string s] w fun e w' => e = .returned (.bool (has l s)) ∧ w = w' := by
  have HI := Lib.hid (index_any w A cap l hS s)
  have HH := Lib.hid (idx_has l s)
  clear hS
  generalize idx l s = i at HI HH
  go_enter Try.func76, Try.ntmps76
  go_wp2_with fail
  refine HI.out.mono ?_
  rintro e w' ⟨rfl, rfl⟩
  go_wp2_with fail
  go_ret
  exact ⟨ret_bool HH.out, rfl⟩
theorem has_end {l : List ByteArray} {s : ByteArray} (h : ∀ j, j < l.length → l.getD j ByteArray.empty ≠ s) : has l s = false := by
  rw [← idx_has, idx_not h]; rfl
theorem has_at {l : List ByteArray} {s : ByteArray} {k : Nat} (hk : k < l.length) (h : l.getD k ByteArray.empty = s) : has l s = true := by
  rw [has_iff]; subst h; simp [hk]
set_option maxHeartbeats 1000000 in
theorem in_any (w : World) (A : Option Addr) (cap : Nat) (l : List ByteArray) (hS : SliceIs kS w A l) (s : ByteArray) :
    Calls Try.prog 29 #[.slice A l.length cap, .string s] w fun e w' => e = .returned (.bool (has l s)) ∧ w = w' := by
  have hlen := hS.len
  unfold maxLen at hlen
  have HS := Lib.hid hS
  clear hS
  go_enter Try.func29, Try.ntmps29
  go_wp2
  go_loop [5] (fun x => ∃ k : Nat, k ≤ l.length ∧ (∀ j, j < k → l.getD j ByteArray.empty ≠ s) ∧ x = .int .i64 k) (fun x => l.length - (intOf x).toNat)
  case atStart => exact ⟨0, by omega, by intro j h; omega, rfl⟩
  case round =>
    obtain ⟨k, hk, hn, rfl⟩ := hrel
    have HN := Lib.hid hn
    clear hn
    by_cases hlt : k < l.length
    · obtain ⟨b, off, rfl, c0, -⟩ := str_cell HS.out hlt
      generalize hz : l.getD k ByteArray.empty = z at c0
      have HZ := Lib.hid hz
      clear hz
      by_cases hs : z = s
      · subst hs
        go_wp2
        go_ret
        exact ⟨ret_bool (has_at hlt HZ.out).symm, rfl⟩
      · have hsb := str_ne hs
        go_wp2
        go_round
        case rel =>
          refine ⟨k + 1, by omega, ?_, by go_num⟩
          intro j hj
          by_cases e : j = k
          · subst e; rw [HZ.out]; exact hs
          · exact HN.out j (by omega)
        case measure => simp [intOf]; omega
    · obtain rfl : k = l.length := by omega
      go_wp2
      go_ret
      exact ⟨ret_bool (has_end HN.out).symm, rfl⟩
end Go.Proofs.Ytclhgnlhejohgaa.PickW
