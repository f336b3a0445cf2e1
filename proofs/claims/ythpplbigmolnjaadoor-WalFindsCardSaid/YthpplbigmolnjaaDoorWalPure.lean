/- Records in frames, plain: a number's four bytes, a frame, what a scan finds; a frame that is cut, or changed, is not whole. No program. -/
import Derived.Test.YthpplbigmolnjaaDoorCrcLaw
set_option linter.unusedVariables false
set_option linter.unusedSimpArgs false
namespace WalP
def num4 (n : Nat) : List UInt8 := [UInt8.ofNat (n / 16777216), UInt8.ofNat (n / 65536), UInt8.ofNat (n / 256), UInt8.ofNat n]
def val (l : List UInt8) : Nat := l.foldl (fun a b => a * 256 + b.toNat) 0
theorem num4_length (n : Nat) : (num4 n).length = 4 := rfl
theorem val_num4 {n : Nat} (h : n < 4294967296) : val (num4 n) = n := by
  simp only [val, num4, List.foldl, UInt8.toNat_ofNat']
  omega
theorem val_lt {l : List UInt8} (h : l.length ≤ 4) : val l < 4294967296 := by
  match l, h with
  | [], _ => decide
  | [a], _ => have := a.toNat_lt; simp only [val, List.foldl]; omega
  | [a, b], _ => have := a.toNat_lt; have := b.toNat_lt; simp only [val, List.foldl]; omega
  | [a, b, c], _ => have := a.toNat_lt; have := b.toNat_lt; have := c.toNat_lt; simp only [val, List.foldl]; omega
  | [a, b, c, d], _ => have := a.toNat_lt; have := b.toNat_lt; have := c.toNat_lt; have := d.toNat_lt; simp only [val, List.foldl]; omega
def crc (l : List UInt8) : Nat := (Crc.run (Crc.start 0) l ^^^ BitVec.allOnes 32).toNat
theorem crc_sum (l : List UInt8) : Crc.sum l = (crc l : Int) := rfl
theorem crc_lt (l : List UInt8) : crc l < 4294967296 := BitVec.isLt _
def put (b : List UInt8) : List UInt8 := num4 b.length ++ (num4 (crc (num4 b.length ++ b)) ++ b)
theorem put_length (b : List UInt8) : (put b).length = 8 + b.length := by
  simp only [put, List.length_append, num4_length]
  omega
/-- The first record, if its frame is whole. -/
def first (l : List UInt8) : Option (List UInt8) :=
  if l.length < 8 then none
  else if 65536 < val (l.take 4) then none
  else if l.length - 8 < val (l.take 4) then none
  else if crc (num4 (val (l.take 4)) ++ (l.drop 8).take (val (l.take 4))) = val ((l.drop 4).take 4) then some ((l.drop 8).take (val (l.take 4))) else none
theorem first_some {l b : List UInt8} (h : first l = some b) : 8 + b.length ≤ l.length ∧ b.length ≤ 65536 := by
  unfold first at h
  split at h
  · cases h
  split at h
  · cases h
  split at h
  · cases h
  split at h
  · injection h with h
    subst h
    rw [List.length_take, List.length_drop]
    omega
  · cases h
def scan (l : List UInt8) : List (List UInt8) × Nat :=
  match h : first l with
  | none => ([], 0)
  | some b => (b :: (scan (l.drop (8 + b.length))).1, 8 + b.length + (scan (l.drop (8 + b.length))).2)
termination_by l.length
decreasing_by
  all_goals
    have := first_some h
    rw [List.length_drop]
    omega
theorem scan_none {l : List UInt8} (h : first l = none) : scan l = ([], 0) := by
  rw [scan]
  split
  · rfl
  · rename_i b hb
    rw [h] at hb
    cases hb
theorem scan_some {l b : List UInt8} (h : first l = some b) : scan l = (b :: (scan (l.drop (8 + b.length))).1, 8 + b.length + (scan (l.drop (8 + b.length))).2) := by
  conv => lhs; rw [scan]
  split
  · rename_i hb
    rw [h] at hb
    cases hb
  · rename_i b' hb
    rw [h] at hb
    injection hb with hb
    subst hb
    rfl
theorem scan_le : ∀ (n : Nat) (l : List UInt8), l.length ≤ n → (scan l).2 ≤ l.length ∧ (scan l).1.length * 8 ≤ l.length ∧ ∀ b ∈ (scan l).1, b.length ≤ 65536 := by
  intro n
  induction n with
  | zero =>
    intro l h
    have : first l = none := by
      unfold first
      rw [if_pos (by omega)]
    rw [scan_none this]
    simp
  | succ n ih =>
    intro l h
    cases hf : first l with
    | none => rw [scan_none hf]; simp
    | some b =>
      have h2 := first_some hf
      obtain ⟨i1, i2, i3⟩ := ih (l.drop (8 + b.length)) (by rw [List.length_drop]; omega)
      rw [scan_some hf]
      rw [List.length_drop] at i1 i2
      refine ⟨by simp only; omega, by simp only [List.length_cons]; omega, ?_⟩
      intro c hc
      rcases List.mem_cons.1 hc with rfl | hc
      · exact h2.2
      · exact i3 c hc
theorem first_put {b : List UInt8} (h : b.length ≤ 65536) (r : List UInt8) : first (put b ++ r) = some b := by
  have e1 : (put b ++ r).take 4 = num4 b.length := by
    simp only [put, List.append_assoc]
    rw [List.take_left' (num4_length _)]
  have e2 : ((put b ++ r).drop 4).take 4 = num4 (crc (num4 b.length ++ b)) := by
    simp only [put, List.append_assoc]
    rw [List.drop_left' (num4_length _), List.take_left' (num4_length _)]
  have e3 : (put b ++ r).drop 8 = b ++ r := by
    simp only [put, List.append_assoc]
    rw [show (8 : Nat) = 4 + 4 from rfl, ← List.drop_drop, List.drop_left' (num4_length _), List.drop_left' (num4_length _)]
  have e4 := val_num4 (n := b.length) (by omega)
  unfold first
  rw [e1, e2, e3, e4, val_num4 (crc_lt _), List.take_left' rfl]
  have := put_length b
  rw [if_neg (by rw [List.length_append]; omega), if_neg (by omega), if_neg (by rw [List.length_append]; omega), if_pos rfl]
theorem drop_put (b r : List UInt8) : (put b ++ r).drop (8 + b.length) = r := List.drop_left' (put_length b)
theorem scan_put {b : List UInt8} (h : b.length ≤ 65536) (r : List UInt8) : scan (put b ++ r) = (b :: (scan r).1, 8 + b.length + (scan r).2) := by
  rw [scan_some (first_put h r), drop_put]
theorem first_short {l : List UInt8} (h : l.length < 8) : first l = none := by
  unfold first
  rw [if_pos h]
/-- A frame that is cut is not whole. -/
theorem first_cut {b : List UInt8} (h : b.length ≤ 65536) (r : List UInt8) {j : Nat} (hj : j < 8 + b.length) : first ((put b ++ r).take j) = none := by
  by_cases h8 : j < 8
  · exact first_short (by rw [List.length_take]; omega)
  have hp := put_length b
  have e1 : ((put b ++ r).take j).take 4 = num4 b.length := by
    rw [List.take_take, Nat.min_eq_left (by omega)]
    simp only [put, List.append_assoc]
    rw [List.take_left' (num4_length _)]
  unfold first
  rw [e1, val_num4 (by omega), List.length_take, List.length_append]
  rw [if_neg (by omega), if_neg (by omega), if_pos (by omega)]
/-- A frame whose record was changed, and whose sum is another one, is not whole. -/
theorem first_bad {b c : List UInt8} (h : b.length ≤ 65536) (hc : c.length = b.length) (hs : crc (num4 b.length ++ c) ≠ crc (num4 b.length ++ b)) (r : List UInt8) :
    first (num4 b.length ++ (num4 (crc (num4 b.length ++ b)) ++ c) ++ r) = none := by
  have e1 : (num4 b.length ++ (num4 (crc (num4 b.length ++ b)) ++ c) ++ r).take 4 = num4 b.length := by
    simp only [List.append_assoc]
    rw [List.take_left' (num4_length _)]
  have e2 : ((num4 b.length ++ (num4 (crc (num4 b.length ++ b)) ++ c) ++ r).drop 4).take 4 = num4 (crc (num4 b.length ++ b)) := by
    simp only [List.append_assoc]
    rw [List.drop_left' (num4_length _), List.take_left' (num4_length _)]
  have e3 : (num4 b.length ++ (num4 (crc (num4 b.length ++ b)) ++ c) ++ r).drop 8 = c ++ r := by
    simp only [List.append_assoc]
    rw [show (8 : Nat) = 4 + 4 from rfl, ← List.drop_drop, List.drop_left' (num4_length _), List.drop_left' (num4_length _)]
  unfold first
  rw [e1, e2, e3, val_num4 (n := b.length) (by omega), val_num4 (crc_lt _), List.take_left' hc, if_neg hs]
  simp
/-- The frames of records. -/
def puts : List (List UInt8) → List UInt8
  | [] => []
  | b :: l => put b ++ puts l
theorem puts_append (a b : List (List UInt8)) : puts (a ++ b) = puts a ++ puts b := by
  induction a with
  | nil => rfl
  | cons x a ih => simp only [List.cons_append, puts, ih, List.append_assoc]
theorem puts_one (a : List (List UInt8)) (b : List UInt8) : puts (a ++ [b]) = puts a ++ put b := by
  rw [puts_append]
  simp [puts]
def Small (l : List (List UInt8)) : Prop := ∀ b ∈ l, b.length ≤ 65536
theorem scan_puts (l : List (List UInt8)) (h : Small l) (r : List UInt8) : scan (puts l ++ r) = (l ++ (scan r).1, (puts l).length + (scan r).2) := by
  induction l with
  | nil => simp [puts]
  | cons b l ih =>
    rw [puts, List.append_assoc, scan_put (h b (List.mem_cons_self ..)), ih (fun x hx => h x (List.mem_cons_of_mem _ hx))]
    simp only [List.cons_append, List.length_append, put_length]
    congr 1
    omega
theorem scan_all (l : List (List UInt8)) (h : Small l) : scan (puts l) = (l, (puts l).length) := by
  have := scan_puts l h []
  rw [List.append_nil, scan_none (l := []) (first_short (by decide))] at this
  simpa using this
/-- What is left of frames that are cut: the first ones, whole. -/
theorem scan_cut (l : List (List UInt8)) (h : Small l) (j : Nat) (n : Nat) (hn : n ≤ l.length) (hj : (puts (l.take n)).length ≤ j) :
    ∃ m, n ≤ m ∧ m ≤ l.length ∧ scan ((puts l).take j) = (l.take m, (puts (l.take m)).length) ∧ (puts (l.take m)) <+: (puts l).take j := by
  induction l generalizing j n with
  | nil =>
    refine ⟨0, by simpa using hn, by simp, ?_, by simp [puts]⟩
    simp only [puts, List.take_nil]
    rw [scan_none (first_short (by decide))]
    rfl
  | cons b l ih =>
    have hb := h b (List.mem_cons_self ..)
    have hl : Small l := fun x hx => h x (List.mem_cons_of_mem _ hx)
    by_cases hc : j < 8 + b.length
    · have hn0 : n = 0 := by
        cases n with
        | zero => rfl
        | succ n =>
          rw [List.take_succ_cons, puts, List.length_append, put_length] at hj
          omega
      subst hn0
      refine ⟨0, Nat.le_refl _, by simp, ?_, by simp [puts]⟩
      rw [puts, scan_none (first_cut hb _ hc)]
      rfl
    · have hsp : (puts (b :: l)).take j = put b ++ (puts l).take (j - (8 + b.length)) := by
        rw [puts, List.take_append, put_length, List.take_of_length_le (by rw [put_length]; omega)]
      obtain ⟨m, h1, h2, h3, h4⟩ := ih hl (j - (8 + b.length)) (n - 1) (by rw [List.length_cons] at hn; omega) (by
        cases n with
        | zero => simp [puts]
        | succ n =>
          rw [List.take_succ_cons, puts, List.length_append, put_length] at hj
          rw [Nat.add_sub_cancel]
          omega)
      refine ⟨m + 1, by omega, by rw [List.length_cons]; omega, ?_, ?_⟩
      · rw [hsp, scan_put hb, h3, List.take_succ_cons, puts, List.length_append, put_length]
      · rw [hsp, List.take_succ_cons, puts]
        exact (List.prefix_append_right_inj _).2 h4
end WalP
