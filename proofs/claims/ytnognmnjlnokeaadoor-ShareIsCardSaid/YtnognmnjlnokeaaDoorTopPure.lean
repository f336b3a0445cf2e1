/- Topics: the plain part: letters, levels, names, filters, what takes what. -/
set_option linter.unusedVariables false
set_option linter.unusedSimpArgs false
namespace Go.Proofs.YtnognmnjlnokeaaDoor.TopP

/-! ### letters -/
def fol (n : Nat) : Nat := if 1 ≤ n ∧ n < 128 then 0 else if 192 ≤ n ∧ n < 224 then 1 else if 224 ≤ n ∧ n < 240 then 2 else if 240 ≤ n ∧ n < 248 then 3 else 0
def ini (n : Nat) : Nat := if 1 ≤ n ∧ n < 128 then n else if 192 ≤ n ∧ n < 224 then n - 192 else if 224 ≤ n ∧ n < 240 then n - 224 else if 240 ≤ n ∧ n < 248 then n - 240 else 0
def lea (n : Nat) : Nat := if 1 ≤ n ∧ n < 128 then 1 else if 192 ≤ n ∧ n < 224 then 128 else if 224 ≤ n ∧ n < 240 then 2048 else if 240 ≤ n ∧ n < 248 then 65536 else 1
def cont (b : UInt8) : Bool := decide (128 ≤ b.toNat) && decide (b.toNat < 192)
def eat (n : Nat) : List UInt8 → Option Nat
  | [] => some n
  | b :: t => if cont b = true then eat (n * 64 + b.toNat % 64) t else none
def fits (n least : Nat) : Bool := !(decide (n < least) || decide (1114111 < n) || (decide (55296 ≤ n) && decide (n ≤ 57343)))
def fin : Option Nat → Nat → Nat → Nat
  | some n, least, f => if fits n least = true then f + 1 else 0
  | none, _, _ => 0
theorem fin_le (o : Option Nat) (l f : Nat) : fin o l f ≤ f + 1 := by
  cases o with
  | none => simp [fin]
  | some n => unfold fin; by_cases h : fits n l = true <;> simp [h]
/-- How many bytes the letter has that a text begins with; 0: there is none. -/
def ulen : List UInt8 → Nat
  | [] => 0
  | c :: r => if r.length < fol c.toNat then 0 else fin (eat (ini c.toNat) (r.take (fol c.toNat))) (lea c.toNat) (fol c.toNat)
theorem fol_le (n : Nat) : fol n ≤ 3 := by
  unfold fol
  by_cases h1 : 1 ≤ n ∧ n < 128
  · rw [if_pos h1]; omega
  rw [if_neg h1]
  by_cases h2 : 192 ≤ n ∧ n < 224
  · rw [if_pos h2]; omega
  rw [if_neg h2]
  by_cases h3 : 224 ≤ n ∧ n < 240
  · rw [if_pos h3]; omega
  rw [if_neg h3]
  by_cases h4 : 240 ≤ n ∧ n < 248
  · rw [if_pos h4]; omega
  rw [if_neg h4]; omega
theorem ulen_le (l : List UInt8) : ulen l ≤ l.length := by
  cases l with
  | nil => simp [ulen]
  | cons c r =>
    simp only [ulen]
    by_cases h : r.length < fol c.toNat
    · rw [if_pos h]; omega
    · rw [if_neg h, List.length_cons]
      have := fin_le (eat (ini c.toNat) (r.take (fol c.toNat))) (lea c.toNat) (fol c.toNat)
      omega
/-- As far as a text's letters go. -/
def cutF : Nat → List UInt8 → Nat
  | 0, _ => 0
  | f + 1, l => if ulen l = 0 then 0 else ulen l + cutF f (l.drop (ulen l))
def cut (l : List UInt8) : Nat := cutF l.length l
theorem cutF_le (f : Nat) : ∀ l : List UInt8, cutF f l ≤ l.length := by
  induction f with
  | zero => intro l; simp [cutF]
  | succ f ih =>
    intro l
    unfold cutF
    split
    · omega
    · have := ih (l.drop (ulen l))
      have h2 := ulen_le l
      rw [List.length_drop] at this
      omega
theorem cutF_more (f : Nat) : ∀ (g : Nat) (l : List UInt8), l.length ≤ f → f ≤ g → cutF g l = cutF f l := by
  induction f with
  | zero =>
    intro g l hl hg
    obtain rfl : l = [] := List.eq_nil_of_length_eq_zero (by omega)
    cases g <;> simp [cutF, ulen]
  | succ f ih =>
    intro g l hl hg
    obtain ⟨g, rfl⟩ : ∃ m, g = m + 1 := ⟨g - 1, by omega⟩
    unfold cutF
    split
    · rfl
    · rw [ih g _ (by rw [List.length_drop]; omega) (by omega)]
theorem cut_zero {l : List UInt8} (h : ulen l = 0) : cut l = 0 := by
  unfold cut
  cases l.length <;> simp [cutF, h]
theorem cut_step {l : List UInt8} (h : ulen l ≠ 0) : cut l = ulen l + cut (l.drop (ulen l)) := by
  have hl := ulen_le l
  unfold cut
  obtain ⟨m, hm⟩ : ∃ m, l.length = m + 1 := ⟨l.length - 1, by omega⟩
  rw [hm]
  conv => lhs; unfold cutF
  rw [if_neg h, cutF_more (l.drop (ulen l)).length m (l.drop (ulen l)) (Nat.le_refl _) (by rw [List.length_drop]; omega)]
theorem cut_le (l : List UInt8) : cut l ≤ l.length := cutF_le _ l
def valid (l : List UInt8) : Bool := decide (cut l = l.length)

/-! ### levels -/
def lv : List UInt8 → List (List UInt8)
  | [] => [[]]
  | c :: r => if c = 47 then [] :: lv r else match lv r with
    | [] => [[c]]
    | x :: t => (c :: x) :: t
theorem lv_ne (l : List UInt8) : lv l ≠ [] := by
  cases l with
  | nil => simp [lv]
  | cons c r => unfold lv; split <;> (try split) <;> simp
def has (c : UInt8) (l : List UInt8) : Bool := decide (c ∈ l)
def may (l : List UInt8) : Bool := !l.isEmpty && valid l && decide ((lv l).length ≤ 32)
def isName (l : List UInt8) : Bool := may l && !has 43 l && !has 35 l
def isLevel (x : List UInt8) (last : Bool) : Bool := if has 35 x = true then decide (x = [35]) && last else if has 43 x = true then decide (x = [43]) else true
def levelsOk : List (List UInt8) → Bool
  | [] => true
  | [x] => isLevel x true
  | x :: t => isLevel x false && levelsOk t
def isFilter (l : List UInt8) : Bool := may l && levelsOk (lv l)
def hidden (f n : List UInt8) : Bool := decide (n.head? = some 36) && (decide (f.head? = some 43) || decide (f.head? = some 35))
def takes : List (List UInt8) → List (List UInt8) → Bool
  | [], n => n.isEmpty
  | x :: f, n => if x = [35] then true else match n with
    | [] => false
    | y :: n => (decide (x = [43]) || decide (x = y)) && takes f n
def isMatch (f n : List UInt8) : Bool := isFilter f && isName n && !hidden f n && takes (lv f) (lv n)
end Go.Proofs.YtnognmnjlnokeaaDoor.TopP
