/- The checksum as a function on 32 bits: what one bit, one byte and a text do to it; a burst of up to 32 bits changes it. No program. -/
namespace Crc
def over : BitVec 32 := 0x82f63b78#32
/-- One bit. -/
def bit (c : BitVec 32) : BitVec 32 := (c >>> 1) ^^^ (bif c.getLsbD 0 then over else 0#32)
def bitN : Nat → BitVec 32 → BitVec 32
  | 0, c => c
  | n + 1, c => bit (bitN n c)
def byte (b : UInt8) : BitVec 32 := BitVec.ofNat 32 b.toNat
def step (c : BitVec 32) (b : UInt8) : BitVec 32 := bitN 8 (c ^^^ byte b)
def run (c : BitVec 32) (l : List UInt8) : BitVec 32 := l.foldl step c
def start (sum : Int) : BitVec 32 := BitVec.ofInt 32 sum ^^^ BitVec.allOnes 32
def more (sum : Int) (l : List UInt8) : Int := ((run (start sum) l ^^^ BitVec.allOnes 32).toNat : Int)
def sum (l : List UInt8) : Int := more 0 l

theorem run_append (c : BitVec 32) (a b : List UInt8) : run c (a ++ b) = run (run c a) b := by
  simp [run, List.foldl_append]

theorem start_of_nat (x : BitVec 32) : start ((x ^^^ BitVec.allOnes 32).toNat : Int) = x := by
  unfold start
  rw [BitVec.ofInt_natCast, BitVec.ofNat_toNat, BitVec.setWidth_eq, BitVec.xor_assoc, BitVec.xor_self, BitVec.xor_zero]

theorem more_more (a b : List UInt8) : sum (a ++ b) = more (sum a) b := by
  have h : more (sum a) b = ((run (run (start 0) a) b ^^^ BitVec.allOnes 32).toNat : Int) := by
    unfold more sum more
    rw [start_of_nat]
  rw [h]
  unfold sum more
  rw [run_append]

theorem bit_xor (x y : BitVec 32) : bit (x ^^^ y) = bit x ^^^ bit y := by
  unfold bit
  rw [BitVec.ushiftRight_xor_distrib, BitVec.getLsbD_xor]
  generalize x >>> 1 = u
  generalize y >>> 1 = v
  generalize over = o
  cases x.getLsbD 0 <;> cases y.getLsbD 0
  · simp
  · simp [BitVec.xor_assoc]
  · simp only [Bool.true_bne, Bool.not_false, cond_true, cond_false, BitVec.xor_zero]
    rw [BitVec.xor_assoc, BitVec.xor_assoc, BitVec.xor_comm v o]
  · simp only [bne_self_eq_false, cond_true, cond_false, BitVec.xor_zero]
    rw [BitVec.xor_comm v o, BitVec.xor_assoc, ← BitVec.xor_assoc o o v, BitVec.xor_self, BitVec.zero_xor]

theorem bit_msb (x : BitVec 32) : (bit x).getLsbD 31 = x.getLsbD 0 := by
  unfold bit
  rw [BitVec.getLsbD_xor, BitVec.getLsbD_ushiftRight, BitVec.getLsbD_of_ge x (1 + 31) (by omega)]
  cases x.getLsbD 0 <;> simp [over]

theorem bit_zero {x : BitVec 32} (h : bit x = 0#32) : x = 0#32 := by
  have h0 : x.getLsbD 0 = false := by rw [← bit_msb, h]; simp
  have h1 : x >>> 1 = 0#32 := by
    unfold bit at h
    rw [h0] at h
    simpa using h
  ext i hi
  rcases i with _ | i
  · simpa using h0
  · have := congrArg (fun v => v.getLsbD i) h1
    simp at this
    rw [Nat.add_comm] at this
    simpa [BitVec.getLsbD_eq_getElem hi] using this

theorem bitN_xor (n : Nat) (x y : BitVec 32) : bitN n (x ^^^ y) = bitN n x ^^^ bitN n y := by
  induction n with
  | zero => rfl
  | succ n ih => simp only [bitN, ih, bit_xor]
theorem bitN_zero {n : Nat} {x : BitVec 32} (h : bitN n x = 0#32) : x = 0#32 := by
  induction n with
  | zero => exact h
  | succ n ih => exact ih (bit_zero h)
theorem xor_eq_zero {x y : BitVec 32} (h : x ^^^ y = 0#32) : x = y := by
  have := congrArg (· ^^^ y) h
  simpa [BitVec.xor_assoc] using this
theorem bitN_inj {n : Nat} {x y : BitVec 32} (h : bitN n x = bitN n y) : x = y := by
  apply xor_eq_zero
  apply bitN_zero (n := n)
  rw [bitN_xor, h, BitVec.xor_self]
theorem step_inj {c d : BitVec 32} {b : UInt8} (h : step c b = step d b) : c = d := by
  have := bitN_inj h
  have := congrArg (· ^^^ byte b) this
  simpa [BitVec.xor_assoc] using this
theorem run_inj {l : List UInt8} : ∀ {c d : BitVec 32}, run c l = run d l → c = d := by
  induction l with
  | nil => intro c d h; exact h
  | cons b l ih => intro c d h; exact step_inj (ih h)

/-- A bit step of what has no lowest bit is a shift. -/
theorem bitN_shl (n : Nat) (x : BitVec 32) (h : ∀ i, 32 - n ≤ i → x.getLsbD i = false) : ∀ m, m ≤ n → bitN m (x <<< n) = x <<< (n - m) := by
  intro m
  induction m with
  | zero => intro _; rfl
  | succ m ih =>
    intro hm
    simp only [bitN]
    rw [ih (by omega)]
    have h0 : (x <<< (n - m)).getLsbD 0 = false := by
      simp only [BitVec.getLsbD_shiftLeft]
      simp
      intro hz
      omega
    unfold bit
    rw [h0, cond_false, BitVec.xor_zero]
    apply BitVec.eq_of_getLsbD_eq
    intro i hi
    simp only [BitVec.getLsbD_ushiftRight, BitVec.getLsbD_shiftLeft]
    by_cases hi2 : i < n - (m + 1)
    · have : 1 + i < n - m := by omega
      simp [hi2, this]
    · have h3 : ¬ 1 + i < n - m := by omega
      have h4 : 1 + i - (n - m) = i - (n - (m + 1)) := by omega
      simp only [hi2, h3, h4, hi, decide_false, decide_true, Bool.not_false, Bool.and_true, Bool.true_and]
      by_cases h5 : 1 + i < 32
      · simp [h5]
      · simp only [h5, decide_false, Bool.false_and]
        exact (h _ (by omega)).symm

theorem byte_high (b : UInt8) (i : Nat) (h : 8 ≤ i) : (byte b).getLsbD i = false := by
  unfold byte
  rw [BitVec.getLsbD_ofNat]
  have : b.toNat.testBit i = false := Nat.testBit_lt_two_pow (Nat.lt_of_lt_of_le b.toNat_lt (by exact Nat.pow_le_pow_right (by omega) h))
  simp [this]

/-- What four bytes' changes come to. -/
theorem burst {e0 e1 e2 e3 : UInt8} (h : bitN 8 (bitN 8 (bitN 8 (bitN 8 (byte e0) ^^^ byte e1) ^^^ byte e2) ^^^ byte e3) = 0#32) :
    byte e0 = 0#32 ∧ byte e1 = 0#32 ∧ byte e2 = 0#32 ∧ byte e3 = 0#32 := by
  have back : ∀ {x y : BitVec 32}, (∀ i, 24 ≤ i → y.getLsbD i = false) → bitN 8 x = y → x = y <<< 8 := by
    intro x y hy hx
    have := bitN_shl 8 y (by simpa using hy) 8 (Nat.le_refl _)
    apply bitN_inj (n := 8)
    rw [hx, this]
    simp
  have t3 := xor_eq_zero (bitN_zero h)
  have t2 := back (fun i hi => byte_high e3 i (by omega)) t3
  have swap : ∀ {a b c : BitVec 32}, a ^^^ b = c → a = c ^^^ b := by
    intro a b c hh
    rw [← hh, BitVec.xor_assoc, BitVec.xor_self, BitVec.xor_zero]
  have t2' := swap t2
  have z3 : ∀ i, 16 ≤ i → (byte e3 <<< 8 ^^^ byte e2).getLsbD i = false := by
    intro i hi
    simp only [BitVec.getLsbD_xor, BitVec.getLsbD_shiftLeft]
    rw [byte_high e2 i (by omega), byte_high e3 (i - 8) (by omega)]
    simp
  have t1 := swap (back (fun i hi => z3 i (by omega)) t2')
  have z2 : ∀ i, 24 ≤ i → ((byte e3 <<< 8 ^^^ byte e2) <<< 8 ^^^ byte e1).getLsbD i = false := by
    intro i hi
    rw [BitVec.getLsbD_xor, BitVec.getLsbD_shiftLeft, z3 (i - 8) (by omega), byte_high e1 i (by omega)]
    simp
  have t0 := back z2 t1
  have low : ∀ {x : BitVec 32} {b : UInt8}, byte b = x <<< 8 → byte b = 0#32 ∧ x <<< 8 = 0#32 := by
    intro x b hh
    have : byte b = 0#32 := by
      apply BitVec.eq_of_getLsbD_eq
      intro i hi
      by_cases h8 : 8 ≤ i
      · rw [byte_high b i h8]; simp
      · rw [hh, BitVec.getLsbD_shiftLeft]
        have : i < 8 := by omega
        simp [this]
    exact ⟨this, by rw [← hh, this]⟩
  have drop : ∀ {x : BitVec 32}, (∀ i, 24 ≤ i → x.getLsbD i = false) → x <<< 8 = 0#32 → x = 0#32 := by
    intro x hx hh
    apply BitVec.eq_of_getLsbD_eq
    intro i hi
    by_cases h24 : 24 ≤ i
    · rw [hx i h24]; simp
    · have := congrArg (fun v => v.getLsbD (i + 8)) hh
      simp only [BitVec.getLsbD_shiftLeft] at this
      have h1 : i + 8 < 32 := by omega
      have h2 : ¬ i + 8 < 8 := by omega
      simp [h1, h2] at this
      rw [this]; simp
  obtain ⟨b0, s0⟩ := low t0
  have t1' := drop z2 s0
  obtain ⟨b1, s1⟩ := low ((xor_eq_zero t1').symm)
  have t2'' := drop (fun i hi => z3 i (by omega)) s1
  obtain ⟨b2, s2⟩ := low ((xor_eq_zero t2'').symm)
  have b3 := drop (fun i hi => byte_high e3 i (by omega)) s2
  exact ⟨b0, b1, b2, b3⟩

theorem byte_xor (a e : UInt8) : byte (a ^^^ e) = byte a ^^^ byte e := by
  unfold byte
  rw [UInt8.toNat_xor, BitVec.ofNat_xor]

theorem burst_run {c : BitVec 32} {b0 b1 b2 b3 e0 e1 e2 e3 : UInt8}
    (h : run c [b0 ^^^ e0, b1 ^^^ e1, b2 ^^^ e2, b3 ^^^ e3] = run c [b0, b1, b2, b3]) : byte e0 = 0#32 ∧ byte e1 = 0#32 ∧ byte e2 = 0#32 ∧ byte e3 = 0#32 := by
  apply burst
  simp only [run, List.foldl, step, byte_xor] at h
  have split : ∀ (x d b e : BitVec 32), bitN 8 (x ^^^ d ^^^ (b ^^^ e)) = bitN 8 (x ^^^ b) ^^^ bitN 8 (d ^^^ e) := by
    intro x d b e
    rw [← bitN_xor]
    congr 1
    rw [BitVec.xor_assoc, BitVec.xor_assoc]
    congr 1
    rw [← BitVec.xor_assoc, ← BitVec.xor_assoc, BitVec.xor_comm d b]
  have first : bitN 8 (c ^^^ (byte b0 ^^^ byte e0)) = bitN 8 (c ^^^ byte b0) ^^^ bitN 8 (byte e0) := by
    rw [← bitN_xor, BitVec.xor_assoc]
  rw [first, split, split, split] at h
  have := congrArg (bitN 8 (bitN 8 (bitN 8 (bitN 8 (c ^^^ byte b0) ^^^ byte b1) ^^^ byte b2) ^^^ byte b3) ^^^ ·) h
  simpa [← BitVec.xor_assoc] using this

theorem sum_ne {p q : List UInt8} {b0 b1 b2 b3 e0 e1 e2 e3 : UInt8} (h : ¬ (e0 = 0 ∧ e1 = 0 ∧ e2 = 0 ∧ e3 = 0)) :
    sum (p ++ [b0 ^^^ e0, b1 ^^^ e1, b2 ^^^ e2, b3 ^^^ e3] ++ q) ≠ sum (p ++ [b0, b1, b2, b3] ++ q) := by
  intro hs
  apply h
  unfold sum more at hs
  have h1 := BitVec.eq_of_toNat_eq (Int.ofNat.inj hs)
  have h2 : run (start 0) (p ++ [b0 ^^^ e0, b1 ^^^ e1, b2 ^^^ e2, b3 ^^^ e3] ++ q) = run (start 0) (p ++ [b0, b1, b2, b3] ++ q) := by
    have := congrArg (· ^^^ BitVec.allOnes 32) h1
    simpa only [BitVec.xor_assoc, BitVec.xor_self, BitVec.xor_zero] using this
  rw [run_append, run_append, run_append, run_append] at h2
  have z := burst_run (run_inj h2)
  have zero : ∀ {e : UInt8}, byte e = 0#32 → e = 0 := by
    intro e he
    have := congrArg BitVec.toNat he
    unfold byte at this
    simp at this
    apply UInt8.toNat_inj.1
    have hl := e.toNat_lt
    simp
    omega
  exact ⟨zero z.1, zero z.2.1, zero z.2.2.1, zero z.2.2.2⟩
end Crc
