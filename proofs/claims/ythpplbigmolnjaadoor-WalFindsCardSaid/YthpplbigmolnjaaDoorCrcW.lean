/- What the checksum's functions come to, over the program. -/
import Derived.Test.YthpplbigmolnjaaDoorProg
import Derived.WalkKit
import Derived.KernelRfl
import Derived.Deep.LoopGhost
import Derived.Deep.QuietTactic
import Derived.BigQuiet
import Derived.Lib.ConvBytes
import Derived.Lib.Hide
import Derived.Deep.RegionWith
import Derived.Test.YthpplbigmolnjaaDoorCrcLaw
set_option linter.unusedVariables false
set_option linter.unusedSimpArgs false
namespace Go.Proofs.YthpplbigmolnjaaDoor.CrcW
open Go.RowKit

theorem ret_int {k : IntKind} {a b : Int} (h : a = b) : Ending.returned (.int k a) = .returned (.int k b) := by rw [h]
theorem ofInt_u32 (x : BitVec 32) : BitVec.ofInt IntKind.u32.bits (x.toNat : Int) = x := by
  show BitVec.ofInt 32 _ = x
  rw [BitVec.ofInt_natCast, BitVec.ofNat_toNat, BitVec.setWidth_eq]
theorem wrap_u32 (x : BitVec 32) : IntKind.u32.wrap (x.toNat : Int) = (x.toNat : Int) := by
  have := x.isLt
  rw [IntKind.wrap_u32]
  omega
theorem xor_u32 (x y : BitVec 32) : bits .xor .u32 (x.toNat : Int) (y.toNat : Int) = ((x ^^^ y).toNat : Int) := by
  unfold bits
  rw [ofInt_u32, ofInt_u32]
  exact wrap_u32 _
theorem and_u32 (x y : BitVec 32) : bits .and .u32 (x.toNat : Int) (y.toNat : Int) = ((x &&& y).toNat : Int) := by
  unfold bits
  rw [ofInt_u32, ofInt_u32]
  exact wrap_u32 _
theorem shr_u32 (x : BitVec 32) : (x.toNat : Int) / (2 : Int) = ((x >>> 1).toNat : Int) := by
  rw [BitVec.toNat_ushiftRight, Nat.shiftRight_eq_div_pow]
  omega
theorem byte_toNat (b : UInt8) : (Crc.byte b).toNat = b.toNat := by
  unfold Crc.byte
  have := b.toNat_lt
  rw [BitVec.toNat_ofNat]
  omega
theorem bit_int (x : BitVec 32) : bits .xor .u32 ((x.toNat : Int) / 2) (bits .and .u32 2197175160 ((-(bits .and .u32 (x.toNat : Int) 1)) % 4294967296)) = ((Crc.bit x).toNat : Int) := by
  have h1 : bits .and .u32 (x.toNat : Int) 1 = (((x &&& 1#32)).toNat : Int) := and_u32 x 1#32
  have h2 : x &&& 1#32 = bif x.getLsbD 0 then 1#32 else 0#32 := by
    apply BitVec.eq_of_getLsbD_eq
    intro i hi
    by_cases h0 : i = 0
    · subst h0
      rw [BitVec.getLsbD_and]
      cases x.getLsbD 0 <;> rfl
    · have : (1#32 : BitVec 32).getLsbD i = false := by
        simp [BitVec.getLsbD_one, h0]
      rw [BitVec.getLsbD_and, this]
      cases x.getLsbD 0 <;> simp [this]
  have h3 : (-(bits .and .u32 (x.toNat : Int) 1)) % 4294967296 = ((bif x.getLsbD 0 then BitVec.allOnes 32 else 0#32).toNat : Int) := by
    rw [h1, h2]
    cases x.getLsbD 0 <;> rfl
  have h4 : (2197175160 : Int) = ((Crc.over).toNat : Int) := rfl
  rw [h3, h4, and_u32, shr_u32, xor_u32]
  congr 2
  unfold Crc.bit
  congr 1
  cases x.getLsbD 0 <;> simp [Crc.over]

set_option maxHeartbeats 1000000 in
theorem step_any (c : BitVec 32) (b : UInt8) (w : World) :
    Calls Tryd.prog 75 #[.int .u32 (c.toNat : Int), .int .u8 (b.toNat : Int)] w fun e w' => e = .returned (.int .u32 ((Crc.step c b).toNat : Int)) ∧ w = w' := by
  go_enter Tryd.func75, Tryd.ntmps75
  go_wp2
  go_loop [0, 10] (fun v i => ∃ k : Nat, k ≤ 8 ∧ i = .int .i64 k ∧ v = .int .u32 ((Crc.bitN k (c ^^^ Crc.byte b)).toNat : Int)) (fun _ i => 8 - (intOf i).toNat)
  case atStart =>
    refine ⟨0, by omega, rfl, ?_⟩
    have h : (b.toNat : Int) % 4294967296 = ((Crc.byte b).toNat : Int) := by
      rw [byte_toNat]; have := b.toNat_lt; omega
    rw [h, xor_u32]; rfl
  case round =>
    obtain ⟨k, hk, rfl, rfl⟩ := hrel
    by_cases hlt : k < 8
    · go_wp2
      go_round
      case rel => exact ⟨k + 1, by omega, by go_num, by rw [bit_int]; rfl⟩
      case measure => simp [intOf]; omega
    · obtain rfl : k = 8 := by omega
      go_wp2
      go_ret
      exact ⟨rfl, rfl⟩

theorem data_getD (s : ByteArray) (k : Nat) (h : k < s.size) : s.data.toList.getD k 0 = s.data.toList[k]'(by simpa using h) := by
  rw [List.getD_eq_getElem?_getD, List.getElem?_eq_getElem (by simpa using h), Option.getD_some]
theorem below_bytes (w : World) (e : TypeId) (s : ByteArray) : Below w.heap.size w (Lib.bytesWorld w e s) :=
  ⟨rfl, rfl, rfl, by rw [Lib.bytesWorld_size]; omega, fun k hk => Lib.bytesWorld_at_old w e s k hk⟩
theorem run_take (c : BitVec 32) (l : List UInt8) (k : Nat) (h : k < l.length) : Crc.run c (l.take (k + 1)) = Crc.step (Crc.run c (l.take k)) l[k] := by
  rw [List.take_succ_eq_append_getElem h, Crc.run_append]; rfl

set_option maxHeartbeats 1000000 in
theorem more_any (sum : Int) (s : ByteArray) (w : World) (hs : s.size ≤ maxLen) :
    Calls Tryd.prog 50 #[.int .i64 sum, .string s] w fun e w' => e = .returned (.int .i64 (Crc.more sum s.data.toList)) ∧ Below w.heap.size w w' := by
  unfold maxLen at hs
  have hc := fun w => Lib.run_convert_string_bytes (P := Tryd.prog) w 9 45 5 s Tryd.underlying9 Tryd.underlying45 Tryd.underlying5
  have hb := below_bytes w 5 s
  have HB := Lib.hid hb
  clear hb
  have hcell := Lib.bytesWorld_cell w 5 s
  have HC := Lib.hid hcell
  clear hcell
  go_enter Tryd.func50, Tryd.ntmps50
  go_wp2
  have h0 : bits .xor .u32 (sum % 4294967296) 4294967295 = ((Crc.run (Crc.start sum) (s.data.toList.take 0)).toNat : Int) := by
    have h1 : sum % 4294967296 = ((BitVec.ofInt 32 sum).toNat : Int) := by
      rw [BitVec.toNat_ofInt]; omega
    have h2 : (4294967295 : Int) = ((BitVec.allOnes 32).toNat : Int) := rfl
    rw [h1, h2, xor_u32]; rfl
  go_loopw [5, 14] (fun v i wr => wr = Lib.bytesWorld w 5 s ∧ ∃ k : Nat, k ≤ s.size ∧ i = .int .i64 k ∧ v = .int .u32 ((Crc.run (Crc.start sum) (s.data.toList.take k)).toNat : Int)) (fun _ i _ => s.size - (intOf i).toNat)
  case atStart => exact ⟨rfl, 0, by omega, rfl, by rw [h0]⟩
  case round =>
    obtain ⟨rfl, k, hk, rfl, rfl⟩ := hrel
    clear h0
    by_cases hlt : k < s.size
    · have hcell := HC.out k hlt
      rw [data_getD s k hlt] at hcell
      have hl : k < s.data.toList.length := by simpa using hlt
      go_wp2_with (go_at_call 75; refine (step_any _ _ _).mono ?_; rintro e w' ⟨rfl, rfl⟩)
      go_roundw
      case rel => exact ⟨trivial, k + 1, by omega, by go_num, by rw [run_take _ _ _ hl, Array.getElem_toList]⟩
      case measure => simp [intOf]; omega
    · obtain rfl : k = s.size := by omega
      go_wp2
      go_ret
      refine ⟨ret_int ?_, HB.out⟩
      have h2 : (4294967295 : Int) = ((BitVec.allOnes 32).toNat : Int) := rfl
      rw [h2, xor_u32, List.take_of_length_le (by simp)]
      unfold Crc.more
      have := (Crc.run (Crc.start sum) s.data.toList ^^^ BitVec.allOnes 32).isLt
      unfold wrap64
      omega

theorem sum_any (s : ByteArray) (w : World) (hs : s.size ≤ maxLen) :
    Calls Tryd.prog 51 #[.string s] w fun e w' => e = .returned (.int .i64 (Crc.sum s.data.toList)) ∧ Below w.heap.size w w' := by
  go_enter Tryd.func51, Tryd.ntmps51
  go_wp2_with (go_at_call 50; refine (more_any _ _ _ hs).mono ?_; rintro e w' ⟨rfl, hb⟩)
  go_ret
  exact ⟨rfl, hb⟩

theorem sum_at (s : ByteArray) (n : Int) (h : Crc.sum s.data.toList = n) (w : World) (hs : s.size ≤ maxLen) :
    Calls Tryd.prog 51 #[.string s] w fun e w' => e = .returned (.int .i64 n) ∧ Below w.heap.size w w' := h ▸ sum_any s w hs
theorem pos_size {B : Nat} {w w' : World} (h : Below B w w') : w.heap.size ≤ w'.heap.size := h.size
theorem then_below {w w1 w2 : World} (h : Below w.heap.size w w1) (k : Below w1.heap.size w1 w2) : Below w.heap.size w w2 := h.trans (k.mono h.size)

theorem low_bit (x : BitVec 32) : x.getLsbD 0 = decide (x.toNat % 2 = 1) := by
  rw [BitVec.getLsbD, Nat.testBit_zero]
theorem bit_odd (x : BitVec 32) (h : x.toNat % 2 = 1) : bits .xor .u32 ((x.toNat : Int) / (2 : Int)) 2197175160 = ((Crc.bit x).toNat : Int) := by
  have h4 : (2197175160 : Int) = ((Crc.over).toNat : Int) := rfl
  rw [h4, shr_u32, xor_u32]
  unfold Crc.bit
  rw [low_bit, decide_eq_true h]; rfl
theorem bit_even (x : BitVec 32) (h : x.toNat % 2 = 0) : (x.toNat : Int) / (2 : Int) = ((Crc.bit x).toNat : Int) := by
  rw [shr_u32]
  unfold Crc.bit
  rw [low_bit, decide_eq_false (by omega), cond_false, BitVec.xor_zero]

theorem rmore_any (sum : Int) (s : ByteArray) (w : World) (hs : s.size ≤ maxLen) :
    Calls Tryd.prog 72 #[.int .i64 sum, .string s] w fun e w' => e = .returned (.int .i64 (Crc.more sum s.data.toList)) ∧ w = w' := by
  unfold maxLen at hs
  go_enter Tryd.func72, Tryd.ntmps72
  go_wp2
  have h0 : bits .xor .u32 (sum % 4294967296) 4294967295 = ((Crc.run (Crc.start sum) (s.data.toList.take 0)).toNat : Int) := by
    have h1 : sum % 4294967296 = ((BitVec.ofInt 32 sum).toNat : Int) := by
      rw [BitVec.toNat_ofInt]; omega
    have h2 : (4294967295 : Int) = ((BitVec.allOnes 32).toNat : Int) := rfl
    rw [h1, h2, xor_u32]; rfl
  go_loop [5, 6] (fun v i => ∃ k : Nat, k ≤ s.size ∧ i = .int .i64 k ∧ v = .int .u32 ((Crc.run (Crc.start sum) (s.data.toList.take k)).toNat : Int)) (fun _ i => s.size - (intOf i).toNat)
  case atStart => exact ⟨0, by omega, rfl, by rw [h0]⟩
  case round =>
    obtain ⟨k, hk, rfl, rfl⟩ := hrel
    clear h0
    by_cases hlt : k < s.size
    · have hl : k < s.data.toList.length := by simpa using hlt
      go_wp2
      go_loop [5, 7] (fun v i => ∃ n : Nat, n ≤ 8 ∧ i = .int .i64 n ∧ v = .int .u32 ((Crc.bitN n (Crc.run (Crc.start sum) (s.data.toList.take k) ^^^ Crc.byte (s.data.toList[k]))).toNat : Int)) (fun _ i => 8 - (intOf i).toNat)
      case atStart =>
        refine ⟨0, by omega, rfl, ?_⟩
        have h : ((s.data.toList[k]).toNat : Int) % 4294967296 = ((Crc.byte (s.data.toList[k])).toNat : Int) := by
          rw [byte_toNat]; have := (s.data.toList[k]).toNat_lt; omega
        rw [Crc.bitN, ← xor_u32, ← h]
        rfl
      case round =>
        obtain ⟨n, hn, rfl, rfl⟩ := hrel
        by_cases hn8 : n < 8
        · generalize hx : Crc.bitN n (Crc.run (Crc.start sum) (s.data.toList.take k) ^^^ Crc.byte (s.data.toList[k])) = x
          have HX := Lib.hid hx
          clear hx
          by_cases ho : x.toNat % 2 = 1
          · have e : (((x.toNat : Int) % 2) == 1) = true := by rw [beq_iff_eq]; omega
            go_wp2
            go_round
            case rel => exact ⟨n + 1, by omega, by go_num, by rw [bit_odd x ho, Crc.bitN, HX.out]⟩
            case measure => simp [intOf]; omega
          · have e : (((x.toNat : Int) % 2) == 1) = false := by rw [beq_eq_false_iff_ne]; omega
            go_wp2
            go_round
            case rel => exact ⟨n + 1, by omega, by go_num, by rw [bit_even x (by omega), Crc.bitN, HX.out]⟩
            case measure => simp [intOf]; omega
        · obtain rfl : n = 8 := by omega
          go_wp2
          go_round
          case rel => exact ⟨k + 1, by omega, by go_num, by rw [run_take _ _ _ hl]; rfl⟩
          case measure => simp [intOf]; omega
    · obtain rfl : k = s.size := by omega
      go_wp2
      go_ret
      refine ⟨ret_int ?_, rfl⟩
      have h2 : (4294967295 : Int) = ((BitVec.allOnes 32).toNat : Int) := rfl
      rw [h2, xor_u32, List.take_of_length_le (by simp)]
      unfold Crc.more
      have := (Crc.run (Crc.start sum) s.data.toList ^^^ BitVec.allOnes 32).isLt
      unfold wrap64
      omega
theorem rsum_any (s : ByteArray) (w : World) (hs : s.size ≤ maxLen) :
    Calls Tryd.prog 47 #[.string s] w fun e w' => e = .returned (.int .i64 (Crc.sum s.data.toList)) ∧ w = w' := by
  go_enter Tryd.func47, Tryd.ntmps47
  go_wp2_with (go_at_call 72; refine (rmore_any _ _ _ hs).mono ?_; rintro e w' ⟨rfl, rfl⟩)
  go_ret
  exact ⟨rfl, rfl⟩

end Go.Proofs.YthpplbigmolnjaaDoor.CrcW
