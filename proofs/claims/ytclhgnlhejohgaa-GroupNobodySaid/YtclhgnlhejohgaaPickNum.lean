/- The numbers of texts, over the program. -/
import Derived.Test.YtclhgnlhejohgaaProg
import Derived.WalkKit
import Derived.KernelRfl
import Derived.Deep.LoopGhost
import Derived.Deep.QuietTactic
import Derived.BigQuiet
import Derived.Lib.ConvBytes
import Derived.Lib.Hide
import Derived.Test.YtclhgnlhejohgaaFrame
import Derived.Test.YtclhgnlhejohgaaKind
import Derived.Test.YtclhgnlhejohgaaPickPure
set_option linter.unusedVariables false
set_option linter.unusedSimpArgs false
namespace Go.Proofs.Ytclhgnlhejohgaa.PickW
open Go.RowKit Go.Proofs.Ytclhgnlhejohgaa.Tc Go.Proofs.Ytclhgnlhejohgaa.PickP

def byte (b : UInt8) : BitVec 32 := BitVec.ofNat 32 b.toNat
theorem byte_toNat (b : UInt8) : (byte b).toNat = b.toNat := by
  unfold byte
  have := b.toNat_lt
  rw [BitVec.toNat_ofNat]
  omega
def stepB (n : BitVec 32) (c : UInt8) : BitVec 32 := (n ^^^ byte c) * 16777619#32
def mixB (l : List UInt8) : BitVec 32 := l.foldl stepB 2166136261#32
theorem mixB_take (l : List UInt8) (k : Nat) (h : k < l.length) : mixB (l.take (k + 1)) = stepB (mixB (l.take k)) l[k] := by
  unfold mixB
  rw [List.take_succ_eq_append_getElem h, List.foldl_append]; rfl
def mix (s : ByteArray) : Int := ((mixB s.data.toList).toNat : Int)
def nul : ByteArray := ⟨#[0]⟩
def rank (key client : ByteArray) : Int := mix (key ++ nul ++ client)
theorem mix_bd (s : ByteArray) : 0 ≤ mix s ∧ mix s < 4294967296 := by
  unfold mix; have := (mixB s.data.toList).isLt; omega
theorem rank_bd (k s : ByteArray) : 0 ≤ rank k s ∧ rank k s < 4294967296 := mix_bd _

theorem ofInt_u32 (x : BitVec 32) : BitVec.ofInt IntKind.u32.bits (x.toNat : Int) = x := by
  show BitVec.ofInt 32 _ = x
  rw [BitVec.ofInt_natCast, BitVec.ofNat_toNat, BitVec.setWidth_eq]
theorem wrap_u32 (x : BitVec 32) : IntKind.u32.wrap (x.toNat : Int) = (x.toNat : Int) := by
  have := x.isLt
  rw [IntKind.wrap_u32]
  omega
theorem xor_u32 (x y : BitVec 32) : bits .xor .u32 (x.toNat : Int) (y.toNat : Int) = ((x ^^^ y).toNat : Int) := by
  unfold bits
  rw [ofInt_u32, ofInt_u32]
  exact wrap_u32 _
theorem xor_byte (x : BitVec 32) (c : UInt8) : bits .xor .u32 (x.toNat : Int) ((c.toNat : Int) % 4294967296) = ((x ^^^ byte c).toNat : Int) := by
  rw [← xor_u32, byte_toNat]
  have := c.toNat_lt
  rw [show ((c.toNat : Int) % 4294967296) = (c.toNat : Int) by omega]
theorem xor_i64 (x y : BitVec 32) : bits .xor .i64 (x.toNat : Int) (y.toNat : Int) = ((x ^^^ y).toNat : Int) := by
  unfold bits
  show IntKind.i64.wrap ((BitVec.ofInt 64 _ ^^^ BitVec.ofInt 64 _ : BitVec 64).toNat : Int) = _
  rw [BitVec.ofInt_natCast, BitVec.ofInt_natCast]
  have hx := x.isLt
  have hy := y.isLt
  have hz := (x ^^^ y).isLt
  have e : (BitVec.ofNat 64 x.toNat ^^^ BitVec.ofNat 64 y.toNat).toNat = (x ^^^ y).toNat := by
    rw [BitVec.toNat_xor, BitVec.toNat_xor, BitVec.toNat_ofNat, BitVec.toNat_ofNat, Nat.mod_eq_of_lt (by omega), Nat.mod_eq_of_lt (by omega)]
  rw [e]
  exact IntWalk.i64_in _ (by omega)
theorem mul_u32 (x : BitVec 32) : (x.toNat : Int) * 16777619 % 4294967296 = ((x * 16777619#32).toNat : Int) := by
  rw [BitVec.toNat_mul]
  simp
theorem data_getD (s : ByteArray) (k : Nat) (h : k < s.size) : s.data.toList.getD k 0 = s.data.toList[k]'(by simpa using h) := by
  rw [List.getD_eq_getElem?_getD, List.getElem?_eq_getElem (by simpa using h), Option.getD_some]
theorem below_bytes (w : World) (e : TypeId) (s : ByteArray) : Below w.heap.size w (Lib.bytesWorld w e s) :=
  ⟨rfl, rfl, rfl, by rw [Lib.bytesWorld_size]; omega, fun k hk => Lib.bytesWorld_at_old w e s k hk⟩

theorem w64 (n : Int) (h0 : -9223372036854775808 ≤ n) (h1 : n ≤ 9223372036854775807) : wrap64 n = n := by unfold wrap64; omega
set_option maxHeartbeats 1000000 in
theorem mix_any (s : ByteArray) (w : World) (hs : s.size ≤ maxLen) :
    Calls Try.prog 18 #[.string s] w fun e w' => e = .returned (.int .i64 (mix s)) ∧ Below w.heap.size w w' := by
  unfold maxLen at hs
  have hc := fun w => Lib.run_convert_string_bytes (P := Try.prog) w 9 97 5 s Try.underlying9 Try.underlying97 Try.underlying5
  have hb := below_bytes w 5 s
  have HB := Lib.hid hb
  clear hb
  have hcell := Lib.bytesWorld_cell w 5 s
  have HC := Lib.hid hcell
  clear hcell
  go_enter Try.func18, Try.ntmps18
  go_wp2
  go_loopw [3, 9] (fun v i wr => wr = Lib.bytesWorld w 5 s ∧ ∃ k : Nat, k ≤ s.size ∧ i = .int .i64 k ∧ v = .int .u32 ((mixB (s.data.toList.take k)).toNat : Int)) (fun _ i _ => s.size - (intOf i).toNat)
  case atStart => exact ⟨rfl, 0, by omega, rfl, rfl⟩
  case round =>
    obtain ⟨rfl, k, hk, rfl, rfl⟩ := hrel
    by_cases hlt : k < s.size
    · have hcell := HC.out k hlt
      rw [data_getD s k hlt] at hcell
      have hl : k < s.data.toList.length := by simpa using hlt
      go_wp2
      go_roundw
      case rel => exact ⟨trivial, k + 1, by omega, by go_num, by rw [mixB_take _ _ hl, ← Array.getElem_toList, xor_byte, mul_u32]; rfl⟩
      case measure => simp [intOf]; omega
    · obtain rfl : k = s.size := by omega
      go_wp2
      go_ret
      refine ⟨ret_int ?_, HB.out⟩
      rw [List.take_of_length_le (by simp)]
      rfl
set_option maxHeartbeats 1000000 in
theorem rmix_any (s : ByteArray) (w : World) (hs : s.size ≤ maxLen) :
    Calls Try.prog 19 #[.string s] w fun e w' => e = .returned (.int .i64 (mix s)) ∧ w = w' := by
  unfold maxLen at hs
  go_enter Try.func19, Try.ntmps19
  go_wp2
  go_loop [3, 4] (fun v i => ∃ k : Nat, k ≤ s.size ∧ i = .int .i64 k ∧ v = .int .i64 ((mixB (s.data.toList.take k)).toNat : Int)) (fun _ i => s.size - (intOf i).toNat)
  case atStart => exact ⟨0, by omega, rfl, rfl⟩
  case round =>
    obtain ⟨k, hk, rfl, rfl⟩ := hrel
    by_cases hlt : k < s.size
    · have hl : k < s.data.toList.length := by simpa using hlt
      have hx : bits .xor .i64 ((mixB (s.data.toList.take k)).toNat : Int) ((s[k]).toNat : Int) = ((mixB (s.data.toList.take k) ^^^ byte s[k]).toNat : Int) := by
        rw [← xor_i64, byte_toNat]
      have hz := (mixB (s.data.toList.take k) ^^^ byte s[k]).isLt
      have hm : ((mixB (s.data.toList.take k) ^^^ byte s[k]).toNat : Int) * 16777619 % 4294967296 = ((mixB (s.data.toList.take (k + 1))).toNat : Int) := by
        rw [mixB_take _ _ hl, mul_u32]; rfl
      have HM := Lib.hid hm
      clear hm
      generalize mixB (s.data.toList.take k) ^^^ byte s[k] = z at hx hz HM
      go_wp2
      go_round
      case rel => exact ⟨k + 1, by omega, by go_num, by rw [← HM.out, w64 ((s[k]).toNat : Int) (by have := (s[k]).toNat_lt; omega) (by have := (s[k]).toNat_lt; omega), hx, w64 _ (by omega) (by omega), Int.tmod_eq_emod_of_nonneg (by omega)]⟩
      case measure => simp [intOf]; omega
    · obtain rfl : k = s.size := by omega
      go_wp2
      go_ret
      refine ⟨ret_int ?_, rfl⟩
      rw [List.take_of_length_le (by simp)]
      rfl
theorem rank_any (key client : ByteArray) (w : World) (hs : key.size + 1 + client.size ≤ 1000000) :
    Calls Try.prog 20 #[.string key, .string client] w fun e w' => e = .returned (.int .i64 (rank key client)) ∧ Below w.heap.size w w' := by
  have hz : (key ++ nul ++ client).size ≤ maxLen := by
    rw [ByteArray.size_append, ByteArray.size_append]; unfold maxLen; show key.size + 1 + client.size ≤ _; omega
  have HM := Lib.hid (mix_any (key ++ nul ++ client) w hz)
  clear hz
  go_enter Try.func20, Try.ntmps20
  go_wp2_with fail
  refine HM.out.mono ?_
  rintro e w' ⟨rfl, hb⟩
  go_wp2_with fail
  go_ret
  exact ⟨rfl, hb⟩
theorem rrank_any (key client : ByteArray) (w : World) (hs : key.size + 1 + client.size ≤ 1000000) :
    Calls Try.prog 21 #[.string key, .string client] w fun e w' => e = .returned (.int .i64 (rank key client)) ∧ w = w' := by
  have hz : (key ++ nul ++ client).size ≤ maxLen := by
    rw [ByteArray.size_append, ByteArray.size_append]; unfold maxLen; show key.size + 1 + client.size ≤ _; omega
  have HM := Lib.hid (rmix_any (key ++ nul ++ client) w hz)
  clear hz
  go_enter Try.func21, Try.ntmps21
  go_wp2_with fail
  refine HM.out.mono ?_
  rintro e w' ⟨rfl, rfl⟩
  go_wp2_with fail
  go_ret
  exact ⟨rfl, rfl⟩
end Go.Proofs.Ytclhgnlhejohgaa.PickW
