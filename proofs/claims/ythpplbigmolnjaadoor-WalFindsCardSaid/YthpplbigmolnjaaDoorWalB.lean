/- Records: a frame. -/
import Derived.Test.YthpplbigmolnjaaDoorWalA
set_option linter.unusedVariables false
set_option linter.unusedSimpArgs false
set_option maxRecDepth 100000
namespace Go.Proofs.YthpplbigmolnjaaDoor.WalW
open Go.RowKit Go.Proofs.YthpplbigmolnjaaDoor.Tc Go.Proofs.YthpplbigmolnjaaDoor.DiskW WalP

/-- A text of bytes. -/
def tx (l : List UInt8) : ByteArray := ⟨l.toArray⟩
theorem tx_list (l : List UInt8) : (tx l).data.toList = l := rfl
theorem tx_size (l : List UInt8) : (tx l).size = l.length := by simp [tx, ByteArray.size]
theorem tx_append (a b : List UInt8) : tx a ++ tx b = tx (a ++ b) := by
  apply ByteArray.ext
  apply Array.ext'
  rw [ByteArray.toList_data_append]
  rfl
theorem tx_of (s : ByteArray) : tx s.data.toList = s := by
  apply ByteArray.ext
  apply Array.ext'
  rfl
theorem tx_inj {a b : List UInt8} (h : tx a = tx b) : a = b := by
  have := congrArg (fun s : ByteArray => s.data.toList) h
  exact this
theorem conv_own {w : World} {v : Value} {l : List UInt8} (h : w.ownsRow 0 5 1 v l.length (bcs l)) : (convert 45 9 v).run Tryd.prog w = .ok (.string (tx l)) w := by
  by_cases h0 : l.length = 0
  · obtain rfl : l = [] := List.eq_nil_of_length_eq_zero h0
    obtain ⟨A, c, rfl⟩ := own_form h
    rcases h.2 with ⟨h2, _⟩ | ⟨g, cap, cur, h2, _⟩
    · rw [h2]
      exact Go.run_convert_bytes_nil w 45 5 Tryd.underlying45 Tryd.underlying5 0 0 9 Tryd.underlying9
    · rw [h2]
      show (convert 45 9 (.slice (some ⟨g, 0, none⟩) 0 cap)).run Tryd.prog w = .ok (.string (tx [])) w
      rw [Go.run_convert_bytes_arg (P := Tryd.prog) w 45 5 Tryd.underlying45 Tryd.underlying5 g 0 0 cap [] (by simp) (fun i hi => by simp at hi) 9 Tryd.underlying9]
      rfl
  · obtain ⟨g, c, rfl, -, hc⟩ := own_cells h (by omega)
    rw [Go.run_convert_bytes_arg (P := Tryd.prog) w 45 5 Tryd.underlying45 Tryd.underlying5 g 0 l.length c (l.map fun b => (b.toNat : Int)) (by simp) (fun i hi => by
      rw [Nat.zero_add]
      refine hc i _ ?_
      simp [bcs, List.getElem?_eq_getElem hi, List.getD]) 9 Tryd.underlying9]
    congr 2
    have e : (strOfNums (l.map fun b => (b.toNat : Int))).data.toList = l := by
      rw [strOfNums_data, List.map_map]
      conv => rhs; rw [← List.map_id l]
      apply List.map_congr_left
      intro b _
      simp
    apply ByteArray.ext
    apply Array.ext'
    exact e
set_option maxHeartbeats 1000000 in
theorem u32_any (w : World) (s : Nat) (n : Int) (n0 : 0 ≤ n) (n1 : n < 4294967296) (h : Wr w s (.slice none 0 0) []) :
    Calls Tryd.prog 73 #[.pointer (some ⟨s, 0, none⟩), .int .i64 n] w fun e w' => e = .returned (.tuple #[]) ∧ (∃ v, Wr w' s v (num4 n.toNat)) ∧ Below s w w' := by
  have H := Lib.hid (put_any w s n n0 n1 h)
  clear h
  go_enter Tryd.func73, Tryd.ntmps73
  go_wp2_with fail
  refine H.out.mono ?_
  rintro e w1 ⟨rfl, hA, hB⟩
  have HA := Lib.hid hA
  have HB := Lib.hid hB
  clear hA hB
  go_wp2_with fail
  go_returns
  exact ⟨rfl, HA.out, HB.out⟩
set_option maxHeartbeats 1000000 in
theorem bytes_wr (w : World) (s : Nat) (v : Value) (l : List UInt8) (h : Wr w s v l) :
    Calls Tryd.prog 74 #[.pointer (some ⟨s, 0, none⟩)] w fun e w' => e = .returned (.tuple #[.string (tx l), .nilIface]) ∧ w = w' := by
  have c0 : w.cell? ⟨s, 0, none⟩ = some v := cell_of h.st rfl
  have c1 : w.cell? ⟨s, 1, none⟩ = some .nilIface := cell_of h.st rfl
  have hcv := conv_own h.own
  obtain ⟨A, c, rfl⟩ := own_form h.own
  clear h
  go_enter Tryd.func74, Tryd.ntmps74
  go_wp2
  go_returns
  exact ⟨rfl, rfl⟩
set_option maxHeartbeats 1000000 in
/-- wal.number. -/
theorem number_any (n : Int) (n0 : 0 ≤ n) (n1 : n < 4294967296) (w : World) :
    Calls Tryd.prog 49 #[.int .i64 n] w fun e w' => e = .returned (.string (tx (num4 n.toNat))) ∧ Below w.heap.size w w' := by
  have hb := (Below.refl w.heap.size w).alloc (Nat.le_refl _) (.cells #[.slice none 0 0, .nilIface] 113)
  have hw : Wr (w.alloc (.cells #[.slice none 0 0, .nilIface] 113)) w.heap.size (.slice none 0 0) [] := ⟨heap_alloc_new w _, own_nil _ 5 1, by intro g hg; simp [Value.ownBlock] at hg⟩
  have HU := Lib.hid (u32_any _ _ n n0 n1 hw)
  have HB := Lib.hid hb
  clear hb hw
  go_enter Tryd.func49, Tryd.ntmps49
  go_wp2_with fail
  refine HU.out.mono ?_
  rintro e w1 ⟨rfl, ⟨v, hw⟩, hb⟩
  have HBY := Lib.hid (bytes_wr w1 _ v _ hw)
  have HB1 := Lib.hid (HB.out.trans hb)
  clear hw hb
  go_wp2_with fail
  refine HBY.out.mono ?_
  rintro e w2 ⟨rfl, rfl⟩
  go_wp2_with fail
  go_ret
  exact ⟨rfl, HB1.out⟩
/-- A number's last bytes. -/
def lasts (n : Nat) : Nat → List UInt8
  | 0 => []
  | k + 1 => UInt8.ofNat (n / 256 ^ k) :: lasts n k
theorem lasts_length (n k : Nat) : (lasts n k).length = k := by
  induction k with
  | zero => rfl
  | succ k ih => simp [lasts, ih]
theorem lasts_four (n : Nat) : lasts n 4 = num4 n := by simp [lasts, num4]
set_option maxHeartbeats 1000000 in
/-- The document's. -/
theorem rnumber_any (n : Nat) (n1 : (n : Int) < 9223372036854775807) (w : World) :
    Calls Tryd.prog 48 #[.int .i64 (n : Int), .int .i64 4] w fun e w' => e = .returned (.string (tx (num4 n))) ∧ Below w.heap.size w w' := by
  have hc := fun (w : World) (b : Int) (hb : ∃ u : UInt8, (u.toNat : Int) = b) => show (convert 45 9 (.slice (some ⟨w.heap.size, 0, none⟩) 1 1)).run Tryd.prog (w.alloc (.cells #[.int .u8 b] 5)) = .ok (.string (tx [UInt8.ofNat b.toNat])) (w.alloc (.cells #[.int .u8 b] 5)) by
    obtain ⟨u, rfl⟩ := hb
    rw [Go.run_convert_bytes_arg (P := Tryd.prog) _ 45 5 Tryd.underlying45 Tryd.underlying5 w.heap.size 0 1 1 [(u.toNat : Int)] (by simp) (fun i hi => by
      obtain rfl : i = 0 := by simpa using hi
      exact cell_of (heap_alloc_new w _) rfl) 9 Tryd.underlying9]
    congr 2
  have HC := Lib.hid hc
  have N1 := Lib.hid n1
  clear hc n1
  go_enter Tryd.func48, Tryd.ntmps48
  go_wp2
  go_loopw [0, 5, 6] (fun m s x wr => ∃ k : Nat, k ≤ 4 ∧ x = .int .i64 k ∧ m = .int .i64 (n / 256 ^ k : Nat) ∧ s = .string (tx (lasts n k)) ∧ Below w.heap.size w wr) (fun _ _ x _ => 4 - (intOf x).toNat)
  case atStart => exact ⟨0, by omega, rfl, by simp, rfl, Below.refl _ _⟩
  case round =>
    obtain ⟨k, hk, rfl, rfl, rfl, hb⟩ := hrel
    have HB := Lib.hid hb
    by_cases h4 : k < 4
    · obtain ⟨m, hm⟩ : ∃ m : Int, m = ((n / 256 ^ k : Nat) : Int) := ⟨_, rfl⟩
      have m0 : 0 ≤ m := by rw [hm]; exact Int.natCast_nonneg _
      have m1 : m < 9223372036854775807 := by
        have := Nat.div_le_self n (256 ^ k)
        have n1 := N1.out
        rw [hm]
        omega
      have hcv := HC.out wr (m % 256) ⟨UInt8.ofNat (m % 256).toNat, by rw [UInt8.toNat_ofNat']; omega⟩
      have hsz : (tx (lasts n k)).size ≤ 4 := by rw [tx_size, lasts_length]; exact hk
      rw [← hm]
      have HM := Lib.hid hm
      generalize hy : tx (lasts n k) = y at *
      have HY := Lib.hid hy
      have k4 : (k : Int) < 4 := by omega
      obtain ⟨z, hz⟩ : ∃ z, z = tx [UInt8.ofNat (m % 256).toNat] := ⟨_, rfl⟩
      have hzs : z.size ≤ 1 := by rw [hz, tx_size]; exact Nat.le_refl _
      rw [← hz] at hcv
      have HZ := Lib.hid hz
      clear hm hb hy hz
      go_wp2
      go_roundw
      case rel =>
        refine ⟨k + 1, by omega, by go_num, ?_, ?_, HB.out.alloc HB.out.size _⟩
        · rw [HM.out, Nat.pow_succ, ← Nat.div_div_eq_div_mul]
          congr 1
        · rw [← HY.out, HZ.out, tx_append]
          congr 2
          rw [lasts, List.singleton_append]
          congr 1
          apply UInt8.toNat_inj.1
          rw [UInt8.toNat_ofNat', UInt8.toNat_ofNat', HM.out]
          omega
      case measure => simp [intOf]; omega
    · obtain rfl : k = 4 := by omega
      rw [lasts_four]
      clear hb
      go_wp2
      go_ret
      exact ⟨rfl, HB.out⟩
theorem i64_of (n : Nat) : Value.int IntKind.i64 (n : Int) = .int .i64 n := rfl
theorem sum_tx (l : List UInt8) (hl : l.length ≤ 1000000) (w : World) : Calls Tryd.prog 51 #[.string (tx l)] w fun e w' => e = .returned (.int .i64 (crc l : Int)) ∧ Below w.heap.size w w' := by
  have := CrcW.sum_any (tx l) w (by rw [tx_size]; unfold maxLen; omega)
  rw [tx_list, crc_sum] at this
  exact this
theorem rsum_tx (l : List UInt8) (hl : l.length ≤ 1000000) (w : World) : Calls Tryd.prog 47 #[.string (tx l)] w fun e w' => e = .returned (.int .i64 (crc l : Int)) ∧ w = w' := by
  have := CrcW.rsum_any (tx l) w (by rw [tx_size]; unfold maxLen; omega)
  rw [tx_list, crc_sum] at this
  exact this
theorem more_tx (a l : List UInt8) (hl : l.length ≤ 1000000) (w : World) : Calls Tryd.prog 50 #[.int .i64 (crc a : Int), .string (tx l)] w fun e w' => e = .returned (.int .i64 (crc (a ++ l) : Int)) ∧ Below w.heap.size w w' := by
  have := CrcW.more_any (crc a) (tx l) w (by rw [tx_size]; unfold maxLen; omega)
  rw [tx_list, ← crc_sum, ← Crc.more_more, crc_sum, crc_sum] at this
  exact this
set_option maxHeartbeats 1000000 in
/-- wal.Put. -/
theorem wput_any (b : List UInt8) (hb : b.length ≤ 70000) (w : World) :
    Calls Tryd.prog 21 #[.string (tx b)] w fun e w' => e = .returned (.string (tx (put b))) ∧ Below w.heap.size w w' := by
  have hsz := tx_size b
  have HN := Lib.hid (fun w' => number_any (b.length : Int) (by omega) (by omega) w')
  have HS := Lib.hid (fun w' => sum_tx (num4 b.length) (by simp [num4_length]) w')
  have HM := Lib.hid (fun w' => more_tx (num4 b.length) b (by omega) w')
  have HC := Lib.hid (fun w' => number_any (crc (num4 b.length ++ b) : Int) (by omega) (by have := crc_lt (num4 b.length ++ b); omega) w')
  rw [Int.toNat_natCast] at HN HC
  have HP := Lib.hid (show tx (num4 b.length) ++ tx (num4 (crc (num4 b.length ++ b))) ++ tx b = tx (put b) by
    rw [tx_append, tx_append, put, List.append_assoc])
  have s1 : (tx (num4 b.length)).size ≤ 4 := by rw [tx_size, num4_length]; exact Nat.le_refl _
  have s2 : (tx (num4 (crc (num4 b.length ++ b)))).size ≤ 4 := by rw [tx_size, num4_length]; exact Nat.le_refl _
  have s3 : (tx b).size ≤ 70000 := by omega
  generalize hi : (b.length : Int) = i at *
  have hsz' : ((tx b).size : Int) = i := by omega
  generalize tx (num4 b.length) = t1 at *
  generalize tx (num4 (crc (num4 b.length ++ b))) = t2 at *
  generalize (crc (num4 b.length ++ b) : Int) = c2 at *
  generalize (crc (num4 b.length) : Int) = c1 at *
  generalize tx (put b) = tp at *
  generalize tx b = tb at *
  clear hsz hi
  go_enter Tryd.func21, Tryd.ntmps21
  go_wp2_with fail
  refine (HN.out _).mono ?_
  rintro e w1 ⟨rfl, hb1⟩
  have HB1 := Lib.hid hb1
  clear hb1
  go_wp2_with fail
  refine (HS.out _).mono ?_
  rintro e w2 ⟨rfl, hb2⟩
  have HB2 := Lib.hid (then_below HB1.out hb2)
  clear hb2
  go_wp2_with fail
  refine (HM.out _).mono ?_
  rintro e w3 ⟨rfl, hb3⟩
  have HB3 := Lib.hid (then_below HB2.out hb3)
  clear hb3
  go_wp2_with fail
  refine (HC.out _).mono ?_
  rintro e w4 ⟨rfl, hb4⟩
  have HB4 := Lib.hid (then_below HB3.out hb4)
  clear hb4
  go_wp2_with fail
  go_ret
  exact ⟨congrArg _ (congrArg _ HP.out), HB4.out⟩
set_option maxHeartbeats 1000000 in
/-- The document's. -/
theorem rput_any (b : List UInt8) (hb : b.length ≤ 70000) (w : World) :
    Calls Tryd.prog 22 #[.string (tx b)] w fun e w' => e = .returned (.string (tx (put b))) ∧ Below w.heap.size w w' := by
  have hsz := tx_size b
  have HN := Lib.hid (fun w' => rnumber_any b.length (by omega) w')
  have HS := Lib.hid (fun w' => rsum_tx (num4 b.length ++ b) (by rw [List.length_append, num4_length]; omega) w')
  have HC := Lib.hid (fun w' => rnumber_any (crc (num4 b.length ++ b)) (by have := crc_lt (num4 b.length ++ b); omega) w')
  rw [← tx_append] at HS
  have HP := Lib.hid (show tx (num4 b.length) ++ tx (num4 (crc (num4 b.length ++ b))) ++ tx b = tx (put b) by
    rw [tx_append, tx_append, put, List.append_assoc])
  have s1 : (tx (num4 b.length)).size ≤ 4 := by rw [tx_size, num4_length]; exact Nat.le_refl _
  have s2 : (tx (num4 (crc (num4 b.length ++ b)))).size ≤ 4 := by rw [tx_size, num4_length]; exact Nat.le_refl _
  have s3 : (tx b).size ≤ 70000 := by omega
  generalize hi : (b.length : Int) = i at *
  have hsz' : ((tx b).size : Int) = i := by omega
  generalize tx (num4 b.length) = t1 at *
  generalize tx (num4 (crc (num4 b.length ++ b))) = t2 at *
  generalize (crc (num4 b.length ++ b) : Int) = c2 at *
  generalize tx (put b) = tp at *
  generalize tx b = tb at *
  clear hsz hi
  go_enter Tryd.func22, Tryd.ntmps22
  go_wp2_with fail
  refine (HN.out _).mono ?_
  rintro e w1 ⟨rfl, hb1⟩
  have HB1 := Lib.hid hb1
  clear hb1
  go_wp2_with fail
  refine (HS.out _).mono ?_
  rintro e w2 ⟨rfl, rfl⟩
  go_wp2_with fail
  refine (HC.out _).mono ?_
  rintro e w3 ⟨rfl, hb3⟩
  have HB3 := Lib.hid (then_below HB1.out hb3)
  clear hb3
  go_wp2_with fail
  go_ret
  exact ⟨congrArg _ (congrArg _ HP.out), HB3.out⟩
end Go.Proofs.YthpplbigmolnjaaDoor.WalW
