/- Records: the reader of bytes. -/
import Derived.Test.YthpplbigmolnjaaDoorWalB
import Derived.Test.YthpplbigmolnjaaDoorOrd
set_option linter.unusedVariables false
set_option linter.unusedSimpArgs false
set_option maxRecDepth 100000
namespace Go.Proofs.YthpplbigmolnjaaDoor.WalW
open Go.RowKit Go.Proofs.YthpplbigmolnjaaDoor.Tc Go.Proofs.YthpplbigmolnjaaDoor.DiskW WalP Go.Proofs.YthpplbigmolnjaaDoor.FltW

/-- A field.Reader. -/
structure Rd (w : World) (s : Nat) (l : List UInt8) (k : Nat) (err : Value) : Prop where
  st : w.heap[s]? = some (.cells #[.string (tx l), .int .i64 k, err] 123 (0, 0))
theorem tx_cut (l : List UInt8) (k n : Nat) : (tx l).extract k (k + n) = tx ((l.drop k).take n) := by
  apply ByteArray.ext
  apply Array.ext'
  rw [ByteArray.data_extract, Array.toList_extract]
  simp [tx, List.extract]
theorem slice_run (t : ByteArray) (k n : Nat) (h : k + n ≤ t.size) (w : World) : (Instr.slice 9 (.string t) (some (.int .i64 (k : Int))) (some (.int .i64 ((k : Int) + n))) none).run Tryd.prog w = .ok (.string (t.extract k (k + n))) w := by
  rw [run_slice_string (P := Tryd.prog) w 9 t .i64 .i64 _ _ Tryd.underlying9 (by omega) (by omega) (by omega)]
  rw [show ((k : Int) + n).toNat = k + n by omega, Int.toNat_natCast]
theorem new_rd (l : List UInt8) (w : World) : Calls Tryd.prog 66 #[.string (tx l)] w fun e w' => e = .returned (.pointer (some ⟨w.heap.size, 0, none⟩)) ∧ Rd w' w.heap.size l 0 .nilIface ∧ Below w.heap.size w w' := by
  have HB := Lib.hid ((Below.refl w.heap.size w).alloc (Nat.le_refl _) (.cells #[.string (tx l), .int .i64 0, .nilIface] 123))
  have HR := Lib.hid (show Rd (w.alloc (.cells #[.string (tx l), .int .i64 0, .nilIface] 123)) w.heap.size l 0 .nilIface from ⟨heap_alloc_new w _⟩)
  go_enter Tryd.func66, Tryd.ntmps66
  go_wp2
  go_ret
  exact ⟨rfl, HR.out, HB.out⟩
theorem off_nil (w : World) (s : Nat) (l : List UInt8) (k : Nat) (h : Rd w s l k .nilIface) : Calls Tryd.prog 81 #[.pointer (some ⟨s, 0, none⟩)] w fun e w' => e = .returned (.bool false) ∧ w = w' := by
  have c2 : w.cell? ⟨s, 2, none⟩ = some .nilIface := cell_of h.st rfl
  clear h
  go_enter Tryd.func81, Tryd.ntmps81
  go_wp2
  go_ret
  exact ⟨rfl, rfl⟩
theorem off_err (w : World) (s : Nat) (l : List UInt8) (k : Nat) (T : TypeId) (v : Value) (h : Rd w s l k (.iface T v)) : Calls Tryd.prog 81 #[.pointer (some ⟨s, 0, none⟩)] w fun e w' => e = .returned (.bool true) ∧ w = w' := by
  have c2 : w.cell? ⟨s, 2, none⟩ = some (.iface T v) := cell_of h.st rfl
  clear h
  go_enter Tryd.func81, Tryd.ntmps81
  go_wp2
  go_ret
  exact ⟨rfl, rfl⟩
theorem err_any (w : World) (s : Nat) (l : List UInt8) (k : Nat) (v : Value) (h : Rd w s l k v) : Calls Tryd.prog 69 #[.pointer (some ⟨s, 0, none⟩)] w fun e w' => e = .returned v ∧ w = w' := by
  have c2 : w.cell? ⟨s, 2, none⟩ = some v := cell_of h.st rfl
  clear h
  go_enter Tryd.func69, Tryd.ntmps69
  go_wp2
  go_ret
  exact ⟨rfl, rfl⟩
set_option maxHeartbeats 1000000 in
theorem raw_off (w : World) (s : Nat) (l : List UInt8) (k : Nat) (n : Int) (T : TypeId) (v : Value) (h : Rd w s l k (.iface T v)) : Calls Tryd.prog 68 #[.pointer (some ⟨s, 0, none⟩), .int .i64 n] w fun e w' => e = .returned (.string (tx [])) ∧ w = w' := by
  have HO := Lib.hid (off_err w s l k T v h)
  clear h
  go_enter Tryd.func68, Tryd.ntmps68
  go_wp2_with fail
  refine HO.out.mono ?_
  rintro e w1 ⟨rfl, rfl⟩
  go_wp2_with fail
  go_ret
  exact ⟨rfl, rfl⟩
set_option maxHeartbeats 4000000 in
theorem raw_ok (w : World) (s : Nat) (l : List UInt8) (k n : Nat) (h : Rd w s l k .nilIface) (hl : l.length ≤ 1000000) (hk : k + n ≤ l.length) :
    Calls Tryd.prog 68 #[.pointer (some ⟨s, 0, none⟩), .int .i64 n] w fun e w' => e = .returned (.string (tx ((l.drop k).take n))) ∧ Rd w' s l (k + n) .nilIface ∧ Tch [s] w w' := by
  have c0 : w.cell? ⟨s, 0, none⟩ = some (.string (tx l)) := cell_of h.st rfl
  have c1 : w.cell? ⟨s, 1, none⟩ = some (.int .i64 k) := cell_of h.st rfl
  have f1 := free_of h.st 1
  have HO := Lib.hid (off_nil w s l k h)
  have HX := Lib.hid (tx_cut l k n)
  have hsz := tx_size l
  have hs1 : ((tx l).size : Int) = l.length := by rw [hsz]
  have hsl := slice_run (tx l) k n (by omega)
  have HR := Lib.hid (fun j => show Rd ((w.drewN j).setCell ⟨s, 1, none⟩ (.int .i64 ((k : Int) + n))) s l (k + n) .nilIface from ⟨by
    have := set_of (w := w.drewN j) h.st 1 (.int .i64 ((k : Int) + n))
    simpa using this⟩)
  have HT := Lib.hid (fun j => show Tch [s] w ((w.drewN j).setCell ⟨s, 1, none⟩ (.int .i64 ((k : Int) + n))) from ((Tch.refl [s] w).drewN j).setCell (.inl (by simp)) _)
  generalize tx l = t at *
  clear h hsz
  go_enter Tryd.func68, Tryd.ntmps68
  go_wp2_with fail
  refine HO.out.mono ?_
  rintro e w1 ⟨rfl, rfl⟩
  go_wp2_with fail
  go_quiet (fail)
  go_wp2
  go_quiet (fail)
  go_wp2
  go_ret
  exact ⟨congrArg _ (congrArg _ HX.out), HR.out _, HT.out _⟩
/-- What New lays where a read fails. -/
theorem new_err (k : Int) (T : TypeId) (v : Value) (w : World) : Calls Tryd.prog 11 #[.int .i64 129, .int .i64 k, .iface T v] w fun e w' => e = .returned (.iface 56 (.pointer (some ⟨w.heap.size, 0, none⟩))) ∧ Below w.heap.size w w' :=
  (new_any 129 k T v w).mono fun e w' h => ⟨h.1, h.2.2⟩
set_option maxHeartbeats 4000000 in
theorem raw_short (w : World) (s : Nat) (l : List UInt8) (k n : Nat) (h : Rd w s l k .nilIface) (hl : l.length ≤ 1000000) (hkl : k ≤ l.length) (hk : l.length < k + n) (hn : (n : Int) < 9223372036854775807) (a : Nat → Addr) (hE : EnvF w a) :
    Calls Tryd.prog 68 #[.pointer (some ⟨s, 0, none⟩), .int .i64 n] w fun e w' => e = .returned (.string (tx [])) ∧ (∃ v, Rd w' s l k (.iface 56 v)) ∧ Tch [s] w w' := by
  have c0 : w.cell? ⟨s, 0, none⟩ = some (.string (tx l)) := cell_of h.st rfl
  have c1 : w.cell? ⟨s, 1, none⟩ = some (.int .i64 k) := cell_of h.st rfl
  have g0 := hE.var 0 (by decide)
  have HO := Lib.hid (off_nil w s l k h)
  have hsz := tx_size l
  have hs1 : ((tx l).size : Int) = l.length := by rw [hsz]
  generalize tx l = t at c0 hs1
  have H := Lib.hid h
  obtain ⟨m, hm⟩ : ∃ m : Int, m = n := ⟨_, rfl⟩
  rw [← hm]
  have m0 : ¬ m < 0 := by omega
  have m1 : (l.length : Int) - k < m := by omega
  clear h hsz hk hn hE hm
  go_enter Tryd.func68, Tryd.ntmps68
  go_wp2_with fail
  refine HO.out.mono ?_
  rintro e w1 ⟨rfl, rfl⟩
  go_wp2_with fail
  go_quiet (fail)
  go_upto_region 7 with (fail)
  have d0 := fun n : Wd (Gr (w.drewN nq)) => n.cell (show (w.drewN nq).cell? ⟨s, 0, none⟩ = some (.string t) from c0)
  have d1 := fun n : Wd (Gr (w.drewN nq)) => n.cell (show (w.drewN nq).cell? ⟨0, 0, none⟩ = some (.iface 96 (.pointer (some (a 0)))) from g0)
  refine wp_region_G (n := 11) (Gr (w.drewN nq)) rfl (by kernel_rfl) (gr_drew _) (fun hS => ?_)
  refine wpAnyG_seg (fuel := 4) [0, 1, 2, 3, 4, 5, 6] rfl rfl (by kernel_rfl) (fun _ _ d _ _ h => by cases d <;> exact h) hS ?_
  repeat (go_big_quiet_step (fail))
  refine wpQuiet_nil ?_
  refine wpAnyG_alone (fuel := 3) 7 (by kernel_rfl) rfl hS (fun K hK => ?_)
  go_simp
  refine (new_err _ _ _ _).mono ?_
  rintro e w2 ⟨rfl, hb⟩
  have hT2 : Tch [] w w2 := ((Tch.refl [] w).drewN (nq + 1)).trans (Tch.of_below hb)
  have hst := (hT2.block s (lt_of_block H.out.st) (by simp)).trans H.out.st
  have e2 : w2.cell? ⟨s, 2, none⟩ = some .nilIface := cell_of hst rfl
  have f2 := free_of hst 2
  have hR := set_of hst 2 (.iface 56 (.pointer (some ⟨w.heap.size, 0, none⟩)))
  have HR := Lib.hid (show Rd (w2.setCell ⟨s, 2, none⟩ (.iface 56 (.pointer (some ⟨w.heap.size, 0, none⟩)))) s l k (.iface 56 (.pointer (some ⟨w.heap.size, 0, none⟩))) from ⟨by simpa using hR⟩)
  have HT := Lib.hid (show Tch [s] w (w2.setCell ⟨s, 2, none⟩ (.iface 56 (.pointer (some ⟨w.heap.size, 0, none⟩)))) from (hT2.mono (by simp)).setCell (.inl (by simp)) _)
  have HG := Lib.hid (show ∀ u, Below w2.heap.size w2 u → Gr (w.drewN nq) u from fun u hu => ((⟨rfl, rfl, rfl, Nat.le_refl _, fun _ _ => rfl⟩ : Below w.heap.size (w.drewN nq) (w.drewN (nq + 1))).trans hb).trans (hu.mono hb.size))
  have HB0 := Lib.hid (Below.refl w2.heap.size w2)
  clear hT2 hst hR hb
  go_wp2_with fail
  refine hK.out (Gr w2) _ _ HG.out HB0.out (fun hS => ?_)
  clear hK K
  refine wpAnyG_seg (fuel := 1) [8, 9] rfl rfl (by kernel_rfl) (fun _ _ d _ _ h => by cases d <;> exact h) hS ?_
  repeat (go_big_quiet_step (fail))
  refine wpQuiet_nil ?_
  refine wpAnyG_sealed (fuel := 0) 10 (by kernel_rfl) (by kernel_rfl) rfl (fun K hK => ?_)
  go_simp
  refine hK.out (fun _ => True) _ _ trivial (fun hS => ?_)
  clear hK K hS e2 f2
  refine wpAnyG_end (by kernel_rfl) ?_
  go_wp2_with fail
  go_ret
  exact ⟨rfl, ⟨_, HR.out⟩, HT.out⟩
/-- The bytes' number, one byte more. -/
theorem val_take {l : List UInt8} {k : Nat} (h : k < l.length) : val (l.take (k + 1)) = val (l.take k) * 256 + (l[k]'h).toNat := by
  rw [List.take_succ_eq_append_getElem h]
  unfold val
  rw [List.foldl_append]
  rfl
theorem wrap64_id (x : Int) (h0 : -9223372036854775808 ≤ x) (h1 : x ≤ 9223372036854775807) : wrap64 x = x := by
  unfold wrap64
  omega
theorem or_byte (a b : Nat) (ha : a < 4294967296) (hb : b < 256) : bits .or .i64 (wrap64 ((a : Int) * 256)) (wrap64 (b : Int)) = ((a * 256 + b : Nat) : Int) := by
  rw [wrap64_id _ (by omega) (by omega), wrap64_id _ (by omega) (by omega)]
  rw [bits_join .i64 40 (by decide) (fun n h0 h1 => by rw [IntKind.wrap_i64]; omega) 8 _ _ (by omega) (by omega) (by omega) (by omega) (by omega) (by omega)]
  omega
set_option maxHeartbeats 4000000 in
theorem number_rd (w : World) (s : Nat) (P : World → Prop) (b : List UInt8) (hb : b.length ≤ 4)
    (hraw : Calls Tryd.prog 68 #[.pointer (some ⟨s, 0, none⟩), .int .i64 4] w fun e w' => e = .returned (.string (tx b)) ∧ P w') (hP : ∀ u u', P u → Below u.heap.size u u' → P u') :
    Calls Tryd.prog 80 #[.pointer (some ⟨s, 0, none⟩), .int .i64 4] w fun e w' => e = .returned (.int .i64 (val b : Int)) ∧ P w' := by
  have HRAW := Lib.hid hraw
  have hc := fun w => Lib.run_convert_string_bytes (P := Tryd.prog) w 9 45 5 (tx b) Tryd.underlying9 Tryd.underlying45 Tryd.underlying5
  have HB := Lib.hid (fun w => CrcW.below_bytes w 5 (tx b))
  have HC := Lib.hid (fun w => Lib.bytesWorld_cell w 5 (tx b))
  have HPP := Lib.hid hP
  have hsz := tx_size b
  clear hraw hP
  go_enter Tryd.func80, Tryd.ntmps80
  go_wp2_with fail
  refine HRAW.out.mono ?_
  rintro e w1 ⟨rfl, hp⟩
  have HP1 := Lib.hid (HPP.out _ _ hp (HB.out w1))
  clear hp
  go_wp2_with fail
  go_loopw [5, 13] (fun v i wr => wr = Lib.bytesWorld w1 5 (tx b) ∧ ∃ k : Nat, k ≤ b.length ∧ i = .int .i64 k ∧ v = .int .i64 (val (b.take k) : Nat)) (fun _ i _ => b.length - (intOf i).toNat)
  case atStart => exact ⟨rfl, 0, by omega, rfl, rfl⟩
  case round =>
    obtain ⟨rfl, k, hk, rfl, rfl⟩ := hrel
    by_cases hlt : k < b.length
    · have hcell := HC.out w1 k (by rw [tx_size]; exact hlt)
      have HE := Lib.hid (show bits .or .i64 (wrap64 ((val (b.take k) : Int) * 256)) (wrap64 (((tx b).data.toList.getD k 0).toNat : Int)) = (val (b.take (k + 1)) : Int) by
        rw [tx_list, val_take hlt, or_byte _ _ (val_lt (by rw [List.length_take]; omega)) (UInt8.toNat_lt _), List.getD_eq_getElem?_getD, List.getElem?_eq_getElem hlt, Option.getD_some])
      generalize ((tx b).data.toList.getD k 0).toNat = y at *
      generalize val (b.take k) = x at *
      go_wp2
      go_roundw
      case rel => exact ⟨trivial, k + 1, by omega, by go_num, by rw [HE.out]⟩
      case measure => simp [intOf]; omega
    · obtain rfl : k = b.length := by omega
      rw [List.take_of_length_le (Nat.le_refl _)]
      go_wp2
      go_ret
      exact ⟨rfl, HP1.out⟩
set_option maxHeartbeats 1000000 in
theorem u32_rd (w : World) (s : Nat) (P : World → Prop) (b : List UInt8) (hb : b.length ≤ 4)
    (hraw : Calls Tryd.prog 68 #[.pointer (some ⟨s, 0, none⟩), .int .i64 4] w fun e w' => e = .returned (.string (tx b)) ∧ P w') (hP : ∀ u u', P u → Below u.heap.size u u' → P u') :
    Calls Tryd.prog 67 #[.pointer (some ⟨s, 0, none⟩)] w fun e w' => e = .returned (.int .i64 (val b : Int)) ∧ P w' := by
  have HN := Lib.hid (number_rd w s P b hb hraw hP)
  clear hraw hP
  go_enter Tryd.func67, Tryd.ntmps67
  go_wp2_with fail
  refine HN.out.mono ?_
  rintro e w1 ⟨rfl, hp⟩
  have HP := Lib.hid hp
  clear hp
  go_wp2_with fail
  go_ret
  exact ⟨rfl, HP.out⟩
theorem Rd.grown {w w' : World} {s : Nat} {l : List UInt8} {k : Nat} {v : Value} (h : Rd w s l k v) (hb : Below w.heap.size w w') : Rd w' s l k v := ⟨(hb.block s (lt_of_block h.st)).trans h.st⟩
theorem u32_ok (w : World) (s : Nat) (l : List UInt8) (k : Nat) (h : Rd w s l k .nilIface) (hl : l.length ≤ 1000000) (hk : k + 4 ≤ l.length) :
    Calls Tryd.prog 67 #[.pointer (some ⟨s, 0, none⟩)] w fun e w' => e = .returned (.int .i64 (val ((l.drop k).take 4) : Int)) ∧ Rd w' s l (k + 4) .nilIface ∧ Tch [s] w w' :=
  u32_rd w s (fun w' => Rd w' s l (k + 4) .nilIface ∧ Tch [s] w w') _ (by rw [List.length_take]; omega) (raw_ok w s l k 4 h hl hk) (fun u u' ⟨h1, h2⟩ hb => ⟨h1.grown hb, h2.trans (Tch.of_below hb)⟩)
theorem u32_short (w : World) (s : Nat) (l : List UInt8) (k : Nat) (h : Rd w s l k .nilIface) (hl : l.length ≤ 1000000) (hkl : k ≤ l.length) (hk : l.length < k + 4) (a : Nat → Addr) (hE : EnvF w a) :
    Calls Tryd.prog 67 #[.pointer (some ⟨s, 0, none⟩)] w fun e w' => e = .returned (.int .i64 0) ∧ (∃ v, Rd w' s l k (.iface 56 v)) ∧ Tch [s] w w' :=
  u32_rd w s (fun w' => (∃ v, Rd w' s l k (.iface 56 v)) ∧ Tch [s] w w') [] (by simp) (raw_short w s l k 4 h hl hkl hk (by decide) a hE) (fun u u' ⟨⟨v, h1⟩, h2⟩ hb => ⟨⟨v, h1.grown hb⟩, h2.trans (Tch.of_below hb)⟩)
theorem u32_off (w : World) (s : Nat) (l : List UInt8) (k : Nat) (T : TypeId) (v : Value) (h : Rd w s l k (.iface T v)) :
    Calls Tryd.prog 67 #[.pointer (some ⟨s, 0, none⟩)] w fun e w' => e = .returned (.int .i64 0) ∧ Rd w' s l k (.iface T v) ∧ Tch [] w w' :=
  u32_rd w s (fun w' => Rd w' s l k (.iface T v) ∧ Tch [] w w') [] (by simp) ((raw_off w s l k 4 T v h).mono fun e w' ⟨he, hw⟩ => ⟨he, hw ▸ h, hw ▸ Tch.refl _ _⟩) (fun u u' ⟨h1, h2⟩ hb => ⟨h1.grown hb, h2.trans (Tch.of_below hb)⟩)
end Go.Proofs.YthpplbigmolnjaaDoor.WalW
