/- Records: a frame changed. -/
import Derived.Test.YthpplbigmolnjaaDoorWalK
import Derived.Test.YthpplbigmolnjaaDoorCrcF
import Derived.OpenShut
set_option linter.unusedVariables false
set_option linter.unusedSimpArgs false
set_option maxRecDepth 100000
namespace Go.Proofs.YthpplbigmolnjaaDoor.WalW
open Go.RowKit Go.Proofs.YthpplbigmolnjaaDoor.Tc Go.Proofs.YthpplbigmolnjaaDoor.DiskW WalP Go.Proofs.YthpplbigmolnjaaDoor.FltW Go.Proofs.YthpplbigmolnjaaDoor.CrcW

theorem flips_behind (a b : List UInt8) (q : Nat) (bits : Int) (h : q + 4 ≤ b.length) : flips (a ++ b) (a.length + q) bits 4 = a ++ flips b q bits 4 := by
  rw [flips_four _ _ _ (by rw [List.length_append]; omega), flips_four _ _ _ h]
  have g : ∀ i, (a ++ b).getD (a.length + q + i) 0 = b.getD (q + i) 0 := by
    intro i
    rw [List.getD_eq_getElem?_getD, List.getElem?_append_right (by omega), List.getD_eq_getElem?_getD]
    congr 2
    omega
  have g0 := g 0
  simp only [Nat.add_zero] at g0
  rw [g0, g 1, g 2, g 3, Nat.add_assoc a.length q 4, List.take_length_add_append, List.drop_length_add_append]
  simp only [List.append_assoc]
theorem flips_ahead (a b : List UInt8) (q : Nat) (bits : Int) (h : q + 4 ≤ a.length) : flips (a ++ b) q bits 4 = flips a q bits 4 ++ b := by
  rw [flips_four _ _ _ (by rw [List.length_append]; omega), flips_four _ _ _ h]
  have g : ∀ i, q + i < a.length → (a ++ b).getD (q + i) 0 = a.getD (q + i) 0 := by
    intro i hi
    rw [List.getD_eq_getElem?_getD, List.getElem?_append_left hi, List.getD_eq_getElem?_getD]
  have g0 := g 0 (by omega)
  simp only [Nat.add_zero] at g0
  rw [g0, g 1 (by omega), g 2 (by omega), g 3 (by omega), List.take_append_of_le_length (by omega), List.drop_append_of_le_length (by omega)]
  simp only [List.append_assoc]
/-- The scan of frames of which one was changed. -/
theorem scan_flips (M : List (List UInt8)) (hM : Small M) (k : Nat) (b : List UInt8) (hk : M[k]? = some b) (q : Nat) (bits : Int) (hq : q + 4 ≤ b.length) (h0 : 0 ≤ bits) (h1 : bits < 4294967296) (hne : bits ≠ 0) :
    scan (flips (puts M) ((puts (M.take k)).length + 8 + q) bits 4) = (M.take k, (puts (M.take k)).length) := by
  have hlt := (List.getElem?_eq_some_iff.1 hk).1
  have hb : b.length ≤ 65536 := hM b (List.mem_of_getElem? hk)
  have hsp : puts M = puts (M.take k) ++ (put b ++ puts (M.drop (k + 1))) := by
    conv => lhs; rw [puts_part M k, List.drop_eq_getElem_cons hlt, (List.getElem?_eq_some_iff.1 hk).2, puts]
  have hc : crc (num4 b.length ++ flips b q bits 4) ≠ crc (num4 b.length ++ b) := by
    have h2 := finds_pure (num4 b.length ++ b) (4 + q) bits (by rw [List.length_append, num4_length]; omega) h0 h1 hne
    rw [show (4 + q : Nat) = (num4 b.length).length + q from rfl, flips_behind _ _ _ _ hq, crc_sum, crc_sum] at h2
    intro e
    exact h2 (by rw [e])
  have h8 : (num4 b.length ++ num4 (crc (num4 b.length ++ b))).length = 8 := rfl
  have hpb : put b = (num4 b.length ++ num4 (crc (num4 b.length ++ b))) ++ b := by rw [put, List.append_assoc]
  rw [hsp, Nat.add_assoc, flips_behind _ _ _ _ (by rw [List.length_append, put_length]; omega), flips_ahead _ _ _ _ (by rw [put_length]; omega)]
  rw [scan_puts _ (fun x hx => hM x (List.mem_of_mem_take hx))]
  have hf : first (flips (put b) (8 + q) bits 4 ++ puts (M.drop (k + 1))) = none := by
    rw [hpb]
    rw [show (8 + q : Nat) = (num4 b.length ++ num4 (crc (num4 b.length ++ b))).length + q from rfl, flips_behind _ _ _ _ hq]
    have := first_bad (b := b) (c := flips b q bits 4) hb (flips_length _ _ _ _) hc (puts (M.drop (k + 1)))
    rw [List.append_assoc (num4 b.length)]
    exact this
  rw [scan_none hf]
  simp
theorem slice_cap {H : Type} {enc : TypeId × Value → H} {w : World} {base : Nat} {sp : Nat → Bool} {held : Bool} {A : Option Addr} {len cap : Nat} {d : DataW H} {ps : List MemPlace}
    (h : DataW.Trod enc Tryd.prog w base sp held 35 (.slice A len cap) d ps) : len ≤ cap := by
  obtain ⟨fuel, hf⟩ := h
  rcases Deep.open_slice Tryd.underlying35 hf with ⟨hc, _⟩ | ⟨a, len', cap', m, n, D, Pl, hc, _, hl, hm, hmm, _, hel⟩
  · simp [Value.cells] at hc
    omega
  · simp [Value.cells] at hc
    omega
theorem strs_cap {H : Type} {enc : TypeId × Value → H} {w : World} {base : Nat} {sp : Nat → Bool} {held : Bool} {A : Option Addr} {len cap : Nat} {d : DataW H} {ps : List MemPlace}
    (h : DataW.Trod enc Tryd.prog w base sp held 35 (.slice A len cap) d ps) : ∃ xs : List ByteArray, xs.length = len ∧ len ≤ cap ∧ SliceIs kS w A xs := by
  obtain ⟨xs, h1, h2⟩ := strs_open h
  exact ⟨xs, h1, slice_cap h, h2⟩
theorem bounds_u16 {n : Int} (h : (Lit.int .u16 n).wf = true) : 0 ≤ n ∧ n ≤ 65535 := by
  unfold Lit.wf at h
  simp only [Bool.and_eq_true, decide_eq_true_eq] at h
  exact h
theorem bounds_u32 {n : Int} (h : (Lit.int .u32 n).wf = true) : 0 ≤ n ∧ n ≤ 4294967295 := by
  unfold Lit.wf at h
  simp only [Bool.and_eq_true, decide_eq_true_eq] at h
  exact h
theorem at_wrap {W8 P q n : Nat} (h1 : W8 = P + 8 + q) (h2 : P ≤ 4160) (h3 : q + 4 ≤ n) (h4 : n ≤ 200) : wrap64 ((P : Int) + 8 + (q : Int)) = (W8 : Int) := by
  rw [wrap64_id _ (by omega) (by omega), h1]
  omega
theorem at_room {W8 P q n m s : Nat} (h1 : W8 = P + 8 + q) (h2 : q + 4 ≤ n) (h3 : P + 8 + n ≤ m) (h4 : s = m) : W8 + 4 ≤ s := by omega
theorem conv_at {w : World} {g : Nat} {l : List UInt8} (h : BytesAt w g l) (cap : Nat) : (convert 45 9 (.slice (some ⟨g, 0, none⟩) l.length cap)).run Tryd.prog w = .ok (.string (tx l)) w := by
  rw [Go.run_convert_bytes_arg (P := Tryd.prog) w 45 5 Tryd.underlying45 Tryd.underlying5 g 0 l.length cap (l.map fun b => (b.toNat : Int)) (by simp) (fun i hi => by
    rw [Nat.zero_add, (h i hi).1]
    simp [List.getElem?_eq_getElem hi, List.getD]) 9 Tryd.underlying9]
  congr 2
  have e : (strOfNums (l.map fun b => (b.toNat : Int))).data.toList = l := by
    rw [strOfNums_data, List.map_map]
    conv => rhs; rw [← List.map_id l]
    apply List.map_congr_left
    intro b _
    simp
  apply ByteArray.ext
  apply Array.ext'
  exact e
/-- Where the frame begins, as the loop reckons it. -/
def frm (M : List (List UInt8)) (k i : Nat) : Int := if k < i then ((puts (M.take k)).length : Int) + 8 else 0
theorem frm_next {M : List (List UInt8)} {k i : Nat} (h : i ≠ k) : frm M k (i + 1) = frm M k i := by
  unfold frm
  by_cases h1 : k < i
  · rw [if_pos h1, if_pos (by omega)]
  · rw [if_neg h1, if_neg (by omega)]
theorem frm_here {M : List (List UInt8)} {k : Nat} : frm M k (k + 1) = ((puts (M.take k)).length : Int) + 8 := by
  unfold frm
  rw [if_pos (by omega)]
set_option maxHeartbeats 8000000 in
theorem finds_few (w : World) (A : Option Addr) (L : List ByteArray) (c : Nat) (a0 a1 bits : Int) (hA : Txt w A L) (hF : Few L) (hLc : L.length ≤ c) (hL0 : L ≠ []) (ha0 : 0 ≤ a0 ∧ a0 ≤ 65535) (ha1 : 0 ≤ a1 ∧ a1 ≤ 65535) (hb : 0 ≤ bits ∧ bits ≤ 4294967295) (hb0 : bits ≠ 0) (a : Nat → Addr) (hE : EnvF w a) :
    Calls Tryd.prog 5 #[.slice A L.length c, .agg #[.int .u16 a0, .int .u16 a1], .int .u32 bits] w fun e w' => e = .returned (.bool true) ∧ Below w.heap.size w w' := by
  obtain ⟨w0, hw0⟩ : ∃ w0, w0 = w.alloc (.cells #[.int .u16 a0, .int .u16 a1] 42) := ⟨_, rfl⟩
  have hba : Below w.heap.size w w0 := by rw [hw0]; exact (Below.refl _ _).alloc (Nat.le_refl _) _
  have hz0 : w0.heap[w.heap.size]? = some (.cells #[.int .u16 a0, .int .u16 a1] 42 (0, 0)) := by rw [hw0]; exact heap_alloc_new w _
  have HE := Lib.hid (hE.below hba)
  have HA := Lib.hid (hA.below hba)
  have HFE := Lib.hid (few_yes w0 A L c (hA.below hba) hF)
  have HBA := Lib.hid hba
  have HZ0 := Lib.hid hz0
  have HW0 := Lib.hid hw0
  have hl20 := hF.1
  have HF := Lib.hid hF
  have hlp : 0 < L.length := List.length_pos_iff.2 hL0
  have hln : ((L.length : Int) == 0) = false := beq_eq_false_iff_ne.2 (by omega)
  have hbn : (bits == 0) = false := beq_eq_false_iff_ne.2 hb0
  have HB0 := Lib.hid hb0
  obtain ⟨k, hk⟩ : ∃ k : Nat, a0 % (L.length : Int) = k := ⟨(a0 % (L.length : Int)).toNat, by
    have := Int.emod_nonneg a0 (show (L.length : Int) ≠ 0 by omega)
    omega⟩
  have hkl : k < L.length := by
    have := Int.emod_lt_of_pos a0 (show (0 : Int) < (L.length : Int) by omega)
    omega
  have HK := Lib.hid hk
  clear hba hz0 hE hA hF hL0 hb0 hk hw0
  go_enter Tryd.func5, Tryd.ntmps5
  go_upto_region 1 with (fail)
  rw [← HW0.out]
  go_wp2_with fail
  refine HFE.out.mono ?_
  rintro e w1 ⟨rfl, rfl⟩
  go_upto_region 3 with (fail)
  have c0 : w0.cell? ⟨w.heap.size, 0, none⟩ = some (.int .u16 a0) := cell_of HZ0.out rfl
  have c1 : w0.cell? ⟨w.heap.size, 1, none⟩ = some (.int .u16 a1) := cell_of HZ0.out rfl
  have hlnz : ¬ (L.length : Int) = 0 := by omega
  go_upto_region 4 with (fail)
  rw [HK.out]
  obtain ⟨x, hx⟩ : ∃ x, L[k]? = some x := ⟨_, List.getElem?_eq_getElem hkl⟩
  obtain ⟨b1, o1, hA1, hcx⟩ := HA.out k x hx
  have HX := Lib.hid hx
  clear hx
  have HMS := Lib.hid (bd_small HF.out)
  have HML := Lib.hid (bd_length L)
  have HPT := Lib.hid (puts_take_le (bd L) HMS.out (by rw [HML.out]; exact hl20))
  have HSM := Lib.hid (show Small (bd L) from fun b hb => by have := HMS.out b hb; omega)
  subst hA1
  by_cases hx4 : (x.size : Int) < 4
  · have HAW := Lib.hid (awake_any w0 a HE.out)
    go_wp2_with fail
    refine HAW.out.mono ?_
    rintro e w2 ⟨rfl, hb⟩
    have HB2 := Lib.hid (HBA.out.trans (hb.mono HBA.out.size))
    clear hb
    go_wp2_with fail
    go_ret
    exact ⟨rfl, HB2.out⟩
  go_wp2_with fail
  go_loopw [8, 9, 10] (fun s f i wr => ∃ j : Nat, j ≤ L.length ∧ s = .string (tx (puts ((bd L).take j))) ∧ f = .int .i64 (frm (bd L) k j) ∧ i = .int .i64 j ∧ Below w0.heap.size w0 wr) (fun _ _ i _ => L.length - (intOf i).toNat)
  case atStart => exact ⟨0, by omega, rfl, rfl, rfl, Below.refl _ _⟩
  case round =>
    obtain ⟨j, hj, rfl, rfl, rfl, hbl⟩ := hrel
    have HBL := Lib.hid hbl
    clear hbl
    by_cases hlt : j < L.length
    · obtain ⟨y, hy⟩ : ∃ y, L[j]? = some y := ⟨_, List.getElem?_eq_getElem hlt⟩
      have hy2 : (bd L)[j]? = some y.data.toList := by unfold bd; rw [List.getElem?_map, hy]; rfl
      have hys := HMS.out _ (List.mem_of_getElem? hy2)
      have HP := Lib.hid (wput_any y.data.toList (by omega) wr)
      rw [tx_of] at HP
      obtain ⟨b2, o2, hA2, hcy⟩ := (HA.out.below HBL.out) j y hy
      injection hA2 with hA2
      injection hA2 with h5 h6
      subst h5
      subst h6
      have hpt := HPT.out j
      have hsz1 := tx_size (puts ((bd L).take j))
      have hs1 : (tx (puts ((bd L).take j))).size ≤ 4160 := by omega
      have hs2 : (tx (put y.data.toList)).size ≤ 208 := by rw [tx_size, put_length]; omega
      have HJN := Lib.hid (show tx (puts ((bd L).take j)) ++ tx (put y.data.toList) = tx (puts ((bd L).take (j + 1))) by rw [tx_append, ← puts_next hy2])
      have HS1 := Lib.hid (show ((tx (puts ((bd L).take j))).size : Int) = ((puts ((bd L).take j)).length : Int) by rw [hsz1])
      have HFH := Lib.hid (frm_here (M := bd L) (k := k))
      have HFN := Lib.hid (fun h : j ≠ k => frm_next (M := bd L) h)
      generalize htj : tx (puts ((bd L).take j)) = tj at hs1 HJN HS1
      generalize tx (put y.data.toList) = ty at hs2 HJN HP
      clear hy hy2 hys hpt hsz1 htj
      by_cases hjk : j = k
      · subst hjk
        go_wp2_with fail
        refine HP.out.mono ?_
        rintro e w2 ⟨rfl, hb⟩
        have HB2 := Lib.hid (HBL.out.trans (hb.mono HBL.out.size))
        clear hb
        go_wp2_with fail
        go_roundw
        case rel => exact ⟨j + 1, by omega, by rw [HJN.out], by rw [HFH.out, HS1.out], by go_num, HB2.out⟩
        case measure => simp [intOf]; omega
      · have hjk' : ((j : Int) == k) = false := beq_eq_false_iff_ne.2 (by omega)
        have HJK := Lib.hid hjk
        clear hjk
        go_wp2_with fail
        refine HP.out.mono ?_
        rintro e w2 ⟨rfl, hb⟩
        have HB2 := Lib.hid (HBL.out.trans (hb.mono HBL.out.size))
        clear hb
        go_wp2_with fail
        go_roundw
        case rel => exact ⟨j + 1, by omega, by rw [HJN.out], by rw [HFN.out HJK.out], by go_num, HB2.out⟩
        case measure => simp [intOf]; omega
    · obtain rfl : j = L.length := by omega
      clear hlt
      have HTK := Lib.hid (show (bd L).take L.length = bd L by rw [← HML.out]; exact List.take_of_length_le (Nat.le_refl _))
      have hx2 : (bd L)[k]? = some x.data.toList := by unfold bd; rw [List.getElem?_map, HX.out]; rfl
      have hx200 := HMS.out _ (List.mem_of_getElem? hx2)
      have hxl : x.data.toList.length = x.size := Array.length_toList
      have hxs : x.size ≤ 200 := by omega
      have HX2 := Lib.hid hx2
      obtain ⟨P, hP⟩ : ∃ P, P = (puts ((bd L).take k)).length := ⟨_, rfl⟩
      have hpl : P ≤ 4160 := by rw [hP]; exact HPT.out k
      rw [HTK.out, show frm (bd L) k L.length = (P : Int) + 8 by unfold frm; rw [if_pos (by omega), hP]]
      have hsp : (puts (bd L)).length ≤ 4160 := by
        have := HPT.out L.length
        rwa [HTK.out] at this
      have hroom : P + 8 + x.size ≤ (puts (bd L)).length := by
        have h1 := congrArg List.length (puts_part (bd L) (k + 1))
        have h2 := puts_next hx2
        rw [h2, List.length_append, List.length_append, put_length] at h1
        omega
      obtain ⟨q, hq⟩ : ∃ q : Nat, a1 % ((x.size : Int) - 3) = q := ⟨(a1 % ((x.size : Int) - 3)).toNat, by
        have := Int.emod_nonneg a1 (show ((x.size : Int) - 3) ≠ 0 by omega)
        omega⟩
      have hqx : q + 4 ≤ x.size := by
        have := Int.emod_lt_of_pos a1 (show (0 : Int) < (x.size : Int) - 3 by omega)
        omega
      have hx3 : ¬ ((x.size : Int) - 3 = 0) := by omega
      have HQ := Lib.hid hq
      have d1 : wr.cell? ⟨w.heap.size, 1, none⟩ = some (.int .u16 a1) := (World.cell?_of_block (HBL.out.block _ (lt_of_block HZ0.out))).trans c1
      have d2 : wr.cell? ⟨b1, o1 + k, none⟩ = some (.string x) := (World.cell?_of_block (HBL.out.block b1 (World.block_lt_of_cell? w0 _ hcx))).trans hcx
      obtain ⟨st, hst⟩ : ∃ st, st = tx (puts (bd L)) := ⟨_, rfl⟩
      have hss : st.size = (puts (bd L)).length := by rw [hst, tx_size]
      rw [← hst]
      have HST0 := Lib.hid hst
      have HPP := Lib.hid hP
      have HHP := Lib.hid (show st.data.toList = puts (bd L) by rw [hst]; rfl)
      clear hx2 hx200 hxl hP hq hst c0 c1 hcx
      obtain ⟨W8, hW8⟩ : ∃ W8 : Nat, W8 = P + 8 + q := ⟨_, rfl⟩
      have hw8 := at_wrap hW8 hpl hqx hxs
      have hw4 := at_room hW8 hqx hroom hss
      have HWW := Lib.hid hw8
      have HW8 := Lib.hid hW8
      have HW4 := Lib.hid hw4
      have HSS := Lib.hid hss
      have HQX := Lib.hid hqx
      have hs1m : st.size ≤ 4160 := by rw [hss]; exact hsp
      clear hw8 hW8 hw4 hss hsp
      go_wp2
      go_quiet (fail)
      simp only [HQ.out, HWW.out]
      obtain ⟨w2, hw2⟩ : ∃ w2, w2 = wr.drewN nq := ⟨_, rfl⟩
      rw [← hw2]
      have HB2 := Lib.hid (show Below w.heap.size w w2 by rw [hw2]; exact below_drewN (HBA.out.trans (HBL.out.mono HBA.out.size)) nq)
      have HA2 := Lib.hid (show Txt w2 (some ⟨b1, o1, none⟩) L by rw [hw2]; exact (HA.out.below HBL.out).drew ⟨nq, rfl⟩)
      have HE2 := Lib.hid (show EnvF w2 a by rw [hw2]; exact HE.out.below (below_drewN HBL.out nq))
      have hcs := fun w => Lib.run_convert_string_bytes (P := Tryd.prog) w 9 45 5 st Tryd.underlying9 Tryd.underlying45 Tryd.underlying5
      have HA0 := Lib.hid (bytesAt_world w2 st)
      have HB0w := Lib.hid (below_bytes w2 5 st)
      rw [HHP.out] at HA0
      have hw4 := HW4.out
      clear hw2 hroom hqx hx3 d1 d2 HBL HA HE hxs
      go_wp2
      go_loopw [13] (fun x wr => ∃ i : Nat, i ≤ 4 ∧ x = .int .i64 i ∧ BytesAt wr w2.heap.size (flips (puts (bd L)) W8 bits i) ∧ Below w2.heap.size w2 wr) (fun x _ => 4 - (intOf x).toNat)
      case atStart => exact ⟨0, by omega, rfl, HA0.out, HB0w.out⟩
      case round =>
        obtain ⟨i, hi, rfl, hBA, hBQ⟩ := hrel
        by_cases hlt : i < 4
        · have hll : (puts (bd L)).length = st.size := HSS.out.symm
          obtain ⟨hcell, hfree⟩ := hBA (W8 + i) (by rw [flips_length]; omega)
          have hget : (flips (puts (bd L)) W8 bits i)[W8 + i]'(by rw [flips_length]; omega) = (puts (bd L)).getD (W8 + i) 0 := by
            have h := flips_get (puts (bd L)) W8 bits i (W8 + i) (Nat.le_refl _)
            rw [List.getElem?_eq_getElem (by rw [flips_length]; omega), getD_some (by omega)] at h
            exact Option.some.inj h
          rw [hget] at hcell
          have hstep : BytesAt (wr.setCell ⟨w2.heap.size, W8 + i, none⟩ (.int .u8 (((puts (bd L)).getD (W8 + i) 0 ^^^ eb bits i).toNat : Int))) w2.heap.size (flips (puts (bd L)) W8 bits (i + 1)) := hBA.set (W8 + i) ((puts (bd L)).getD (W8 + i) 0 ^^^ eb bits i)
          generalize hy : (puts (bd L)).getD (W8 + i) 0 = y at hcell hstep
          have hx8 : ∀ v, v = ((eb bits i).toNat : Int) → Go.bits .xor .u8 (y.toNat : Int) v = ((y ^^^ eb bits i).toNat : Int) := by
            rintro v rfl
            rw [Go.u8_xor_nat _ _ (UInt8.toNat_lt _) (UInt8.toNat_lt _), UInt8.toNat_xor]
          have HX8 := Lib.hid hx8
          have HST := Lib.hid hstep
          have HBQ := Lib.hid hBQ
          clear hBA hget hy hstep hBQ hx8 hll
          have hi4 : i = 0 ∨ i = 1 ∨ i = 2 ∨ i = 3 := by omega
          rcases hi4 with rfl | rfl | rfl | rfl
          · have f1 : IntKind.i64.wrap ((W8 : Int)) = (W8 : Int) := IntWalk.i64_in _ (by omega)
            have f5 : IntKind.i64.wrap 0 = 0 := IntWalk.i64_in _ (by omega)
            have f2 : (0 : Int) ≤ (W8 : Int) := by omega
            have f3 : (W8 : Int) < (st.size : Int) := by omega
            have f4 : ((W8 : Int)).toNat = W8 := by omega
            have hcell' : wr.cell? ⟨w2.heap.size, W8, none⟩ = some (.int .u8 (y.toNat : Int)) := hcell
            have hfree' : wr.frozen? ⟨w2.heap.size, W8, none⟩ = false := hfree
            clear hcell hfree
            go_wp2
            go_still_tail 17, (by kernel_rfl)
            change wpList _ _ _ _ _ wr.drew
            clear f1 f4
            go_wp2
            refine ⟨⟨1, by omega, by go_num, ?_, (HBQ.out.setCell (Nat.le_refl _) _).drew⟩, by simp [intOf]⟩
            rw [HX8.out _ (by rw [eb_toNat bits hb.1]; simp)]
            exact HST.out.drew
          · have f1 : IntKind.i64.wrap ((W8 : Int) + 1) = (W8 : Int) + 1 := IntWalk.i64_in _ (by omega)
            have f5 : IntKind.i64.wrap 8 = 8 := IntWalk.i64_in _ (by omega)
            have f2 : (0 : Int) ≤ (W8 : Int) + 1 := by omega
            have f3 : (W8 : Int) + 1 < (st.size : Int) := by omega
            have f4 : ((W8 : Int) + 1).toNat = W8 + 1 := by omega
            have hcell' : wr.cell? ⟨w2.heap.size, W8 + 1, none⟩ = some (.int .u8 (y.toNat : Int)) := hcell
            have hfree' : wr.frozen? ⟨w2.heap.size, W8 + 1, none⟩ = false := hfree
            clear hcell hfree
            go_wp2
            go_still_tail 17, (by kernel_rfl)
            change wpList _ _ _ _ _ wr.drew
            clear f1 f4
            go_wp2
            refine ⟨⟨2, by omega, by go_num, ?_, (HBQ.out.setCell (Nat.le_refl _) _).drew⟩, by simp [intOf]⟩
            rw [HX8.out _ (by rw [eb_toNat bits hb.1]; simp)]
            exact HST.out.drew
          · have f1 : IntKind.i64.wrap ((W8 : Int) + 2) = (W8 : Int) + 2 := IntWalk.i64_in _ (by omega)
            have f5 : IntKind.i64.wrap 16 = 16 := IntWalk.i64_in _ (by omega)
            have f2 : (0 : Int) ≤ (W8 : Int) + 2 := by omega
            have f3 : (W8 : Int) + 2 < (st.size : Int) := by omega
            have f4 : ((W8 : Int) + 2).toNat = W8 + 2 := by omega
            have hcell' : wr.cell? ⟨w2.heap.size, W8 + 2, none⟩ = some (.int .u8 (y.toNat : Int)) := hcell
            have hfree' : wr.frozen? ⟨w2.heap.size, W8 + 2, none⟩ = false := hfree
            clear hcell hfree
            go_wp2
            go_still_tail 17, (by kernel_rfl)
            change wpList _ _ _ _ _ wr.drew
            clear f1 f4
            go_wp2
            refine ⟨⟨3, by omega, by go_num, ?_, (HBQ.out.setCell (Nat.le_refl _) _).drew⟩, by simp [intOf]⟩
            rw [HX8.out _ (by rw [eb_toNat bits hb.1]; simp)]
            exact HST.out.drew
          · have f1 : IntKind.i64.wrap ((W8 : Int) + 3) = (W8 : Int) + 3 := IntWalk.i64_in _ (by omega)
            have f5 : IntKind.i64.wrap 24 = 24 := IntWalk.i64_in _ (by omega)
            have f2 : (0 : Int) ≤ (W8 : Int) + 3 := by omega
            have f3 : (W8 : Int) + 3 < (st.size : Int) := by omega
            have f4 : ((W8 : Int) + 3).toNat = W8 + 3 := by omega
            have hcell' : wr.cell? ⟨w2.heap.size, W8 + 3, none⟩ = some (.int .u8 (y.toNat : Int)) := hcell
            have hfree' : wr.frozen? ⟨w2.heap.size, W8 + 3, none⟩ = false := hfree
            clear hcell hfree
            go_wp2
            go_still_tail 17, (by kernel_rfl)
            change wpList _ _ _ _ _ wr.drew
            clear f1 f4
            go_wp2
            refine ⟨⟨4, by omega, by go_num, ?_, (HBQ.out.setCell (Nat.le_refl _) _).drew⟩, by simp [intOf]⟩
            rw [HX8.out _ (by rw [eb_toNat bits hb.1]; simp; omega)]
            exact HST.out.drew
        · obtain rfl : i = 4 := by omega
          have hfl : (flips (puts (bd L)) W8 bits 4).length = st.size := by rw [flips_length, HSS.out]
          have hcv := conv_at hBA (grownCap w2 st.size 0 5)
          rw [hfl] at hcv
          have hsc := scan_flips (bd L) HSM.out k x.data.toList HX2.out q bits (by rw [Array.length_toList]; exact HQX.out) hb.1 (by omega) HB0.out
          rw [← HPP.out, ← HW8.out] at hsc
          have HSC := Lib.hid (scan_any (flips (puts (bd L)) W8 bits 4) wr a (HE2.out.below hBQ) (by rw [hfl]; omega))
          unfold SPost at HSC
          rw [hsc] at HSC
          have HB3 := Lib.hid (HB2.out.trans (hBQ.mono HB2.out.size))
          have HA3 := Lib.hid (HA2.out.below hBQ)
          have HBQ9 := Lib.hid hBQ
          generalize tx (flips (puts (bd L)) W8 bits 4) = tf at hcv HSC
          clear hBA hBQ hfl hsc
          go_wp2_with fail
          refine HSC.out.mono ?_
          rintro e w4 ⟨⟨v4, rfl, ho⟩, hb4⟩
          have HB4 := Lib.hid (Tc.then_below HB3.out hb4)
          obtain ⟨A4, c4, hv4, ht4⟩ := ho.txt
          rw [List.map_take, bd_tx] at hv4 ht4
          have e4 : v4 = .slice A4 k c4 := by rw [hv4, List.length_take, Nat.min_eq_left (Nat.le_of_lt hkl)]
          clear hv4
          subst e4
          have htk : Txt w4 (some ⟨b1, o1, none⟩) (L.take k) := by
            intro m z hz
            rw [List.getElem?_take] at hz
            by_cases hm : m < k
            · rw [if_pos hm] at hz; exact (HA3.out.below hb4) m z hz
            · rw [if_neg hm] at hz; cases hz
          have HSA := Lib.hid (same_any w4 A4 _ (L.take k) c4 c ht4 htk (by rw [List.length_take]; omega))
          rw [List.length_take, Nat.min_eq_left (Nat.le_of_lt hkl)] at HSA
          have HBW := Lib.hid (HBQ9.out.trans (hb4.mono HBQ9.out.size))
          have hkc : (k : Int) ≤ c := by omega
          have hp8 : wrap64 ((P : Int) + 8 - 8) = P := by rw [wrap64_id _ (by omega) (by omega)]; omega
          clear ho hb4 ht4 htk
          go_wp2_with fail
          refine HSA.out.mono ?_
          rintro e w5 ⟨rfl, hd⟩
          have HB5 := Lib.hid (Tc.then_below HB4.out hd.below)
          have HAW := Lib.hid (awake_any w5 a (HE2.out.below (HBW.out.trans (hd.below.mono HBW.out.size))))
          clear hd
          go_wp2_with fail
          refine HAW.out.mono ?_
          rintro e w6 ⟨rfl, hb6⟩
          have HB6 := Lib.hid (Tc.then_below HB5.out hb6)
          clear hb6
          go_wp2_with fail
          go_ret
          exact ⟨rfl, HB6.out⟩
theorem pair_opens {H : Type} {enc : TypeId × Value → H} {w : World} {base : Nat} {sp : Nat → Bool} {held : Bool} {fuel : Nat} {cs : List Value} {x : DataW H × List MemPlace}
    (h : DataW.trod enc Tryd.prog w base sp held fuel 42 cs = some x) : ∃ a b : Int, cs = [.int .u16 a, .int .u16 b] ∧ (Lit.int .u16 a).wf = true ∧ (Lit.int .u16 b).wf = true := by
  obtain ⟨xs, m, _, _, hlen, hxl, hf⟩ := DataW.trod_array Tryd.underlying42 h
  have hc1 : Tryd.prog.cellsOf 41 = 1 := by kernel_rfl
  have hc2 : Tryd.prog.cellsOf 42 = 2 := by kernel_rfl
  rw [hc2] at hlen
  obtain ⟨c0, c1, rfl⟩ : ∃ c0 c1, cs = [c0, c1] := by
    match cs, hlen with
    | [c0, c1], _ => exact ⟨c0, c1, rfl⟩
  have h0 := hf 0 (by decide)
  have h1 := hf 1 (by decide)
  rw [hc1] at h0 h1
  obtain ⟨x0, hx0⟩ : ∃ x0, xs[0]? = some x0 := ⟨_, List.getElem?_eq_getElem (by omega)⟩
  obtain ⟨x1, hx1⟩ : ∃ x1, xs[1]? = some x1 := ⟨_, List.getElem?_eq_getElem (by omega)⟩
  rw [hx0] at h0
  rw [hx1] at h1
  obtain ⟨a, ha, _, wa⟩ := DataW.trod_int Tryd.underlying41 h0
  obtain ⟨b, hb, _, wb⟩ := DataW.trod_int Tryd.underlying41 h1
  refine ⟨a, b, ?_, wa, wb⟩
  simp at ha hb
  rw [ha, hb]
theorem pair_open {H : Type} {enc : TypeId × Value → H} {w : World} {base : Nat} {sp : Nat → Bool} {held : Bool} {v : Value} {d : DataW H} {ps : List MemPlace} {B : Prop} (hv : B)
    (h : DataW.Trod enc Tryd.prog w base sp held 42 v d ps) : ∃ z : Int × Int, v = .agg #[.int .u16 z.1, .int .u16 z.2] ∧ ((Lit.int .u16 z.1).wf = true ∧ (Lit.int .u16 z.2).wf = true) := by
  obtain ⟨fuel, hf⟩ := h
  obtain ⟨a, b, hc, ha, hb⟩ := pair_opens hf
  refine ⟨(a, b), ?_, ha, hb⟩
  dsimp only
  cases v <;> first | (simp [Value.cells] at hc; done) | (simp only [Value.cells] at hc; rw [Value.agg.injEq]; apply Array.ext'; exact hc)
set_option maxHeartbeats 4000000 in
/-- WalFinds. -/
theorem finds_law (w : World) (A : Option Addr) (len cap : Nat) (l : List ByteArray) (z : Int × Int) (bits : Int) (hl : l.length = len ∧ len ≤ cap ∧ SliceIs kS w A l) (hz : (Lit.int .u16 z.1).wf = true ∧ (Lit.int .u16 z.2).wf = true) (hb : (Lit.int .u32 bits).wf = true) (hE : ∃ a, EnvF w a) :
    Calls Tryd.prog 5 #[.slice A len cap, .agg #[.int .u16 z.1, .int .u16 z.2], .int .u32 bits] w fun e w' => e = .returned (.bool true) ∧ Below w.heap.size w w' := by
  obtain ⟨rfl, hc, hS⟩ := hl
  obtain ⟨a, hE⟩ := hE
  have h0 := bounds_u16 hz.1
  have h1 := bounds_u16 hz.2
  have hb' := bounds_u32 hb
  obtain ⟨a0, a1⟩ := z
  dsimp only at h0 h1 ⊢
  by_cases hF : Few l
  · by_cases hL : l = []
    · subst hL
      have hba : Below w.heap.size w (w.alloc (.cells #[.int .u16 a0, .int .u16 a1] 42)) := (Below.refl _ _).alloc (Nat.le_refl _) _
      have HFE := Lib.hid (few_yes _ A [] cap ((txt_of hS).below hba) hF)
      have HA := Lib.hid (awake_any _ a (hE.below hba))
      have HB := Lib.hid hba
      clear hba hE hS hz hb h0 h1 hb' hc
      go_enter Tryd.func5, Tryd.ntmps5
      go_wp2_with fail
      refine HFE.out.mono ?_
      rintro e w1 ⟨rfl, rfl⟩
      go_wp2_with fail
      refine HA.out.mono ?_
      rintro e w1 ⟨rfl, hb⟩
      have HB1 := Lib.hid (HB.out.trans (hb.mono HB.out.size))
      clear hb
      go_wp2_with fail
      go_ret
      exact ⟨rfl, HB1.out⟩
    · by_cases hb0 : bits = 0
      · subst hb0
        have hba : Below w.heap.size w (w.alloc (.cells #[.int .u16 a0, .int .u16 a1] 42)) := (Below.refl _ _).alloc (Nat.le_refl _) _
        have HFE := Lib.hid (few_yes _ A l cap ((txt_of hS).below hba) hF)
        have HA := Lib.hid (awake_any _ a (hE.below hba))
        have HB := Lib.hid hba
        have hlp : 0 < l.length := List.length_pos_iff.2 hL
        have hln : ((l.length : Int) == 0) = false := beq_eq_false_iff_ne.2 (by omega)
        clear hba hE hS hz hb h0 h1 hb' hc hL hF hlp
        go_enter Tryd.func5, Tryd.ntmps5
        go_wp2_with fail
        refine HFE.out.mono ?_
        rintro e w1 ⟨rfl, rfl⟩
        go_wp2_with fail
        refine HA.out.mono ?_
        rintro e w1 ⟨rfl, hb⟩
        have HB1 := Lib.hid (HB.out.trans (hb.mono HB.out.size))
        clear hb
        go_wp2_with fail
        go_ret
        exact ⟨rfl, HB1.out⟩
      · exact finds_few w A l cap a0 a1 bits (txt_of hS) hF hc hL h0 h1 hb' hb0 a hE
  · have hba : Below w.heap.size w (w.alloc (.cells #[.int .u16 a0, .int .u16 a1] 42)) := (Below.refl _ _).alloc (Nat.le_refl _) _
    have HFE := Lib.hid (few_no _ A l cap hS.len ((txt_of hS).below hba) hF)
    have HA := Lib.hid (awake_any _ a (hE.below hba))
    have HB := Lib.hid hba
    clear hba hE hS hz hb h0 h1 hb' hc hF
    go_enter Tryd.func5, Tryd.ntmps5
    go_wp2_with fail
    refine HFE.out.mono ?_
    rintro e w1 ⟨rfl, rfl⟩
    go_wp2_with fail
    refine HA.out.mono ?_
    rintro e w1 ⟨rfl, hb⟩
    have HB1 := Lib.hid (HB.out.trans (hb.mono HB.out.size))
    clear hb
    go_wp2_with fail
    go_ret
    exact ⟨rfl, HB1.out⟩
end Go.Proofs.YthpplbigmolnjaaDoor.WalW
