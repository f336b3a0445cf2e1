/- CrcFinds: its walk. -/
import Derived.Test.YtapiaiobohkemaaCrcWalk
import Derived.Laws.BytesArg
import Derived.StillTailTactics
import Derived.OpenShut
set_option linter.unusedVariables false
set_option linter.unusedSimpArgs false
namespace Go.Proofs.Ytapiaiobohkemaa.CrcW
open Go.RowKit

/-- A row of bytes that may be written. -/
def BytesAt (w : World) (b : Nat) (l : List UInt8) : Prop := ∀ j (h : j < l.length), w.cell? ⟨b, j, none⟩ = some (.int .u8 (l[j].toNat : Int)) ∧ w.frozen? ⟨b, j, none⟩ = false
theorem bytesAt_world (w : World) (s : ByteArray) : BytesAt (Lib.bytesWorld w 5 s) w.heap.size s.data.toList := by
  intro j h
  have hj : j < s.size := by simpa using h
  have hl : s.data.toList.length = s.size := by simp
  refine ⟨?_, ?_⟩
  · rw [Lib.bytesWorld_cell w 5 s j hj, data_getD s j hj]
  · have hb := Lib.bytesWorld_at_new w 5 s
    have hz : s.size ≤ (Lib.bytesCells w 5 s).size := by simp [Lib.bytesCells]
    unfold World.frozen?
    rw [hb]
    simp
    omega
theorem cell_set (w : World) (b j i : Nat) (v : Value) {x : Value} (h : w.cell? ⟨b, j, none⟩ = some x) : (w.setCell ⟨b, i, none⟩ v).cell? ⟨b, j, none⟩ = if i = j then some v else some x := by
  unfold World.cell? at h ⊢
  simp only [World.setCell]
  rw [Array.getElem?_modify]
  simp only [if_true]
  cases hb : w.heap[b]? with
  | none => simp [hb] at h
  | some o =>
    cases o <;> simp [hb] at h ⊢
    rename_i c e f
    rw [Array.getElem?_setIfInBounds]
    have hlt : j < c.size := (Array.getElem?_eq_some_iff.1 h).1
    split
    · rename_i e'; subst e'; simp [hlt]
    · exact h
theorem frozen_set (w : World) (b j i : Nat) (v : Value) : (w.setCell ⟨b, i, none⟩ v).frozen? ⟨b, j, none⟩ = w.frozen? ⟨b, j, none⟩ := World.frozen?_setCell _ _ _ _
theorem BytesAt.set {w : World} {b : Nat} {l : List UInt8} (h : BytesAt w b l) (i : Nat) (x : UInt8) : BytesAt (w.setCell ⟨b, i, none⟩ (.int .u8 (x.toNat : Int))) b (l.set i x) := by
  intro j hj
  have hj' : j < l.length := by simpa using hj
  obtain ⟨h1, h2⟩ := h j hj'
  refine ⟨?_, by rw [frozen_set, h2]⟩
  rw [cell_set w b j i _ h1]
  by_cases e : i = j
  · subst e
    rw [if_pos rfl]
    simp
  · rw [if_neg e]
    rw [List.getElem_set_ne (by omega)]
theorem BytesAt.drew {w : World} {b : Nat} {l : List UInt8} (h : BytesAt w b l) : BytesAt w.drew b l := h

def eb (bits : Int) (i : Nat) : UInt8 := UInt8.ofNat (bits.toNat / 2 ^ (8 * i) % 256)
theorem eb_toNat (bits : Int) (h : 0 ≤ bits) (i : Nat) : ((eb bits i).toNat : Int) = bits / ((2 : Int) ^ (8 * i)) % 256 := by
  unfold eb
  rw [UInt8.toNat_ofNat']
  obtain ⟨n, rfl⟩ := Int.eq_ofNat_of_zero_le h
  simp only [Int.toNat_natCast]
  have e : n / 2 ^ (8 * i) % 256 % 2 ^ 8 = n / 2 ^ (8 * i) % 256 := Nat.mod_mod _ _
  rw [e, Int.natCast_emod, Int.natCast_ediv, Int.natCast_pow]
  rfl
theorem eb_zero {bits : Int} (h0 : 0 ≤ bits) (h1 : bits < 4294967296) (h : eb bits 0 = 0 ∧ eb bits 1 = 0 ∧ eb bits 2 = 0 ∧ eb bits 3 = 0) : bits = 0 := by
  have e := fun i (hi : eb bits i = 0) => by
    have := eb_toNat bits h0 i
    rw [hi] at this
    exact this
  have e0 := e 0 h.1
  have e1 := e 1 h.2.1
  have e2 := e 2 h.2.2.1
  have e3 := e 3 h.2.2.2
  simp at e0 e1 e2 e3
  omega
/-- The bytes behind so many rounds. -/
def flips (l : List UInt8) (k : Nat) (bits : Int) : Nat → List UInt8
  | 0 => l
  | i + 1 => (flips l k bits i).set (k + i) (l.getD (k + i) 0 ^^^ eb bits i)
theorem flips_length (l : List UInt8) (k : Nat) (bits : Int) (i : Nat) : (flips l k bits i).length = l.length := by
  induction i with
  | zero => rfl
  | succ i ih => simp [flips, ih]
theorem flips_get (l : List UInt8) (k : Nat) (bits : Int) (i j : Nat) (hj : k + i ≤ j) : (flips l k bits i)[j]? = l[j]? := by
  induction i with
  | zero => rfl
  | succ i ih =>
    unfold flips
    rw [List.getElem?_set_ne (by omega), ih (by omega)]
theorem flips_four (l : List UInt8) (k : Nat) (bits : Int) (h : k + 4 ≤ l.length) :
    flips l k bits 4 = l.take k ++ [l.getD k 0 ^^^ eb bits 0, l.getD (k + 1) 0 ^^^ eb bits 1, l.getD (k + 2) 0 ^^^ eb bits 2, l.getD (k + 3) 0 ^^^ eb bits 3] ++ l.drop (k + 4) := by
  apply List.ext_getElem?
  intro j
  simp only [flips, List.getElem?_set, List.length_set]
  by_cases h1 : j < k
  · rw [List.append_assoc, List.getElem?_append_left (by simp; omega), List.getElem?_take_of_lt h1]
    rw [if_neg (by omega), if_neg (by omega), if_neg (by omega), if_neg (by omega)]
  · rw [List.append_assoc, List.getElem?_append_right (by simp; omega)]
    have hk : (l.take k).length = k := by simp; omega
    rw [hk]
    by_cases h2 : j < k + 4
    · have : j = k ∨ j = k + 1 ∨ j = k + 2 ∨ j = k + 3 := by omega
      rcases this with rfl | rfl | rfl | rfl
      · simp; omega
      · simp; omega
      · simp; omega
      · simp; omega
    · rw [if_neg (by omega), if_neg (by omega), if_neg (by omega), if_neg (by omega)]
      rw [List.getElem?_append_right (by simp; omega), List.getElem?_drop]
      congr 1
      simp
      omega
theorem getD_some {l : List UInt8} {i : Nat} (h : i < l.length) : l[i]? = some (l.getD i 0) := by
  rw [List.getD_eq_getElem?_getD, List.getElem?_eq_getElem h, Option.getD_some]
theorem four_of (l : List UInt8) (k : Nat) (h : k + 4 ≤ l.length) : l = l.take k ++ [l.getD k 0, l.getD (k + 1) 0, l.getD (k + 2) 0, l.getD (k + 3) 0] ++ l.drop (k + 4) := by
  apply List.ext_getElem?
  intro j
  by_cases h1 : j < k
  · rw [List.append_assoc, List.getElem?_append_left (by simp; omega), List.getElem?_take_of_lt h1]
  · rw [List.append_assoc, List.getElem?_append_right (by simp; omega)]
    have hk : (l.take k).length = k := by simp; omega
    rw [hk]
    by_cases h2 : j < k + 4
    · have : j = k ∨ j = k + 1 ∨ j = k + 2 ∨ j = k + 3 := by omega
      rcases this with rfl | rfl | rfl | rfl
      · rw [getD_some (by omega), Nat.sub_self]; rfl
      · rw [getD_some (by omega), Nat.add_sub_cancel_left]; rfl
      · rw [getD_some (by omega), Nat.add_sub_cancel_left]; rfl
      · rw [getD_some (by omega), Nat.add_sub_cancel_left]; rfl
    · rw [List.getElem?_append_right (by simp; omega), List.getElem?_drop]
      congr 1
      simp
      omega
theorem finds_pure (l : List UInt8) (k : Nat) (bits : Int) (h : k + 4 ≤ l.length) (h0 : 0 ≤ bits) (h1 : bits < 4294967296) (hne : bits ≠ 0) : Crc.sum (flips l k bits 4) ≠ Crc.sum l := by
  rw [flips_four l k bits h]
  conv => rhs; rw [four_of l k h]
  exact Crc.sum_ne (fun hz => hne (eb_zero h0 h1 hz))

theorem sum_str (l : List UInt8) (n : Nat) (h : l.length = n) (hn : n ≤ 1024) (w : World) : Calls Try.prog 15 #[.string (strOfNums (l.map fun b => (b.toNat : Int)))] w fun e w' => e = .returned (.int .i64 (Crc.sum l)) ∧ Below w.heap.size w w' := by
  have e : (strOfNums (l.map fun b => (b.toNat : Int))).data.toList = l := by
    rw [strOfNums_data, List.map_map]
    conv => rhs; rw [← List.map_id l]
    apply List.map_congr_left
    intro b _
    simp
  have := sum_any (strOfNums (l.map fun b => (b.toNat : Int))) w (by rw [strOfNums_size]; unfold maxLen; simp; omega)
  rwa [e] at this

set_option maxHeartbeats 1000000 in
theorem finds_law (s : ByteArray) (at_ bits : Int) (w : World) (hs' : s.size ≤ 140737488351232) (hat : (Lit.int .u16 at_).wf = true) (hbits : (Lit.int .u32 bits).wf = true) :
    Calls Try.prog 5 #[.string s, .int .u16 at_, .int .u32 bits] w fun e w' => e = .returned (.bool true) ∧ Below w.heap.size w w' := by
  have ha := bounds_u16 hat
  have hb := bounds_u32 hbits
  clear hat hbits
  have hs : s.size ≤ maxLen := by unfold maxLen; omega
  by_cases h1 : s.size ≤ 1024
  · by_cases h2 : 4 ≤ s.size
    · by_cases h3 : bits = 0
      · subst h3
        go_enter Try.func5, Try.ntmps5
        go_wp2_with fail
        refine (awake_any _).mono ?_
        rintro e w3 ⟨rfl, hb3⟩
        go_wp2_with fail
        go_ret
        exact ⟨rfl, hb3⟩
      · have hz : (bits == 0) = false := by simpa using h3
        have hc := fun w => Lib.run_convert_string_bytes (P := Try.prog) w 9 29 5 s Try.underlying9 Try.underlying29 Try.underlying5
        obtain ⟨k, hk⟩ : ∃ k : Nat, at_ % ((s.size : Int) - 3) = k := ⟨(at_ % ((s.size : Int) - 3)).toNat, by have := Int.emod_nonneg at_ (show ((s.size : Int) - 3) ≠ 0 by omega); omega⟩
        have hkl : k + 4 ≤ s.size := by have := Int.emod_lt_of_pos at_ (show 0 < ((s.size : Int) - 3) by omega); omega
        have HK := Lib.hid hk
        have H3 := Lib.hid h3
        have HA0 := Lib.hid (bytesAt_world w s)
        have HB0 := Lib.hid (below_bytes w 5 s)
        have HSZ := Lib.hid (Lib.bytesWorld_size w 5 s)
        have e3 : ¬ ((s.size : Int) - 3 = 0) := by omega
        clear hk h3
        go_enter Try.func5, Try.ntmps5
        go_wp2
        simp only [HK.out]
        go_loopw [9] (fun x wr => ∃ i : Nat, i ≤ 4 ∧ x = .int .i64 i ∧ BytesAt wr w.heap.size (flips s.data.toList k bits i) ∧ Below w.heap.size w wr) (fun x _ => 4 - (intOf x).toNat)
        case atStart => exact ⟨0, by omega, rfl, HA0.out, HB0.out⟩
        case round =>
          obtain ⟨i, hi, rfl, hA, hB⟩ := hrel
          by_cases hlt : i < 4
          · have hll : s.data.toList.length = s.size := by simp
            obtain ⟨hcell, hfree⟩ := hA (k + i) (by rw [flips_length]; omega)
            have hget : (flips s.data.toList k bits i)[k + i]'(by rw [flips_length]; omega) = s.data.toList.getD (k + i) 0 := by
              have h := flips_get s.data.toList k bits i (k + i) (Nat.le_refl _)
              rw [List.getElem?_eq_getElem (by rw [flips_length]; omega), getD_some (by omega)] at h
              exact Option.some.inj h
            rw [hget] at hcell
            have hstep : BytesAt (wr.setCell ⟨w.heap.size, k + i, none⟩ (.int .u8 ((s.data.toList.getD (k + i) 0 ^^^ eb bits i).toNat : Int))) w.heap.size (flips s.data.toList k bits (i + 1)) := hA.set (k + i) (s.data.toList.getD (k + i) 0 ^^^ eb bits i)
            generalize hx : s.data.toList.getD (k + i) 0 = x at hcell hstep
            have hx8 : ∀ v, v = ((eb bits i).toNat : Int) → Go.bits .xor .u8 (x.toNat : Int) v = ((x ^^^ eb bits i).toNat : Int) := by
              rintro v rfl
              rw [Go.u8_xor_nat _ _ (UInt8.toNat_lt _) (UInt8.toNat_lt _), UInt8.toNat_xor]
            have HX8 := Lib.hid hx8
            have HX := Lib.hid hx
            have HST := Lib.hid hstep
            have HB := Lib.hid hB
            clear hA hget hx hstep hB hx8
            have hi4 : i = 0 ∨ i = 1 ∨ i = 2 ∨ i = 3 := by omega
            rcases hi4 with rfl | rfl | rfl | rfl
            · have f1 : IntKind.i64.wrap ((k : Int)) = (k : Int) := IntWalk.i64_in _ (by omega)
              have f5 : IntKind.i64.wrap 0 = 0 := IntWalk.i64_in _ (by omega)
              have f2 : (0 : Int) ≤ (k : Int) := by omega
              have f3 : (k : Int) < (s.size : Int) := by omega
              have f4 : ((k : Int)).toNat = k := by omega
              have hcell' : wr.cell? ⟨w.heap.size, k, none⟩ = some (.int .u8 (x.toNat : Int)) := hcell
              have hfree' : wr.frozen? ⟨w.heap.size, k, none⟩ = false := hfree
              clear hcell hfree
              go_wp2
              go_still_tail 17, (by kernel_rfl)
              change wpList _ _ _ _ _ wr.drew
              clear f1 f4
              go_wp2
              refine ⟨⟨1, by omega, by go_num, ?_, (HB.out.setCell (Nat.le_refl _) _).drew⟩, by simp [intOf]⟩
              rw [HX8.out _ (by rw [eb_toNat bits hb.1]; simp)]
              exact HST.out.drew
            · have f1 : IntKind.i64.wrap ((k : Int) + 1) = (k : Int) + 1 := IntWalk.i64_in _ (by omega)
              have f5 : IntKind.i64.wrap 8 = 8 := IntWalk.i64_in _ (by omega)
              have f2 : (0 : Int) ≤ (k : Int) + 1 := by omega
              have f3 : (k : Int) + 1 < (s.size : Int) := by omega
              have f4 : ((k : Int) + 1).toNat = k + 1 := by omega
              have hcell' : wr.cell? ⟨w.heap.size, k + 1, none⟩ = some (.int .u8 (x.toNat : Int)) := hcell
              have hfree' : wr.frozen? ⟨w.heap.size, k + 1, none⟩ = false := hfree
              clear hcell hfree
              go_wp2
              go_still_tail 17, (by kernel_rfl)
              change wpList _ _ _ _ _ wr.drew
              clear f1 f4
              go_wp2
              refine ⟨⟨2, by omega, by go_num, ?_, (HB.out.setCell (Nat.le_refl _) _).drew⟩, by simp [intOf]⟩
              rw [HX8.out _ (by rw [eb_toNat bits hb.1]; simp)]
              exact HST.out.drew
            · have f1 : IntKind.i64.wrap ((k : Int) + 2) = (k : Int) + 2 := IntWalk.i64_in _ (by omega)
              have f5 : IntKind.i64.wrap 16 = 16 := IntWalk.i64_in _ (by omega)
              have f2 : (0 : Int) ≤ (k : Int) + 2 := by omega
              have f3 : (k : Int) + 2 < (s.size : Int) := by omega
              have f4 : ((k : Int) + 2).toNat = k + 2 := by omega
              have hcell' : wr.cell? ⟨w.heap.size, k + 2, none⟩ = some (.int .u8 (x.toNat : Int)) := hcell
              have hfree' : wr.frozen? ⟨w.heap.size, k + 2, none⟩ = false := hfree
              clear hcell hfree
              go_wp2
              go_still_tail 17, (by kernel_rfl)
              change wpList _ _ _ _ _ wr.drew
              clear f1 f4
              go_wp2
              refine ⟨⟨3, by omega, by go_num, ?_, (HB.out.setCell (Nat.le_refl _) _).drew⟩, by simp [intOf]⟩
              rw [HX8.out _ (by rw [eb_toNat bits hb.1]; simp)]
              exact HST.out.drew
            · have f1 : IntKind.i64.wrap ((k : Int) + 3) = (k : Int) + 3 := IntWalk.i64_in _ (by omega)
              have f5 : IntKind.i64.wrap 24 = 24 := IntWalk.i64_in _ (by omega)
              have f2 : (0 : Int) ≤ (k : Int) + 3 := by omega
              have f3 : (k : Int) + 3 < (s.size : Int) := by omega
              have f4 : ((k : Int) + 3).toNat = k + 3 := by omega
              have hcell' : wr.cell? ⟨w.heap.size, k + 3, none⟩ = some (.int .u8 (x.toNat : Int)) := hcell
              have hfree' : wr.frozen? ⟨w.heap.size, k + 3, none⟩ = false := hfree
              clear hcell hfree
              go_wp2
              go_still_tail 17, (by kernel_rfl)
              change wpList _ _ _ _ _ wr.drew
              clear f1 f4
              go_wp2
              refine ⟨⟨4, by omega, by go_num, ?_, (HB.out.setCell (Nat.le_refl _) _).drew⟩, by simp [intOf]⟩
              rw [HX8.out _ (by rw [eb_toNat bits hb.1]; simp; omega)]
              exact HST.out.drew
          · obtain rfl : i = 4 := by omega
            have hlen : (flips s.data.toList k bits 4).length = s.size := by rw [flips_length]; simp
            have hcv := Go.run_convert_bytes_arg (P := Try.prog) wr 29 5 Try.underlying29 Try.underlying5 w.heap.size 0 s.size (grownCap w s.size 0 5) ((flips s.data.toList k bits 4).map fun b => (b.toNat : Int)) (by simpa using hlen) (fun i hi => by
              rw [(hA (0 + i) (by omega)).1]
              simp [List.getD, List.getElem?_eq_getElem (show i < (flips s.data.toList k bits 4).length by omega)]) 9 Try.underlying9
            have hp := finds_pure s.data.toList k bits (by simpa using hkl) hb.1 (by omega) H3.out
            have HQ := Lib.hid (show (Crc.sum (flips s.data.toList k bits 4) != Crc.sum s.data.toList) = true by simpa using hp)
            have s1 := fun w' => sum_str (flips s.data.toList k bits 4) s.size hlen (by omega) w'
            have s2 := fun w' => sum_any s w' hs
            generalize strOfNums ((flips s.data.toList k bits 4).map fun b => (b.toNat : Int)) = str at hcv s1
            have HB := Lib.hid hB
            clear hA hB
            go_wp2_with fail
            refine (s1 _).mono ?_
            rintro e w1 ⟨rfl, hb1⟩
            have HB1 := Lib.hid hb1
            clear hb1 s1
            go_wp2_with fail
            refine (s2 _).mono ?_
            rintro e w2 ⟨rfl, hb2⟩
            have HB2 := Lib.hid hb2
            clear hb2 s2
            go_wp2_with fail
            refine (awake_any _).mono ?_
            rintro e w3 ⟨rfl, hb3⟩
            have HB3 := Lib.hid hb3
            clear hb3
            go_wp2_with fail
            go_ret
            exact ⟨by rw [HQ.out]; rfl, then_below (then_below (then_below HB.out HB1.out) HB2.out) HB3.out⟩
    · go_enter Try.func5, Try.ntmps5
      go_wp2_with fail
      refine (awake_any _).mono ?_
      rintro e w3 ⟨rfl, hb3⟩
      go_wp2_with fail
      go_ret
      exact ⟨rfl, hb3⟩
  · go_enter Try.func5, Try.ntmps5
    go_wp2_with fail
    refine (awake_any _).mono ?_
    rintro e w3 ⟨rfl, hb3⟩
    go_wp2_with fail
    go_ret
    exact ⟨rfl, hb3⟩
end Go.Proofs.Ytapiaiobohkemaa.CrcW
