/- Faults: numerals; what a fault says. -/
import Derived.Test.YthpplbigmolnjaaDoorFltJ
import Derived.Test.YthpplbigmolnjaaDoorShelf
import Derived.Lib.AppendIntMem
import Derived.Lib.ItoaLen
import Derived.Test.YthpplbigmolnjaaDoorCls
set_option linter.unusedVariables false
set_option linter.unusedSimpArgs false
namespace Go.Proofs.YthpplbigmolnjaaDoor.FltW
open Go.RowKit Go.Proofs.YthpplbigmolnjaaDoor.Tc

def itoa (n : Int) : ByteArray := ⟨(Lib.itoa n).toArray⟩
/-- The library's table. -/
def Tab (w : World) : Prop := Lib.TabIs Tryd.prog w "internal/strconv.uint64pow10" .u64 Lib.pow10Tab
theorem itoa_any (n : Int) (h0 : -9223372036854775808 ≤ n) (h1 : n ≤ 9223372036854775807) (w : World) (ht : Tab w) :
    Calls Tryd.prog 64 #[.int .i64 n] w fun e w' => e = .returned (.string (itoa n)) ∧ Below w.heap.size w w' :=
  (Tryd.strconv_Itoa n h0 h1 w ht).mono fun e w' ⟨he, k, os, hw⟩ => ⟨he, by rw [hw]; exact Lib.below_grow _ _ (Nat.le_refl _) _ _⟩
/-- What is left of a number, and the digits that are there. -/
def Left (n k : Int) (b : ByteArray) : Prop := (k = 0 ∧ b.data.toList = Lib.decDigits n.natAbs) ∨ (k ≠ 0 ∧ Lib.decDigits n.natAbs = Lib.decDigits k.natAbs ++ b.data.toList)
theorem Left.step {n k : Int} {b : ByteArray} (h : Left n k b) (hk : k ≠ 0) (c : Int) (hc : k.tmod 10 = c) (x : ByteArray) (hx : x.data.toList = [UInt8.ofNat (48 + c.natAbs)]) : Left n (k.tdiv 10) (x ++ b) := by
  rcases h with ⟨h, _⟩ | ⟨_, h⟩
  · exact absurd h hk
  have hm : k.natAbs % 10 = c.natAbs := by rw [← hc, Int.natAbs_tmod]; rfl
  have hd : (k.tdiv 10).natAbs = k.natAbs / 10 := by rw [Int.natAbs_tdiv]; rfl
  have hk' : Lib.decDigits k.natAbs = if h : k.natAbs < 10 then [UInt8.ofNat (48 + k.natAbs)] else Lib.decDigits (k.natAbs / 10) ++ [UInt8.ofNat (48 + k.natAbs % 10)] := by
    rw [Lib.decDigits]
  by_cases hlt : k.natAbs < 10
  · rw [dif_pos hlt] at hk'
    refine .inl ⟨by omega, ?_⟩
    rw [h, hk', ByteArray.toList_data_append, hx, ← hm, Nat.mod_eq_of_lt hlt]
  · rw [dif_neg hlt] at hk'
    refine .inr ⟨by omega, ?_⟩
    rw [h, hk', ByteArray.toList_data_append, hx, ← hm, hd, List.append_assoc]
theorem ba_size (b : ByteArray) : b.size = b.data.toList.length := rfl
theorem Left.size {n k : Int} {b : ByteArray} (h : Left n k b) (h0 : -9223372036854775808 ≤ n) (h1 : n ≤ 9223372036854775807) : b.size ≤ 21 := by
  have hb : b.size ≤ (Lib.decDigits n.natAbs).length := by
    rw [ba_size]
    rcases h with ⟨_, h⟩ | ⟨_, h⟩
    · rw [← h]; exact Nat.le_refl _
    · rw [h, List.length_append]; omega
  have := Lib.itoa_length_le n h0 h1
  unfold Lib.itoa at this
  split at this
  · rw [List.length_cons] at this; omega
  · rw [show n.natAbs = n.toNat by omega] at hb; omega
theorem itoa_zero : itoa 0 = ⟨#[48]⟩ := by
  unfold itoa Lib.itoa
  rw [if_neg (by decide), show (0 : Int).toNat = 0 from rfl, Lib.decDigits, dif_pos (by decide)]
  rfl
theorem itoa_neg {n : Int} {b : ByteArray} (h : Left n 0 b) (hn : n < 0) : (⟨#[45]⟩ : ByteArray) ++ b = itoa n := by
  rcases h with ⟨_, h⟩ | ⟨h, _⟩
  · apply ByteArray.ext
    apply Array.ext'
    rw [ByteArray.toList_data_append, h]
    unfold itoa Lib.itoa
    rw [if_pos hn]
    rfl
  · exact absurd rfl h
theorem itoa_pos {n : Int} {b : ByteArray} (h : Left n 0 b) (hn : 0 ≤ n) : b = itoa n := by
  rcases h with ⟨_, h⟩ | ⟨h, _⟩
  · apply ByteArray.ext
    apply Array.ext'
    rw [h]
    unfold itoa Lib.itoa
    rw [if_neg (by omega), show n.natAbs = n.toNat by omega]
  · exact absurd rfl h
theorem tmod_cases (k : Int) : k.tmod 10 = -9 ∨ k.tmod 10 = -8 ∨ k.tmod 10 = -7 ∨ k.tmod 10 = -6 ∨ k.tmod 10 = -5 ∨ k.tmod 10 = -4 ∨ k.tmod 10 = -3 ∨ k.tmod 10 = -2 ∨ k.tmod 10 = -1 ∨ k.tmod 10 = 0 ∨ k.tmod 10 = 1 ∨ k.tmod 10 = 2 ∨ k.tmod 10 = 3 ∨ k.tmod 10 = 4 ∨ k.tmod 10 = 5 ∨ k.tmod 10 = 6 ∨ k.tmod 10 = 7 ∨ k.tmod 10 = 8 ∨ k.tmod 10 = 9 := by
  have h1 : (k.tmod 10).natAbs < 10 := by rw [Int.natAbs_tmod]; exact Nat.mod_lt _ (by decide)
  omega
set_option maxRecDepth 100000 in
set_option maxHeartbeats 4000000 in
theorem dec_any (n : Int) (h0 : -9223372036854775808 ≤ n) (h1 : n ≤ 9223372036854775807) (w : World) :
    Calls Tryd.prog 38 #[.int .i64 n] w fun e w' => e = .returned (.string (itoa n)) ∧ w = w' := by
  by_cases hz : n = 0
  · subst hz
    go_enter Tryd.func38, Tryd.ntmps38
    go_wp2
    go_ret
    exact ⟨congrArg _ (congrArg _ itoa_zero.symm), rfl⟩
  go_enter Tryd.func38, Tryd.ntmps38
  go_wp2
  go_loopw [3, 4] (fun s x wr => ∃ (k : Int) (b : ByteArray), -9223372036854775808 ≤ k ∧ k ≤ 9223372036854775807 ∧ Left n k b ∧ s = .string b ∧ x = .int .i64 k ∧ wr = w) (fun _ x _ => (intOf x).natAbs)
  case atStart => exact ⟨n, ⟨#[]⟩, h0, h1, .inr ⟨hz, by simp⟩, rfl, rfl, rfl⟩
  case round =>
    obtain ⟨k, b, hk0, hk1, hL, rfl, rfl, rfl⟩ := hrel
    have hsz := hL.size h0 h1
    have HL := Lib.hid hL
    by_cases hkz : k = 0
    · subst hkz
      clear hL
      by_cases hn : n < 0
      · go_wp2
        go_ret
        exact ⟨congrArg _ (congrArg _ (itoa_neg HL.out hn)), rfl⟩
      · go_wp2
        go_ret
        exact ⟨congrArg _ (congrArg _ (itoa_pos HL.out (by omega))), rfl⟩
    · have HT := Lib.hid (tmod_cases k)
      have hd : (k.tdiv 10).natAbs = k.natAbs / 10 := by rw [Int.natAbs_tdiv]; rfl
      have HD := Lib.hid (show -9223372036854775808 ≤ k.tdiv 10 ∧ k.tdiv 10 ≤ 9223372036854775807 ∧ (k.tdiv 10).natAbs < k.natAbs by omega)
      clear hL hd
      rcases HT.out with h | h | h | h | h | h | h | h | h | h | h | h | h | h | h | h | h | h | h
      all_goals
        have HH := Lib.hid h
        go_wp2
        go_roundw
        case rel => exact ⟨k.tdiv 10, _, HD.out.1, HD.out.2.1, HL.out.step hkz _ HH.out _ (by decide), rfl, rfl, trivial⟩
        case measure => exact HD.out.2.2
theorem itoa_size (n : Int) (h0 : -9223372036854775808 ≤ n) (h1 : n ≤ 9223372036854775807) : (itoa n).size ≤ 21 := Lib.itoa_length_le n h0 h1
def txt : Nat → ByteArray
  | 0 => ⟨#[116, 111, 111, 32, 102, 101, 119, 32, 98, 121, 116, 101, 115]⟩
  | 1 => ⟨#[109, 97, 108, 102, 111, 114, 109, 101, 100]⟩
  | 2 => ⟨#[97, 103, 97, 105, 110, 115, 116, 32, 116, 104, 101, 32, 112, 114, 111, 116, 111, 99, 111, 108]⟩
  | 3 => ⟨#[116, 111, 111, 32, 108, 97, 114, 103, 101]⟩
  | 4 => ⟨#[110, 111, 32, 114, 111, 111, 109]⟩
  | 5 => ⟨#[110, 111, 116, 32, 110, 111, 119]⟩
  | 6 => ⟨#[110, 111, 32, 115, 117, 99, 104, 32, 116, 104, 105, 110, 103]⟩
  | _ => ⟨#[111, 116, 104, 101, 114]⟩
theorem txt_size (i : Nat) (hi : i < 7) : (txt i).size ≤ 21 := by
  have : i = 0 ∨ i = 1 ∨ i = 2 ∨ i = 3 ∨ i = 4 ∨ i = 5 ∨ i = 6 := by omega
  rcases this with rfl | rfl | rfl | rfl | rfl | rfl | rfl <;> decide
set_option maxRecDepth 100000 in
theorem text_any (i : Nat) (hi : i < 7) (w : World) : Calls Tryd.prog 63 #[.int .i64 ((i : Int) + 1)] w fun e w' => e = .returned (.string (txt i)) ∧ w = w' := by
  have : i = 0 ∨ i = 1 ∨ i = 2 ∨ i = 3 ∨ i = 4 ∨ i = 5 ∨ i = 6 := by omega
  rcases this with rfl | rfl | rfl | rfl | rfl | rfl | rfl <;> (go_enter Tryd.func63, Tryd.ntmps63; go_wp2; go_ret; exact ⟨rfl, rfl⟩)
set_option maxRecDepth 100000 in
theorem rtext_any (i : Nat) (hi : i < 7) (w : World) : Calls Tryd.prog 37 #[.int .i64 ((i : Int) + 1)] w fun e w' => e = .returned (.string (txt i)) ∧ w = w' := by
  have : i = 0 ∨ i = 1 ∨ i = 2 ∨ i = 3 ∨ i = 4 ∨ i = 5 ∨ i = 6 := by omega
  rcases this with rfl | rfl | rfl | rfl | rfl | rfl | rfl <;> (go_enter Tryd.func37, Tryd.ntmps37; go_wp2; go_ret; exact ⟨rfl, rfl⟩)
/-- What a fault says. -/
def says (t r a : ByteArray) : ByteArray := t ++ ⟨#[44, 32, 114, 101, 97, 115, 111, 110, 32]⟩ ++ r ++ ⟨#[44, 32, 97, 116, 32]⟩ ++ a
theorem error_nil (w : World) : Calls Tryd.prog 36 #[.pointer none] w fun e w' => e = .returned (.string ⟨#[]⟩) ∧ w = w' := by
  go_enter Tryd.func36, Tryd.ntmps36
  go_wp2
  go_ret
  exact ⟨rfl, rfl⟩
theorem unwrap_nil (w : World) : Calls Tryd.prog 35 #[.pointer none] w fun e w' => e = .returned .nilIface ∧ w = w' := by
  go_enter Tryd.func35, Tryd.ntmps35
  go_wp2
  go_ret
  exact ⟨rfl, rfl⟩
theorem unwrap_any (b : Nat) (r a : Int) (T : TypeId) (v : Value) (w : World) (hb : w.heap[b]? = some (.cells #[.int .i64 r, .int .i64 a, .iface T v] 58 (0, 0))) : Calls Tryd.prog 35 #[.pointer (some ⟨b, 0, none⟩)] w fun e w' => e = .returned (.iface T v) ∧ w = w' := by
  have c2 : w.cell? ⟨b, 2, none⟩ = some (.iface T v) := cell_of hb rfl
  clear hb
  go_enter Tryd.func35, Tryd.ntmps35
  go_wp2
  go_ret
  exact ⟨rfl, rfl⟩
theorem Tab.below {w w' : World} (h : Tab w) (hb : Below w.heap.size w w') : Tab w' := Lib.tabBelow_of_tabIs h w' hb
set_option maxRecDepth 100000 in
set_option maxHeartbeats 2000000 in
theorem error_any (b : Nat) (r a : Int) (hr0 : -9223372036854775808 ≤ r) (hr1 : r ≤ 9223372036854775807) (ha0 : -9223372036854775808 ≤ a) (ha1 : a ≤ 9223372036854775807) (i : Nat) (hi : i < 7) (w : World) (s : Nat → Addr) (hE : EnvF w s) (hT : Tab w)
    (hb : w.heap[b]? = some (.cells #[.int .i64 r, .int .i64 a, .iface 96 (.pointer (some (s i)))] 58 (0, 0))) :
    Calls Tryd.prog 36 #[.pointer (some ⟨b, 0, none⟩)] w fun e w' => e = .returned (.string (says (txt i) (itoa r) (itoa a))) ∧ Below w.heap.size w w' := by
  have c0 : w.cell? ⟨b, 0, none⟩ = some (.int .i64 r) := cell_of hb rfl
  have c1 : w.cell? ⟨b, 1, none⟩ = some (.int .i64 a) := cell_of hb rfl
  have c2 : w.cell? ⟨b, 2, none⟩ = some (.iface 96 (.pointer (some (s i)))) := cell_of hb rfl
  have d0 := fun n : Wd (Gr w) => n.cell c0
  have d1 := fun n : Wd (Gr w) => n.cell c1
  have d2 := fun n : Wd (Gr w) => n.cell c2
  have HN := Lib.hid (fun n : Wd (Gr w) => number_any n.w s (hE.below n.ok) i hi [] _ rfl)
  have HX := Lib.hid (fun w' => text_any i hi w')
  have HR := Lib.hid (fun n : Wd (Gr w) => itoa_any r hr0 hr1 n.w (hT.below n.ok))
  have HA := Lib.hid (fun n : Wd (Gr w) => itoa_any a ha0 ha1 n.w (hT.below n.ok))
  have s0 := txt_size i hi
  have s1 := itoa_size r hr0 hr1
  have s2 := itoa_size a ha0 ha1
  unfold says
  generalize itoa r = tr at *
  generalize itoa a = ta at *
  generalize txt i = tx at *
  clear hE hT hb
  go_enter Tryd.func36, Tryd.ntmps36
  go_wp2
  refine wp_region_cls (Gr w) (gr_drew w) (by kernel_rfl) (by kernel_rfl) ?_
  repeat (go_big_quiet_step (first | (go_at_call 17; exact cls_call (HN.out _)) | (go_at_call 63; exact cls_same (HX.out _)) | (go_at_call_of 64 (Value.int IntKind.i64 r); exact cls_call (HR.out _)) | (go_at_call_of 64 (Value.int IntKind.i64 a); exact cls_call (HA.out _))))
  refine wpQuiet_nil ?_
  rintro _ ⟨⟨wq, hq⟩, rfl⟩
  go_wp2
  go_ret
  exact ⟨rfl, hq⟩
end Go.Proofs.YthpplbigmolnjaaDoor.FltW
