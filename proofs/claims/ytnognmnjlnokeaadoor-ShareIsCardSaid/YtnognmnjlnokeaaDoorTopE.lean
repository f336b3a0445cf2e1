/- Texts in a row: compared, joined; TopicIs. -/
import Derived.Test.YtnognmnjlnokeaaDoorTopA
import Derived.Test.YtnognmnjlnokeaaDoorCls
import Derived.Test.YtnognmnjlnokeaaDoorKind
set_option linter.unusedVariables false
set_option linter.unusedSimpArgs false
namespace Go.Proofs.YtnognmnjlnokeaaDoor.TopW
open Go.RowKit Go.Proofs.YtnognmnjlnokeaaDoor.Tc Go.Proofs.YtnognmnjlnokeaaDoor.TopP Go.Proofs.YtnognmnjlnokeaaDoorW.PrintWords

/-- A row of texts reads so. -/
def Txt (w : World) (A : Option Addr) (L : List ByteArray) : Prop := ∀ (k : Nat) (x : ByteArray), L[k]? = some x → ∃ b off, A = some ⟨b, off, none⟩ ∧ w.cell? ⟨b, off + k, none⟩ = some (.string x)
theorem Txt.keep {w w' : World} {A : Option Addr} {L : List ByteArray} (h : Txt w A L) (hk : ∀ {a : Addr} {v : Value}, w.cell? a = some v → w'.cell? a = some v) : Txt w' A L := by
  intro k x hx
  obtain ⟨b, off, hA, hc⟩ := h k x hx
  exact ⟨b, off, hA, hk hc⟩
theorem below_cell {w w' : World} (hb : Below w.heap.size w w') {a : Addr} {v : Value} (hc : w.cell? a = some v) : w'.cell? a = some v := (World.cell?_of_block (hb.block a.block (World.block_lt_of_cell? w a hc))).trans hc
theorem Txt.below {w w' : World} {A : Option Addr} {L : List ByteArray} (h : Txt w A L) (hb : Below w.heap.size w w') : Txt w' A L := h.keep (below_cell hb)
theorem Txt.lay (w : World) (L : List ByteArray) : Txt (w.alloc (Lay L)) (some ⟨w.heap.size, 0, none⟩) L := by
  intro k x hx
  exact ⟨_, 0, rfl, by rw [Nat.zero_add]; exact lay_cell w L hx⟩
theorem Txt.of_C {w : World} {A : Option Addr} {L : List ByteArray} (h : Kd.C Kd.string w A L.length L) : Txt w A L := by
  intro k x hx
  have hk := (List.getElem?_eq_some_iff.1 hx).1
  obtain ⟨-, -, h3⟩ := h
  obtain ⟨ad, hA, hel⟩ := h3 (by omega)
  obtain ⟨c, hc1, hc2, hcell⟩ := hel k x hx
  have hc : c = [.string x] := hc2
  subst hc
  have h0 := hcell 0 (.string x) rfl
  have hs : Kd.string.sz = 1 := rfl
  rw [hs, Nat.mul_one, Nat.add_zero] at h0
  obtain ⟨x0, hx0⟩ : ∃ x0, L[0]? = some x0 := ⟨_, List.getElem?_eq_getElem (Nat.lt_of_le_of_lt (Nat.zero_le _) hk)⟩
  obtain ⟨c0, hd1, hd2, hcell0⟩ := hel 0 x0 hx0
  have hd : c0 = [.string x0] := hd2
  subst hd
  have h00 := hcell0 0 _ rfl
  rw [hs, Nat.zero_mul, Nat.add_zero] at h00
  have hz : ad.add 0 = ad := by simp [Addr.add]
  rw [hz] at h00
  have hsp := spot_none h00
  refine ⟨ad.block, ad.off, by rw [hA, ← hsp], ?_⟩
  rw [hsp, Tc.add_plain] at h0
  exact h0
theorem same_list {L M : List ByteArray} (h : L.map (fun x => x.data.toList) = M.map (fun x => x.data.toList)) : L = M := by
  induction L generalizing M with
  | nil => cases M with
    | nil => rfl
    | cons y M => simp at h
  | cons x L ih => cases M with
    | nil => simp at h
    | cons y M =>
      simp only [List.map_cons, List.cons.injEq] at h
      rw [ih h.2]
      congr 1
      apply ByteArray.ext
      apply Array.ext'
      exact h.1
set_option maxRecDepth 100000 in
set_option maxHeartbeats 1000000 in
theorem same_any (w : World) (A B : Option Addr) (L : List ByteArray) (c d : Nat) (hA : Txt w A L) (hB : Txt w B L) (hL : L.length ≤ 1000000) :
    Calls Tryd.prog 21 #[.slice A L.length c, .slice B L.length d] w fun e w' => e = .returned (.bool true) ∧ Dr w w' := by
  have HA := Lib.hid hA
  have HB := Lib.hid hB
  clear hA hB
  go_enter Tryd.func21, Tryd.ntmps21
  go_wp2
  go_loopw [5] (fun i wr => ∃ k : Nat, k ≤ L.length ∧ i = .int .i64 k ∧ Dr w wr) (fun i _ => L.length - (intOf i).toNat)
  case atStart => exact ⟨0, by omega, rfl, dr_refl w⟩
  case round =>
    obtain ⟨k, hk, rfl, n, rfl⟩ := hrel
    by_cases hlt : k < L.length
    · obtain ⟨x, hx⟩ : ∃ x, L[k]? = some x := ⟨_, List.getElem?_eq_getElem hlt⟩
      obtain ⟨b1, o1, rfl, h1⟩ := HA.out k x hx
      obtain ⟨b2, o2, rfl, h2⟩ := HB.out k x hx
      have e1 := str_eq (rfl : x = x)
      clear hx
      go_wp2
      go_quiet (fail)
      go_wp2
      go_roundw
      case rel => exact ⟨k + 1, by omega, by go_num, n + nq, rfl⟩
      case measure => simp [intOf]; omega
    · obtain rfl : k = L.length := by omega
      go_wp2
      go_ret
      exact ⟨rfl, n, rfl⟩
set_option maxRecDepth 100000 in
set_option maxHeartbeats 1000000 in
theorem is_law (w : World) (s : ByteArray) (hs' : s.size ≤ 140737488351232) (hE : Env w) : Calls Tryd.prog 3 #[.string s] w fun e w' => e = .returned (.bool true) ∧ Below w.heap.size w w' := by
  have HE := Lib.hid hE
  have HA := Lib.hid (awake_any w hE)
  clear hE
  by_cases h1 : 300 < s.size
  · go_enter Tryd.func3, Tryd.ntmps3
    go_wp2_with fail
    refine HA.out.mono ?_
    rintro e w1 ⟨rfl, hb⟩
    have HB := Lib.hid hb
    clear hb
    go_wp2_with fail
    go_ret
    exact ⟨rfl, HB.out⟩
  have HN := Lib.hid (name_any s w (by omega) HE.out)
  have HRN := Lib.hid (fun W => PTopicMatch.towncrierref16_IsName.calls 300000 s _ W (name_r s (by omega) 300000 (by omega)))
  have HRF := Lib.hid (fun W => PTopicMatch.towncrierref16_IsFilter.calls 300000 s _ W (filter_r s (by omega) 300000 (by omega)))
  obtain ⟨M, hM, hMR⟩ := levels_f s (by omega) 300000 (by omega)
  have HRL := Lib.hid (fun W => PTopicMatch.towncrierref16_Levels.calls 300000 s M W hM)
  have HMR := Lib.hid hMR
  have hlv := lv_le s
  have hml : M.length ≤ 1000000 := by have := lvr_len hMR; omega
  clear HA hM hMR hlv
  go_enter Tryd.func3, Tryd.ntmps3
  go_wp2_with fail
  refine HN.out.mono ?_
  rintro e w1 ⟨rfl, hb⟩
  have HB1 := Lib.hid hb
  clear hb
  go_wp2_with fail
  refine (HRN.out _).mono ?_
  rintro e w2 ⟨rfl, hb⟩
  have HB2 := Lib.hid (HB1.out.trans (hb.mono HB1.out.size))
  have HF := Lib.hid (filter_any s w2 (by omega) (HE.out.below (HB1.out.trans (hb.mono HB1.out.size))))
  clear hb
  go_wp2_with fail
  refine HF.out.mono ?_
  rintro e w3 ⟨rfl, hb⟩
  have HB3 := Lib.hid (HB2.out.trans (hb.mono HB2.out.size))
  clear hb
  go_wp2_with fail
  refine (HRF.out _).mono ?_
  rintro e w4 ⟨rfl, hb⟩
  have HB4 := Lib.hid (HB3.out.trans (hb.mono HB3.out.size))
  have HL := Lib.hid (levels_any s w4 (by omega) (HE.out.below (HB3.out.trans (hb.mono HB3.out.size))))
  clear hb
  go_wp2_with fail
  refine HL.out.mono ?_
  rintro e w5 ⟨L, rfl, hw5, hL, -⟩
  have hb5 : Below w4.heap.size w4 w5 := by rw [hw5]; exact (Below.refl w4.heap.size w4).alloc (Nat.le_refl _) (Lay L)
  have HT5 := Lib.hid (show Txt w5 (some ⟨w4.heap.size, 0, none⟩) L by rw [hw5]; exact Txt.lay w4 L)
  have HB5 := Lib.hid (HB4.out.trans (hb5.mono HB4.out.size))
  obtain rfl : L = M := same_list (by rw [hL, HMR.out.1])
  clear hw5 hL hb5
  go_wp2_with fail
  refine (HRL.out _).mono ?_
  rintro e w6 ⟨v, rfl, hR, hb⟩
  obtain ⟨A, c, rfl, -, hC⟩ := Kd.R_reads hR
  have HB6 := Lib.hid (HB5.out.trans (hb.mono HB5.out.size))
  have HSM := Lib.hid (same_any w6 _ _ L L.length c (HT5.out.below hb) (Txt.of_C hC) (by omega))
  clear hR hC hb
  go_wp2_with fail
  refine HSM.out.mono ?_
  rintro e w7 ⟨rfl, hd⟩
  have HB7 := Lib.hid (HB6.out.trans ((Dr.below hd).mono HB6.out.size))
  have HA := Lib.hid (awake_any w7 (HE.out.below (HB6.out.trans ((Dr.below hd).mono HB6.out.size))))
  clear hd
  go_wp2_with fail
  refine HA.out.mono ?_
  rintro e w8 ⟨rfl, hb⟩
  have HB8 := Lib.hid (HB7.out.trans (hb.mono HB7.out.size))
  clear hb
  go_wp2_with fail
  go_ret
  exact ⟨rfl, HB8.out⟩
end Go.Proofs.YtnognmnjlnokeaaDoor.TopW
