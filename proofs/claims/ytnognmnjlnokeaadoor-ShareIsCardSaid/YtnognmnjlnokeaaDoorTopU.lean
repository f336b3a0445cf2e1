/- Letters: what the program's functions come to. -/
import Derived.Test.YtnognmnjlnokeaaDoorProg
import Derived.WalkKit
import Derived.KernelRfl
import Derived.Deep.LoopGhost
import Derived.Deep.QuietTactic
import Derived.BigQuiet
import Derived.Lib.Hide
import Derived.Lib.ConvBytes
import Derived.Deep.Cut
import Derived.Deep.DeepCutAuto
import Derived.Handy
import Derived.WalkSpells
import Derived.Laws.BitsLemmas
import Derived.Outline
import Derived.Test.YtnognmnjlnokeaaDoorFrame
import Derived.Test.YtnognmnjlnokeaaDoorStr
import Derived.Test.YtnognmnjlnokeaaDoorTopPure
set_option linter.unusedVariables false
set_option linter.unusedSimpArgs false
namespace Go.Proofs.YtnognmnjlnokeaaDoor.TopW
open Go.RowKit Go.Proofs.YtnognmnjlnokeaaDoor.Tc Go.Proofs.YtnognmnjlnokeaaDoor.TopP


theorem and31 (n : Nat) (h : 192 ≤ n) (h2 : n < 224) : bits .and .u8 (n : Int) 31 = ((n - 192 : Nat) : Int) := by
  have : ∀ m : Fin 256, 192 ≤ m.val → m.val < 224 → bits .and .u8 (m.val : Int) 31 = ((m.val - 192 : Nat) : Int) := by decide +kernel
  exact this ⟨n, by omega⟩ h h2
theorem and15 (n : Nat) (h : 224 ≤ n) (h2 : n < 240) : bits .and .u8 (n : Int) 15 = ((n - 224 : Nat) : Int) := by
  have : ∀ m : Fin 256, 224 ≤ m.val → m.val < 240 → bits .and .u8 (m.val : Int) 15 = ((m.val - 224 : Nat) : Int) := by decide +kernel
  exact this ⟨n, by omega⟩ h h2
theorem and7 (n : Nat) (h : 240 ≤ n) (h2 : n < 248) : bits .and .u8 (n : Int) 7 = ((n - 240 : Nat) : Int) := by
  have : ∀ m : Fin 256, 240 ≤ m.val → m.val < 248 → bits .and .u8 (m.val : Int) 7 = ((m.val - 240 : Nat) : Int) := by decide +kernel
  exact this ⟨n, by omega⟩ h h2
def tri (n : Nat) : Value := .tuple #[.int .i64 (fol n : Nat), .int .i64 (ini n : Nat), .int .i64 (lea n : Nat)]
theorem tri_of {n f i l : Nat} (h : fol n = f ∧ ini n = i ∧ lea n = l) : Ending.returned (.tuple #[.int .i64 (f : Nat), .int .i64 (i : Nat), .int .i64 (l : Nat)]) = .returned (tri n) := by
  obtain ⟨rfl, rfl, rfl⟩ := h; rfl
set_option maxRecDepth 100000 in
set_option maxHeartbeats 1000000 in
theorem shape_any (c : UInt8) (w : World) : Calls Tryd.prog 161 #[.int .u8 (c.toNat : Int)] w fun e w' => e = .returned (tri c.toNat) ∧ w = w' := by
  have hc : c.toNat < 256 := c.toNat_lt
  generalize c.toNat = n at *
  by_cases h1 : 1 ≤ n ∧ n < 128
  · have HF := Lib.hid (show fol n = 0 ∧ ini n = n ∧ lea n = 1 by simp [fol, ini, lea, h1])
    obtain ⟨a, b⟩ := h1
    go_enter Tryd.func161, Tryd.ntmps161
    go_wp2
    go_ret3
    exact ⟨tri_of HF.out, rfl⟩
  by_cases h2 : 192 ≤ n ∧ n < 224
  · have HF := Lib.hid (show fol n = 1 ∧ ini n = n - 192 ∧ lea n = 128 by simp [fol, ini, lea, h1, h2])
    have e := and31 n h2.1 h2.2
    obtain ⟨a, b⟩ := h2
    clear h1
    go_enter Tryd.func161, Tryd.ntmps161
    go_wp2
    go_ret3
    exact ⟨tri_of HF.out, rfl⟩
  by_cases h3 : 224 ≤ n ∧ n < 240
  · have HF := Lib.hid (show fol n = 2 ∧ ini n = n - 224 ∧ lea n = 2048 by simp [fol, ini, lea, h1, h2, h3])
    have e := and15 n h3.1 h3.2
    obtain ⟨a, b⟩ := h3
    clear h1 h2
    go_enter Tryd.func161, Tryd.ntmps161
    go_wp2
    go_ret3
    exact ⟨tri_of HF.out, rfl⟩
  by_cases h4 : 240 ≤ n ∧ n < 248
  · have HF := Lib.hid (show fol n = 3 ∧ ini n = n - 240 ∧ lea n = 65536 by simp [fol, ini, lea, h1, h2, h3, h4])
    have e := and7 n h4.1 h4.2
    obtain ⟨a, b⟩ := h4
    clear h1 h2 h3
    go_enter Tryd.func161, Tryd.ntmps161
    go_wp2
    go_ret3
    exact ⟨tri_of HF.out, rfl⟩
  have HF := Lib.hid (show fol n = 0 ∧ ini n = 0 ∧ lea n = 1 by simp [fol, ini, lea, h1, h2, h3, h4])
  rcases (show n = 0 ∨ (128 ≤ n ∧ n < 192) ∨ 248 ≤ n by omega) with rfl | ⟨a, b⟩ | a
  all_goals
    clear h1 h2 h3 h4
    go_enter Tryd.func161, Tryd.ntmps161
    go_wp2
    go_ret3
    exact ⟨tri_of HF.out, rfl⟩
theorem eat_snoc (n : Nat) (l : List UInt8) (b : UInt8) : eat n (l ++ [b]) = (eat n l).bind fun m => if cont b = true then some (m * 64 + b.toNat % 64) else none := by
  induction l generalizing n with
  | nil => simp [eat]
  | cons x l ih =>
    simp only [List.cons_append, eat]
    by_cases h : cont x = true
    · rw [if_pos h, if_pos h, ih]
    · rw [if_neg h, if_neg h]; rfl
theorem eat_app (n : Nat) (l r : List UInt8) : eat n (l ++ r) = (eat n l).bind fun m => eat m r := by
  induction l generalizing n with
  | nil => simp [eat]
  | cons x l ih =>
    simp only [List.cons_append, eat]
    by_cases h : cont x = true
    · rw [if_pos h, if_pos h, ih]
    · rw [if_neg h, if_neg h]; rfl
theorem or64 (n x : Nat) (hx : x < 64) (hn : n < 33554432) : bits .or .i64 ((n : Int) * 64) (x : Int) = ((n * 64 + x : Nat) : Int) := by
  rw [bits_join .i64 62 (by decide) (fun m h0 h1 => by rw [IntKind.wrap_i64]; omega) 6 ((n : Int) * 64) (x : Int) (by omega) (by omega) (by omega) (by omega) (by omega) (by omega)]
  omega
theorem low6 (b : UInt8) (h : cont b = true) : bits .and .u8 (b.toNat : Int) 63 = ((b.toNat % 64 : Nat) : Int) := by
  have : ∀ m : Fin 256, bits .and .u8 (m.val : Int) 63 = ((m.val % 64 : Nat) : Int) := by decide +kernel
  exact this ⟨b.toNat, b.toNat_lt⟩
theorem top2 (b : UInt8) : (bits .and .u8 (b.toNat : Int) 192 != 128) = !cont b := by
  have : ∀ m : Fin 256, (bits .and .u8 (m.val : Int) 192 != 128) = !(decide (128 ≤ m.val) && decide (m.val < 192)) := by decide +kernel
  exact this ⟨b.toNat, b.toNat_lt⟩
set_option maxRecDepth 100000 in
set_option maxHeartbeats 1000000 in
theorem first_any (s : ByteArray) (w : World) (hs0 : 0 < s.size) (hs : s.size ≤ 1000000) : Calls Tryd.prog 149 #[.string s] w fun e w' => e = .returned (.int .i64 (ulen s.data.toList : Nat)) ∧ Below w.heap.size w w' := by
  obtain ⟨c, r, hcr⟩ : ∃ c r, s.data.toList = c :: r := by
    cases h : s.data.toList with
    | nil => have h1 : s.data.size = 0 := by have := congrArg List.length h; simpa using this
             have h2 : s.size = s.data.size := rfl
             omega
    | cons c r => exact ⟨c, r, rfl⟩
  have hlen : s.size = r.length + 1 := by have := congrArg List.length hcr; simpa using this
  have hc0 : s[0]'hs0 = c := by
    have : s.data.toList[0]'(by simpa using hs0) = c := by simp [hcr]
    simp at this
    exact this
  have HSH := Lib.hid (shape_any c w)
  unfold tri at HSH
  have hf3 := fol_le c.toNat
  by_cases hlt : r.length < fol c.toNat
  · have HU := Lib.hid (show ulen s.data.toList = 0 by rw [hcr]; simp only [ulen]; rw [if_pos hlt])
    rw [HU.out]
    clear hcr
    go_enter Tryd.func149, Tryd.ntmps149
    go_wp2_with fail
    refine HSH.out.mono ?_
    rintro e w' ⟨rfl, rfl⟩
    have hge : s.size ≤ fol c.toNat := by omega
    generalize fol c.toNat = f at *
    generalize ini c.toNat = n0 at *
    generalize lea c.toNat = l0 at *
    clear hlen hlt HSH HU
    go_wp2
    go_ret
    exact ⟨rfl, Below.refl _ _⟩
  · obtain ⟨t, ht⟩ : ∃ t, t = s.extract 1 (fol c.toNat + 1) := ⟨_, rfl⟩
    have hts : t.size = fol c.toNat := by rw [ht, ByteArray.size_extract]; omega
    have htl : t.data.toList = r.take (fol c.toNat) := by
      rw [ht, ByteArray.data_extract, Array.toList_extract, hcr, List.extract_eq_take_drop]
      simp
    have HU := Lib.hid (show ulen s.data.toList = fin (eat (ini c.toNat) t.data.toList) (lea c.toNat) t.size by
      rw [hcr, htl, hts]; simp only [ulen]; rw [if_neg hlt])
    have hin : ini c.toNat < 128 := by
      unfold ini
      by_cases h1 : 1 ≤ c.toNat ∧ c.toNat < 128
      · rw [if_pos h1]; omega
      rw [if_neg h1]
      by_cases h2 : 192 ≤ c.toNat ∧ c.toNat < 224
      · rw [if_pos h2]; omega
      rw [if_neg h2]
      by_cases h3 : 224 ≤ c.toNat ∧ c.toNat < 240
      · rw [if_pos h3]; omega
      rw [if_neg h3]
      by_cases h4 : 240 ≤ c.toNat ∧ c.toNat < 248
      · rw [if_pos h4]; omega
      rw [if_neg h4]; omega
    have hlr : t.size < s.size := by omega
    rw [← hts] at hf3 ht HSH
    generalize hn0 : ini c.toNat = n0 at *
    generalize hl0 : lea c.toNat = l0 at *
    have hl1 : l0 ≤ 65536 := by
      rw [← hl0]
      unfold lea
      by_cases h1 : 1 ≤ c.toNat ∧ c.toNat < 128
      · rw [if_pos h1]; omega
      rw [if_neg h1]
      by_cases h2 : 192 ≤ c.toNat ∧ c.toNat < 224
      · rw [if_pos h2]; omega
      rw [if_neg h2]
      by_cases h3 : 224 ≤ c.toNat ∧ c.toNat < 240
      · rw [if_pos h3]; omega
      rw [if_neg h3]
      by_cases h4 : 240 ≤ c.toNat ∧ c.toNat < 248
      · rw [if_pos h4]; omega
      rw [if_neg h4]; omega
    have he := ht.symm
    have hcv := fun w => Lib.run_convert_string_bytes (P := Tryd.prog) w 9 156 5 t Tryd.underlying9 Tryd.underlying156 Tryd.underlying5
    have HB := Lib.hid (show Below w.heap.size w (Lib.bytesWorld w 5 t) from ⟨rfl, rfl, rfl, by rw [Lib.bytesWorld_size]; omega, fun k hk => Lib.bytesWorld_at_old w 5 t k hk⟩)
    have HC := Lib.hid (Lib.bytesWorld_cell w 5 t)
    generalize ulen s.data.toList = U at *
    clear hts htl hlt ht hlen hcr hn0 hl0
    go_enter Tryd.func149, Tryd.ntmps149
    go_wp2_with fail
    refine HSH.out.mono ?_
    rintro e w' ⟨rfl, rfl⟩
    clear HSH
    go_wp2_with fail
    go_loop [4, 25] (fun x i => ∃ k n : Nat, k ≤ t.size ∧ i = .int .i64 k ∧ x = .int .i64 n ∧ eat n0 (t.data.toList.take k) = some n ∧ n < 128 * 64 ^ k) (fun _ i => t.size - (intOf i).toNat)
    case atStart => exact ⟨0, n0, by omega, rfl, rfl, by simp [eat], by omega⟩
    case round =>
      obtain ⟨k, n, hk, rfl, rfl, hn, hnb⟩ := hrel
      by_cases hlt : k < t.size
      · have hl : k < t.data.toList.length := by simpa using hlt
        have hcell := HC.out k hlt
        rw [List.getD_eq_getElem?_getD, List.getElem?_eq_getElem hl, Option.getD_some] at hcell
        have hb33 : n < 33554432 := by
          rcases (show k = 0 ∨ k = 1 ∨ k = 2 by omega) with rfl | rfl | rfl <;> omega
        have hts := List.take_succ_eq_append_getElem hl
        have HN := Lib.hid (show eat n0 (t.data.toList.take (k + 1)) = if cont t.data.toList[k] = true then some (n * 64 + t.data.toList[k].toNat % 64) else none by
          rw [hts, eat_snoc, hn]; rfl)
        have HN0 := Lib.hid (show eat n0 t.data.toList = (eat n0 (t.data.toList.take (k + 1))).bind fun m => eat m (t.data.toList.drop (k + 1)) by
          rw [← eat_app, List.take_append_drop])
        have e1 := top2 t.data.toList[k]
        have hpow : 128 * 64 ^ (k + 1) = 64 * (128 * 64 ^ k) := by rw [Nat.pow_succ]; omega
        have HPW := Lib.hid hpow
        have HNB := Lib.hid hnb
        clear hts hn hpow hnb
        generalize t.data.toList[k] = b at *
        cases hcb : cont b with
        | false =>
          rw [hcb] at e1
          simp only [Bool.not_false] at e1
          have HR := Lib.hid (show U = 0 by rw [HU.out, HN0.out, HN.out, hcb]; rfl)
          clear HN HN0 hcb
          go_wp2
          go_ret
          exact ⟨by rw [HR.out]; rfl, HB.out⟩
        | true =>
          rw [hcb] at e1
          simp only [Bool.not_true] at e1
          have e2 := low6 b hcb
          have hm : b.toNat % 64 < 64 := Nat.mod_lt _ (by omega)
          have HCB := Lib.hid hcb
          clear hcb
          go_wp2
          go_round
          case rel => exact ⟨k + 1, n * 64 + b.toNat % 64, by omega, by go_num, by rw [← or64 n _ hm hb33]; rfl, by rw [HN.out, if_pos HCB.out], by rw [HPW.out]; have := HNB.out; omega⟩
          case measure => simp [intOf]; omega
      · obtain rfl : k = t.size := by omega
        rw [List.take_of_length_le (by simp)] at hn
        have hn2 : n < 33554432 := by
          rcases (show t.size = 0 ∨ t.size = 1 ∨ t.size = 2 ∨ t.size = 3 by omega) with h | h | h | h <;> rw [h] at hnb <;> omega
        have HR := Lib.hid (show U = if fits n l0 = true then t.size + 1 else 0 by rw [HU.out, hn]; rfl)
        clear hn hnb
        have hF : Hid (fits n l0 = !(decide (n < l0) || decide (1114111 < n) || (decide (55296 ≤ n) && decide (n ≤ 57343)))) := Lib.hid rfl
        by_cases g1 : n < l0
        · have HR2 := Lib.hid (show U = 0 by rw [HR.out, hF.out]; simp [g1])
          clear HR hF
          go_wp2
          go_ret
          exact ⟨by rw [HR2.out]; rfl, HB.out⟩
        by_cases g2 : 1114111 < n
        · have HR2 := Lib.hid (show U = 0 by rw [HR.out, hF.out]; simp [g2])
          clear HR hF
          go_wp2
          go_ret
          exact ⟨by rw [HR2.out]; rfl, HB.out⟩
        by_cases g3 : 55296 ≤ n
        · by_cases g4 : n ≤ 57343
          · have HR2 := Lib.hid (show U = 0 by rw [HR.out, hF.out]; simp [g3, g4])
            clear HR hF
            go_wp2
            go_ret
            exact ⟨by rw [HR2.out]; rfl, HB.out⟩
          · have HR2 := Lib.hid (show U = t.size + 1 by rw [HR.out, hF.out]; simp [g1, g2, g4])
            clear HR hF
            go_wp2
            go_ret
            exact ⟨by rw [HR2.out]; rfl, HB.out⟩
        · have HR2 := Lib.hid (show U = t.size + 1 by rw [HR.out, hF.out]; simp [g1, g2, g3])
          clear HR hF
          go_wp2
          go_ret
          exact ⟨by rw [HR2.out]; rfl, HB.out⟩
end Go.Proofs.YtnognmnjlnokeaaDoor.TopW
