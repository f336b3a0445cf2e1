/- The document's names and filters: what its functions answer (over the printed ones). -/
import Derived.Test.YtnognmnjlnokeaaDoorTopR
set_option linter.unusedVariables false
set_option linter.unusedSimpArgs false
namespace Go.Proofs.YtnognmnjlnokeaaDoor.TopW
open Go.RowKit Go.Proofs.YtnognmnjlnokeaaDoor.Tc Go.Proofs.YtnognmnjlnokeaaDoor.TopP Go.Proofs.YtnognmnjlnokeaaDoor.PTopicMatch Go.Proofs.YtnognmnjlnokeaaDoorW.PrintWords

theorem drop_list (s : ByteArray) (i : Nat) (h : i ≤ s.size) : (s.extract i s.size).data.toList = s.data.toList.drop i := by
  rw [ByteArray.data_extract, Array.toList_extract, List.extract_eq_take_drop]
  exact List.take_of_length_le (by simp)
theorem size_list (s : ByteArray) : s.data.toList.length = s.size := by simp
theorem cut_r (s : ByteArray) (hs : s.size ≤ 1000000) (d : Nat) : ∀ (at_ k : Nat), at_ ≤ s.size → s.size - at_ ≤ d → d + 21 ≤ k → towncrierref03_Cut.l0 k s (at_ : Int) = some ((at_ + cut (s.data.toList.drop at_) : Nat) : Int) := by
  induction d with
  | zero =>
    intro at_ k h1 h2 hk
    obtain ⟨k, rfl⟩ : ∃ m, k = m + 1 := ⟨k - 1, by omega⟩
    have e : at_ = s.size := by omega
    simp only [towncrierref03_Cut.l0]
    rw [if_neg (by omega), List.drop_eq_nil_of_le (by rw [size_list]; omega)]
    rfl
  | succ d ih =>
    intro at_ k h1 h2 hk
    obtain ⟨k, rfl⟩ : ∃ m, k = m + 1 := ⟨k - 1, by omega⟩
    simp only [towncrierref03_Cut.l0]
    by_cases hlt : at_ < s.size
    · have hx : (s.extract (at_ : Int).toNat s.size).data.toList = s.data.toList.drop at_ := drop_list s at_ h1
      have hf := first_r (s.extract (at_ : Int).toNat s.size) (k - 20) (by
        rw [hx]; intro e; have := congrArg List.length e; rw [List.length_drop, size_list, List.length_nil] at this; omega)
      rw [hx, show k - 20 + 20 = k by omega] at hf
      have hle := ulen_le (s.data.toList.drop at_)
      rw [List.length_drop, size_list] at hle
      rw [if_pos (by omega), if_pos (by omega), if_pos (by omega), hf]
      simp only [Option.bind_some]
      by_cases h0 : ulen (s.data.toList.drop at_) = 0
      · rw [if_neg (by omega), cut_zero h0]; rfl
      · rw [if_pos (by omega), show wrap64 ((at_ : Int) + (ulen (s.data.toList.drop at_) : Nat)) = ((at_ + ulen (s.data.toList.drop at_) : Nat) : Int) by rw [w64 (by omega)]; omega]
        rw [ih (at_ + ulen (s.data.toList.drop at_)) k (by omega) (by omega) (by omega), cut_step h0, List.drop_drop]
        congr 2
        omega
    · have e : at_ = s.size := by omega
      rw [if_neg (by omega), List.drop_eq_nil_of_le (by rw [size_list]; omega)]
      rfl
theorem is_r (s : ByteArray) (hs : s.size ≤ 60000) (k : Nat) (hk : s.size + 21 ≤ k) : towncrierref03_Is.f k s = some (valid s.data.toList) := by
  have hc := cut_r s (by omega) s.size 0 k (by omega) (by omega) (by omega)
  have hle := cut_le s.data.toList
  rw [size_list] at hle
  unfold towncrierref03_Is.f towncrierref03_Check.f
  rw [if_neg (by omega)]
  unfold towncrierref03_Cut.f
  rw [show ((0 : Nat) : Int) = 0 from rfl] at hc
  rw [hc]
  simp only [Option.bind_some, List.drop_zero, Nat.zero_add]
  unfold valid
  rw [size_list]
  by_cases h : cut s.data.toList = s.size
  · rw [if_neg (by omega), h]; simp
  · rw [if_pos (by omega)]; simp [h]
theorem has_r (s : ByteArray) (hs : s.size ≤ 1000000) (c : UInt8) (d : Nat) : ∀ (i k : Nat), i ≤ s.size → s.size - i ≤ d → d + 1 ≤ k → towncrierref16_has.l0 k s (c.toNat : Int) (i : Int) = some (has c (s.data.toList.drop i)) := by
  induction d with
  | zero =>
    intro i k h1 h2 hk
    obtain ⟨k, rfl⟩ : ∃ m, k = m + 1 := ⟨k - 1, by omega⟩
    simp only [towncrierref16_has.l0]
    rw [if_neg (by omega), List.drop_eq_nil_of_le (by rw [size_list]; omega)]
    simp [has]
  | succ d ih =>
    intro i k h1 h2 hk
    obtain ⟨k, rfl⟩ : ∃ m, k = m + 1 := ⟨k - 1, by omega⟩
    simp only [towncrierref16_has.l0]
    by_cases hlt : i < s.size
    · have hl : i < s.data.toList.length := by rw [size_list]; exact hlt
      rw [if_pos (by omega), if_pos (by omega), bt_get s i hl, List.drop_eq_getElem_cons hl]
      by_cases hc : s.data.toList[i] = c
      · rw [if_pos (by rw [hc])]; simp [has, hc]
      · rw [if_neg (by intro h; exact hc (UInt8.toNat_inj.1 (by omega))), show wrap64 ((i : Int) + 1) = ((i + 1 : Nat) : Int) by rw [w64 (by omega)]; omega, ih (i + 1) k (by omega) (by omega) (by omega)]
        unfold has
        congr 1
        rw [decide_eq_decide, List.mem_cons]
        exact ⟨.inr, fun h => h.resolve_left (fun e => hc e.symm)⟩
    · rw [if_neg (by omega), List.drop_eq_nil_of_le (by rw [size_list]; omega)]
      simp [has]
theorem has_f (s : ByteArray) (hs : s.size ≤ 1000000) (c : UInt8) (k : Nat) (hk : s.size + 1 ≤ k) (x : Int) (hx : x = c.toNat) : towncrierref16_has.f k s x = some (has c s.data.toList) := by
  subst hx
  unfold towncrierref16_has.f
  have := has_r s hs c s.size 0 k (by omega) (by omega) hk
  rw [show ((0 : Nat) : Int) = 0 from rfl] at this
  rw [this]; rfl
def LvR (s : ByteArray) (L : List ByteArray) : Prop := L.map (fun x => x.data.toList) = lv s.data.toList ∧ ∀ x ∈ L, x.size ≤ s.size
theorem levels_r (s : ByteArray) (hs : s.size ≤ 1000000) (d : Nat) : ∀ (from_ i k : Nat) (acc : List ByteArray), from_ ≤ i → i ≤ s.size → s.size - i ≤ d → d + 1 ≤ k → acc.length ≤ i → 47 ∉ (s.data.toList.drop from_).take (i - from_) →
    ∃ r, towncrierref16_Levels.l0 k s acc (from_ : Int) (i : Int) = some (acc ++ r) ∧ r.map (fun x => x.data.toList) = lv (s.data.toList.drop from_) ∧ ∀ x ∈ r, x.size ≤ s.size := by
  have fin : ∀ (from_ i : Nat) (acc : List ByteArray), from_ ≤ i → i = s.size → acc.length ≤ i → 47 ∉ (s.data.toList.drop from_).take (i - from_) →
      ∃ r, (if 0 ≤ (from_ : Int) then (if (from_ : Int) ≤ (s.size : Int) then (if acc.length < 8796093022208 then (some (acc ++ [s.extract (from_ : Int).toNat s.size])) else (none)) else (none)) else (none)) = some (acc ++ r) ∧ r.map (fun x => x.data.toList) = lv (s.data.toList.drop from_) ∧ ∀ x ∈ r, x.size ≤ s.size := by
    intro from_ i acc h1 h2 h3 h4
    rw [if_pos (by omega), if_pos (by omega), if_pos (by omega)]
    refine ⟨[s.extract (from_ : Int).toNat s.size], rfl, ?_, ?_⟩
    · rw [List.map_cons, List.map_nil]
      have : (s.extract (from_ : Int).toNat s.size).data.toList = s.data.toList.drop from_ := drop_list s from_ (by omega)
      rw [this]
      rw [List.take_of_length_le (by rw [List.length_drop, size_list]; omega)] at h4
      rw [lv_no h4]
    · intro x hx
      rw [List.mem_singleton.1 hx, ByteArray.size_extract]
      omega
  induction d with
  | zero =>
    intro from_ i k acc h1 h2 h3 hk ha hn
    obtain ⟨k, rfl⟩ : ∃ m, k = m + 1 := ⟨k - 1, by omega⟩
    simp only [towncrierref16_Levels.l0]
    rw [if_neg (by omega)]
    exact fin from_ i acc h1 (by omega) ha hn
  | succ d ih =>
    intro from_ i k acc h1 h2 h3 hk ha hn
    obtain ⟨k, rfl⟩ : ∃ m, k = m + 1 := ⟨k - 1, by omega⟩
    simp only [towncrierref16_Levels.l0]
    by_cases hlt : i < s.size
    · have hl : i < s.data.toList.length := by rw [size_list]; exact hlt
      have hw : wrap64 ((i : Int) + 1) = ((i + 1 : Nat) : Int) := by rw [w64 (by omega)]; omega
      have hil : i - from_ < (s.data.toList.drop from_).length := by rw [List.length_drop, size_list]; omega
      have hg : (s.data.toList.drop from_)[i - from_] = s.data.toList[i] := by rw [List.getElem_drop]; congr 1; omega
      rw [if_pos (by omega), if_pos (by omega), bt_get s i hl]
      by_cases hc : s.data.toList[i] = 47
      · rw [if_pos (by rw [hc]; rfl), if_pos (by omega), if_pos (by omega), if_pos (by omega), if_pos (by omega), hw]
        obtain ⟨r, hr, hm, hz⟩ := ih (i + 1) (i + 1) k (acc ++ [s.extract (from_ : Int).toNat (i : Int).toNat]) (by omega) (by omega) (by omega) (by omega) (by rw [List.length_append, List.length_singleton]; omega) (by simp)
        refine ⟨s.extract from_ i :: r, ?_, ?_, ?_⟩
        · rw [hr, List.append_assoc]; rfl
        · rw [List.map_cons, hm]
          have hx : (s.extract from_ i).data.toList = (s.data.toList.drop from_).take (i - from_) := by
            rw [ByteArray.data_extract, Array.toList_extract, List.extract_eq_take_drop]
          have hcut : s.data.toList.drop from_ = (s.data.toList.drop from_).take (i - from_) ++ 47 :: s.data.toList.drop (i + 1) := by
            conv => lhs; rw [← List.take_append_drop (i - from_) (s.data.toList.drop from_)]
            rw [List.drop_eq_getElem_cons hil, hg, hc, List.drop_drop, show from_ + (i - from_ + 1) = i + 1 by omega]
          rw [hx]
          conv => rhs; rw [hcut]
          rw [lv_cut _ hn]
        · intro x hx
          rcases List.mem_cons.1 hx with rfl | hx
          · rw [ByteArray.size_extract]; omega
          · exact hz x hx
      · rw [if_neg (by intro h; exact hc (UInt8.toNat_inj.1 (by rw [show (47 : UInt8).toNat = 47 from rfl]; omega))), hw]
        refine ih from_ (i + 1) k acc (by omega) (by omega) (by omega) (by omega) (by omega) ?_
        rw [show i + 1 - from_ = (i - from_) + 1 by omega, List.take_succ_eq_append_getElem hil, List.mem_append, List.mem_singleton, hg]
        rintro (h | h)
        · exact hn h
        · exact hc h.symm
    · rw [if_neg (by omega)]
      exact fin from_ i acc h1 (by omega) ha hn
theorem levels_f (s : ByteArray) (hs : s.size ≤ 1000000) (k : Nat) (hk : s.size + 1 ≤ k) : ∃ L, towncrierref16_Levels.f k s = some L ∧ LvR s L := by
  obtain ⟨r, h1, h2, h3⟩ := levels_r s hs s.size 0 0 k [] (by omega) (by omega) (by omega) hk (by simp) (by simp)
  rw [show ((0 : Nat) : Int) = 0 from rfl] at h1
  exact ⟨r, by unfold towncrierref16_Levels.f; rw [h1]; rfl, h2, h3⟩
theorem isEmpty_list (s : ByteArray) : s.toList = ([] : List UInt8) ↔ s.data.toList = [] := by rw [ByteArray.toList_eq]
theorem lvr_len {s : ByteArray} {L : List ByteArray} (h : LvR s L) : L.length = (lv s.data.toList).length := by rw [← h.1, List.length_map]
theorem name_r (s : ByteArray) (hs : s.size ≤ 60000) (k : Nat) (hk : s.size + 21 ≤ k) : towncrierref16_IsName.f k s = some (isName s.data.toList) := by
  obtain ⟨L, hL, hR⟩ := levels_f s (by omega) k (by omega)
  unfold towncrierref16_IsName.f isName may
  by_cases h0 : s.toList = ([] : List UInt8)
  · rw [if_pos h0, (isEmpty_list s).1 h0]; rfl
  · rw [if_neg h0, is_r s hs k hk]
    simp only [Option.bind_some]
    have he : (s.data.toList.isEmpty) = false := by
      rw [Bool.eq_false_iff, ne_eq, List.isEmpty_iff]
      exact fun h => h0 ((isEmpty_list s).2 h)
    rw [he]
    cases valid s.data.toList with
    | false => rw [if_neg (by decide)]; rfl
    | true =>
      rw [if_pos rfl, has_f s (by omega) 43 k (by omega) 43 rfl]
      simp only [Option.bind_some]
      cases has 43 s.data.toList with
      | true => rw [if_pos rfl]; simp
      | false =>
        rw [if_neg (by decide), has_f s (by omega) 35 k (by omega) 35 rfl]
        simp only [Option.bind_some]
        cases has 35 s.data.toList with
        | true => rw [if_pos rfl]; simp
        | false =>
          rw [if_neg (by decide), hL]
          simp only [Option.bind_some]
          rw [lvr_len hR]
          simp
          omega
end Go.Proofs.YtnognmnjlnokeaaDoor.TopW
