/- The document's filters, and what takes what. -/
import Derived.Test.YtnognmnjlnokeaaDoorTopS
set_option linter.unusedVariables false
set_option linter.unusedSimpArgs false
namespace Go.Proofs.YtnognmnjlnokeaaDoor.TopW
open Go.RowKit Go.Proofs.YtnognmnjlnokeaaDoor.Tc Go.Proofs.YtnognmnjlnokeaaDoor.TopP Go.Proofs.YtnognmnjlnokeaaDoor.PTopicMatch Go.Proofs.YtnognmnjlnokeaaDoorW.PrintWords

theorem rd_get (L : List ByteArray) (i : Nat) (h : i < L.length) : rdOf ByteArray.empty L (i : Int) = L[i] := by
  unfold rdOf
  rw [Int.toNat_natCast, List.getD_eq_getElem?_getD, List.getElem?_eq_getElem h]; rfl
theorem list_is (x : ByteArray) (l : List UInt8) : x.toList = l ↔ x.data.toList = l := by rw [ByteArray.toList_eq]
theorem levels_ok (L : List ByteArray) (hL : L.length ≤ 1000000) (hx : ∀ x ∈ L, x.size ≤ 60000) (d : Nat) : ∀ (i k : Nat), i ≤ L.length → L.length - i ≤ d → d + 60010 ≤ k →
    towncrierref16_IsFilter.l0 k L (i : Int) = some (levelsOk ((L.map fun x => x.data.toList).drop i)) := by
  induction d with
  | zero =>
    intro i k h1 h2 hk
    obtain ⟨k, rfl⟩ : ∃ m, k = m + 1 := ⟨k - 1, by omega⟩
    simp only [towncrierref16_IsFilter.l0]
    rw [if_neg (by omega), List.drop_eq_nil_of_le (by simp; omega)]
    rfl
  | succ d ih =>
    intro i k h1 h2 hk
    obtain ⟨k, rfl⟩ : ∃ m, k = m + 1 := ⟨k - 1, by omega⟩
    simp only [towncrierref16_IsFilter.l0]
    by_cases hlt : i < L.length
    · have hsz := hx L[i] (List.getElem_mem hlt)
      have hw : wrap64 ((i : Int) + 1) = ((i + 1 : Nat) : Int) := by rw [w64 (by omega)]; omega
      have hih := ih (i + 1) k (by omega) (by omega) (by omega)
      have hd : (L.map fun x => x.data.toList).drop i = L[i].data.toList :: (L.map fun x => x.data.toList).drop (i + 1) := by
        rw [List.drop_eq_getElem_cons (by simpa using hlt), List.getElem_map]
      have hok : levelsOk ((L.map fun x => x.data.toList).drop i) = (isLevel L[i].data.toList (decide (i + 1 = L.length)) && levelsOk ((L.map fun x => x.data.toList).drop (i + 1))) := by
        rw [hd]
        by_cases hl : i + 1 = L.length
        · have hz : (L.map fun x => x.data.toList).drop (i + 1) = [] := List.drop_eq_nil_of_le (by simp; omega)
          rw [hz]
          simp [levelsOk, hl]
        · have h2 : i + 1 < L.length := by omega
          have hz : (L.map fun x => x.data.toList).drop (i + 1) = L[i + 1].data.toList :: (L.map fun x => x.data.toList).drop (i + 1 + 1) := by
            rw [List.drop_eq_getElem_cons (by simpa using h2), List.getElem_map]
          rw [hz]
          simp [levelsOk, hl]
      rw [if_pos (by omega), if_pos (by omega), rd_get L i hlt, hw, hih, hok]
      generalize levelsOk ((L.map fun x => x.data.toList).drop (i + 1)) = rest
      have h43 := has_f L[i] (by omega) 43 k (by omega) 43 rfl
      have h35 := has_f L[i] (by omega) 35 k (by omega) 35 rfl
      rw [h43, h35]
      simp only [Option.bind_some]
      unfold isLevel
      have n43 : has 43 L[i].data.toList = true → L[i].data.toList ≠ [35] := by
        intro h e; rw [e] at h; revert h; decide
      cases hb : has 43 L[i].data.toList with
      | true =>
        rw [if_pos rfl]
        cases ha : has 35 L[i].data.toList with
        | true =>
          rw [if_pos rfl]
          have e2 : L[i].data.toList ≠ [43] := by intro e; rw [e] at ha; revert ha; decide
          rw [if_neg (fun h => e2 ((list_is _ _).1 h))]
          simp [n43 hb]
        | false =>
          by_cases e : L[i].data.toList = [43]
          · rw [if_pos ((list_is _ _).2 e), if_neg (by decide)]; simp [e]
          · rw [if_neg (fun h => e ((list_is _ _).1 h))]; simp [e]
      | false =>
        rw [if_neg (by decide)]
        cases ha : has 35 L[i].data.toList with
        | true =>
          rw [if_pos rfl]
          by_cases e : L[i].data.toList = [35]
          · rw [if_pos ((list_is _ _).2 e)]
            by_cases hl : i + 1 = L.length
            · rw [if_neg (by omega)]; simp [e, hl]
            · rw [if_pos (by omega)]; simp [e, hl]
          · rw [if_neg (fun h => e ((list_is _ _).1 h))]; simp [e]
        | false => rw [if_neg (by decide)]; simp
    · rw [if_neg (by omega), List.drop_eq_nil_of_le (by simp; omega)]
      rfl
theorem lv_le (s : ByteArray) : (lv s.data.toList).length ≤ s.size + 1 := by
  rw [lv_len]
  have h2 := List.count_le_length (a := (47 : UInt8)) (l := s.data.toList)
  rw [size_list] at h2
  omega
theorem filter_r (s : ByteArray) (hs : s.size ≤ 60000) (k : Nat) (hk : 200000 ≤ k) : towncrierref16_IsFilter.f k s = some (isFilter s.data.toList) := by
  obtain ⟨L, hL, hR⟩ := levels_f s (by omega) k (by omega)
  have hlen := lvr_len hR
  have hlv := lv_le s
  obtain ⟨k', rfl⟩ : ∃ m, k = m + 1 := ⟨k - 1, by omega⟩
  have hok := levels_ok L (by omega) (fun x hx => by have := hR.2 x hx; omega) L.length 0 k' (by omega) (by omega) (by omega)
  rw [List.drop_zero, hR.1, show ((0 : Nat) : Int) = 0 from rfl] at hok
  unfold towncrierref16_IsFilter.f isFilter may
  rw [hL]
  simp only [Option.bind_some]
  by_cases h0 : s.toList = ([] : List UInt8)
  · rw [if_pos h0, (isEmpty_list s).1 h0]
    simp only [towncrierref16_IsFilter.j0]; rfl
  · rw [if_neg h0, is_r s hs (k' + 1) (by omega)]
    simp only [Option.bind_some]
    have he : (s.data.toList.isEmpty) = false := by
      rw [Bool.eq_false_iff, ne_eq, List.isEmpty_iff]
      exact fun h => h0 ((isEmpty_list s).2 h)
    rw [he]
    cases valid s.data.toList with
    | false => rw [if_neg (by decide)]; simp only [towncrierref16_IsFilter.j0]; rfl
    | true =>
      rw [if_pos rfl, hlen]
      simp only [towncrierref16_IsFilter.j0]
      by_cases h32 : (lv s.data.toList).length ≤ 32
      · rw [if_neg (by rw [decide_eq_true_iff]; omega), hok]; simp [h32]
      · rw [if_pos (by rw [decide_eq_true_iff]; omega)]; simp [h32]
theorem takes_r (k : Nat) : ∀ (F N : List ByteArray), F.length + 1 ≤ k → towncrierref16_takes.f k F N = some (takes (F.map fun x => x.data.toList) (N.map fun x => x.data.toList)) := by
  induction k with
  | zero => intro F N h; omega
  | succ k ih =>
    intro F N hk
    simp only [towncrierref16_takes.f]
    cases F with
    | nil =>
      rw [if_pos (by simp)]
      cases N <;> simp [takes] <;> omega
    | cons x F =>
      rw [if_neg (by rw [List.length_cons]; omega), if_pos (by rw [List.length_cons]; omega), show rdOf ByteArray.empty (x :: F) 0 = x from rfl, List.map_cons, takes_cons]
      by_cases h35 : x.data.toList = [35]
      · rw [if_pos ((list_is _ _).2 h35), if_pos h35]
      rw [if_neg (fun h => h35 ((list_is _ _).1 h)), if_neg h35]
      cases N with
      | nil => rw [if_neg (by simp)]; rfl
      | cons y N =>
        rw [if_pos (by rw [List.length_cons]; omega), show rdOf ByteArray.empty (y :: N) 0 = y from rfl, if_pos (c := 1 ≤ ((x :: F).length : Int)) (by rw [List.length_cons]; omega), if_pos (c := 1 ≤ ((y :: N).length : Int)) (by rw [List.length_cons]; omega), if_pos (c := 0 < ((y :: N).length : Int)) (by rw [List.length_cons]; omega), List.drop_succ_cons, List.drop_zero, List.drop_succ_cons, List.drop_zero, ih F N (by simp at hk; omega)]
        simp only [Option.bind_some, List.map_cons]
        by_cases h43 : x.data.toList = [43]
        · rw [if_pos ((list_is _ _).2 h43)]; simp [h43]
        · rw [if_neg (fun h => h43 ((list_is _ _).1 h))]
          by_cases hxy : x.data.toList = y.data.toList
          · rw [if_pos (by rw [ByteArray.toList_eq, ByteArray.toList_eq]; exact hxy)]; simp [hxy]
          · rw [if_neg (by rw [ByteArray.toList_eq, ByteArray.toList_eq]; exact hxy)]
            have : decide (x.data.toList = y.data.toList) = false := decide_eq_false hxy
            rw [this]; simp [h43]
theorem match_r (f n : ByteArray) (hf : f.size ≤ 60000) (hn : n.size ≤ 60000) (k : Nat) (hk : 300000 ≤ k) : towncrierref16_Match.f k f n = some (isMatch f.data.toList n.data.toList) := by
  obtain ⟨k1, rfl⟩ : ∃ m, k = m + 2 := ⟨k - 2, by omega⟩
  obtain ⟨F, hF, hFR⟩ := levels_f f (by omega) k1 (by omega)
  obtain ⟨N, hN, hNR⟩ := levels_f n (by omega) k1 (by omega)
  have hft := takes_r k1 F N (by have := lvr_len hFR; have := lv_le f; omega)
  rw [hFR.1, hNR.1] at hft
  have j1 : ∀ b, towncrierref16_Match.j1 (k1 + 1) f n b = some (!b && takes (lv f.data.toList) (lv n.data.toList)) := by
    intro b
    simp only [towncrierref16_Match.j1]
    cases b with
    | true => rw [if_pos rfl]; rfl
    | false =>
      rw [if_neg (by decide), hF]
      simp only [Option.bind_some]
      rw [hN]
      simp only [Option.bind_some]
      rw [hft]; rfl
  unfold towncrierref16_Match.f isMatch
  rw [filter_r f hf _ (by omega)]
  simp only [Option.bind_some]
  cases hfl : isFilter f.data.toList with
  | false => rw [if_neg (by decide)]; simp only [towncrierref16_Match.j0]; rfl
  | true =>
    rw [if_pos rfl, name_r n hn _ (by omega)]
    simp only [Option.bind_some]
    cases hnm : isName n.data.toList with
    | false => simp only [towncrierref16_Match.j0]; rfl
    | true =>
      have hfe : f.data.toList ≠ [] := by intro e; rw [e] at hfl; simp [isFilter, may] at hfl
      have hne : n.data.toList ≠ [] := by intro e; rw [e] at hnm; simp [isName, may] at hnm
      obtain ⟨a, fr, hfc⟩ := List.exists_cons_of_ne_nil hfe
      obtain ⟨b, nr, hnc⟩ := List.exists_cons_of_ne_nil hne
      have bf := bt_get f 0 (by rw [hfc]; simp)
      have bn := bt_get n 0 (by rw [hnc]; simp)
      simp only [hfc, hnc, List.getElem_cons_zero] at bf bn
      have sf : 0 < f.size := by have := size_list f; rw [hfc, List.length_cons] at this; omega
      have sn : 0 < n.size := by have := size_list n; rw [hnc, List.length_cons] at this; omega
      simp only [towncrierref16_Match.j0]
      rw [if_neg (by decide), if_pos (by omega), show bt n 0 = _ from bn, show bt f 0 = _ from bf, j1, j1, j1]
      rw [hfc, hnc]
      have key : ∀ (c : UInt8) (m : Int) (d : UInt8), (d.toNat : Int) = m → (((c.toNat : Int) = m) ↔ c = d) := by
        intro c m d hd
        constructor
        · intro h; exact UInt8.toNat_inj.1 (by omega)
        · intro h; rw [h]; exact hd
      by_cases hb : b = 36
      · rw [if_pos ((key b 36 36 rfl).2 hb), if_pos (by omega)]
        by_cases ha : a = 43
        · rw [if_pos ((key a 43 43 rfl).2 ha)]; simp [hidden, ha, hb]
        · rw [if_neg (fun h => ha ((key a 43 43 rfl).1 h))]
          have : (((a.toNat : Int)) == 35) = decide (a = 35) := by
            rw [Bool.eq_iff_iff, beq_iff_eq, decide_eq_true_iff]; exact key a 35 35 rfl
          rw [this]
          simp [hidden, ha, hb]
      · rw [if_neg (fun h => hb ((key b 36 36 rfl).1 h))]
        simp [hidden, hb]
end Go.Proofs.YtnognmnjlnokeaaDoor.TopW
