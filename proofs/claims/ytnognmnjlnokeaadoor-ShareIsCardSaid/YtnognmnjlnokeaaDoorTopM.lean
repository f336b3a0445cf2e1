/- What takes what: the program's Match. -/
import Derived.Test.YtnognmnjlnokeaaDoorTopL
set_option linter.unusedVariables false
set_option linter.unusedSimpArgs false
namespace Go.Proofs.YtnognmnjlnokeaaDoor.TopW
open Go.RowKit Go.Proofs.YtnognmnjlnokeaaDoor.Tc Go.Proofs.YtnognmnjlnokeaaDoor.TopP

theorem extract_one (s : ByteArray) (c : UInt8) (r : List UInt8) (h : s.data.toList = c :: r) : (s.extract 0 1).toList = [c] := by
  rw [ByteArray.toList_eq, ByteArray.data_extract, Array.toList_extract, h]; rfl
set_option maxRecDepth 100000 in
set_option maxHeartbeats 1000000 in
theorem hidden_any (f n : ByteArray) (w : World) (hf : f.data.toList ≠ []) (hn : n.data.toList ≠ []) : Calls Tryd.prog 67 #[.string f, .string n] w fun e w' => e = .returned (.bool (hidden f.data.toList n.data.toList)) ∧ w = w' := by
  cases hfl : f.data.toList with
  | nil => exact absurd hfl hf
  | cons a fr =>
  cases hnl : n.data.toList with
  | nil => exact absurd hnl hn
  | cons b nr =>
  have hfs : 1 ≤ f.size := by have := congrArg List.length hfl; rw [show f.data.toList.length = f.size by simp] at this; rw [this]; simp
  have hns : 0 < n.size := by have := congrArg List.length hnl; rw [show n.data.toList.length = n.size by simp] at this; rw [this]; simp
  have hfs' : (1 : Int) ≤ f.size := by omega
  have hn0 : n[0]'hns = b := by
    have : n.data.toList[0]'(by simpa using hns) = b := by simp [hnl]
    simp at this
    exact this
  have he := extract_one f a fr hfl
  have HH := Lib.hid (show hidden (a :: fr) (b :: nr) = (decide (b = 36) && (decide (a = 43) || decide (a = 35))) by simp [hidden])
  clear hf hn hfl hnl
  by_cases hb : b = 36
  · subst hb
    by_cases ha : a = 43
    · subst ha
      go_enter Tryd.func67, Tryd.ntmps67
      go_wp2
      go_ret
      rw [HH.out]
      exact ⟨rfl, rfl⟩
    · have e1 : ([a] == ([43] : List UInt8)) = false := by simp [ha]
      by_cases ha2 : a = 35
      · subst ha2
        go_enter Tryd.func67, Tryd.ntmps67
        go_wp2
        go_ret
        rw [HH.out]
        exact ⟨rfl, rfl⟩
      · have e2 : ([a] == ([35] : List UInt8)) = false := by simp [ha2]
        have HR := Lib.hid (show hidden (a :: fr) (36 :: nr) = false by rw [HH.out]; simp [ha, ha2])
        clear HH ha ha2
        rw [HR.out]
        go_enter Tryd.func67, Tryd.ntmps67
        go_wp2
        go_ret
        exact ⟨rfl, rfl⟩
  · have e0 : ((b.toNat : Int) == 36) = false := by
      rw [beq_eq_false_iff_ne]
      intro h
      exact hb (UInt8.toNat_inj.1 (by rw [show (36 : UInt8).toNat = 36 from rfl]; omega))
    have HR := Lib.hid (show hidden (a :: fr) (b :: nr) = false by rw [HH.out]; simp [hb])
    clear HH hb
    rw [HR.out]
    go_enter Tryd.func67, Tryd.ntmps67
    go_wp2
    go_ret
    exact ⟨rfl, rfl⟩
theorem takes_cons (x : List UInt8) (f : List (List UInt8)) (n : List (List UInt8)) : takes (x :: f) n = if x = [35] then true else match n with
    | [] => false
    | y :: n => (decide (x = [43]) || decide (x = y)) && takes f n := by cases n <;> rfl
set_option maxRecDepth 100000 in
set_option maxHeartbeats 2000000 in
theorem match_any (f n : ByteArray) (w : World) (hf : f.size ≤ 60000) (hn : n.size ≤ 60000) (hE : Env w) : Calls Tryd.prog 24 #[.string f, .string n] w fun e w' => e = .returned (.bool (isMatch f.data.toList n.data.toList)) ∧ Below w.heap.size w w' := by
  have HF := Lib.hid (filter_any f w hf hE)
  have HN := Lib.hid (fun w2 (hb : Below w.heap.size w w2) => name_any n w2 hn (hE.below hb))
  have HM := Lib.hid (show isMatch f.data.toList n.data.toList = (isFilter f.data.toList && isName n.data.toList && !hidden f.data.toList n.data.toList && takes (lv f.data.toList) (lv n.data.toList)) from rfl)
  have HE := Lib.hid hE
  have hfe : isFilter f.data.toList = true → f.data.toList ≠ [] := by
    intro h e; rw [e] at h; simp [isFilter, TopP.may] at h
  have hne : isName n.data.toList = true → n.data.toList ≠ [] := by
    intro h e; rw [e] at h; simp [isName, TopP.may] at h
  have HHI := Lib.hid (fun (h1 : isFilter f.data.toList = true) (h2 : isName n.data.toList = true) (w : World) => hidden_any f n w (hfe h1) (hne h2))
  clear hE hfe hne
  generalize isMatch f.data.toList n.data.toList = rr at *
  generalize isFilter f.data.toList = a at *
  generalize isName n.data.toList = b at *
  generalize hidden f.data.toList n.data.toList = h at *
  cases a with
  | false =>
    go_enter Tryd.func24, Tryd.ntmps24
    go_wp2_with fail
    refine HF.out.mono ?_
    rintro e w2 ⟨rfl, hb⟩
    have HB := Lib.hid hb
    clear hb
    go_wp2_with fail
    go_ret
    rw [HM.out]
    exact ⟨rfl, HB.out⟩
  | true =>
    go_enter Tryd.func24, Tryd.ntmps24
    go_wp2_with fail
    refine HF.out.mono ?_
    rintro e w2 ⟨rfl, hb⟩
    have HNA := Lib.hid (HN.out w2 hb)
    have HB := Lib.hid hb
    clear hb
    go_wp2_with fail
    refine HNA.out.mono ?_
    rintro e w3 ⟨rfl, hb⟩
    have HB3 := Lib.hid (HB.out.trans (hb.mono HB.out.size))
    clear hb HNA HB
    cases b with
    | false =>
      go_wp2_with fail
      go_ret
      rw [HM.out]
      exact ⟨rfl, HB3.out⟩
    | true =>
      have HHA := Lib.hid (HHI.out (by simp) (by simp) w3)
      go_wp2_with fail
      refine HHA.out.mono ?_
      rintro e w4 ⟨rfl, rfl⟩
      clear HHA HHI
      cases h with
      | true =>
        go_wp2_with fail
        go_ret
        rw [HM.out]
        exact ⟨rfl, HB3.out⟩
      | false =>
        have HLN := Lib.hid (levels_any n w3 hn (HE.out.below HB3.out))
        go_wp2_with fail
        refine HLN.out.mono ?_
        rintro e w4 ⟨N, rfl, hw4, hN, -⟩
        have hb4 : Below w.heap.size w w4 := by rw [hw4]; exact HB3.out.trans (((Below.refl w3.heap.size w3).alloc (Nat.le_refl _) (Lay N)).mono HB3.out.size)
        have HLF := Lib.hid (levels_any f w4 hf (HE.out.below hb4))
        have HCN := Lib.hid (show ∀ (k : Nat) (x : ByteArray), N[k]? = some x → w4.cell? ⟨w3.heap.size, k, none⟩ = some (.string x) by
          intro k x hx; rw [hw4]; exact lay_cell w3 N hx)
        have HB4 := Lib.hid hb4
        have HNN := Lib.hid hN
        clear hw4 hb4 hN HLN
        go_wp2_with fail
        refine HLF.out.mono ?_
        rintro e w5 ⟨F, rfl, hw5, hF, -⟩
        have hb5 : Below w4.heap.size w4 w5 := by rw [hw5]; exact (Below.refl w4.heap.size w4).alloc (Nat.le_refl _) (Lay F)
        have HB5 := Lib.hid (HB4.out.trans (hb5.mono HB4.out.size))
        have HCN5 := Lib.hid (show ∀ (k : Nat) (x : ByteArray), N[k]? = some x → w5.cell? ⟨w3.heap.size, k, none⟩ = some (.string x) by
          intro k x hx
          have := HCN.out k x hx
          exact (World.cell?_of_block (hb5.block _ (World.block_lt_of_cell? w4 _ this))).trans this)
        have HCF := Lib.hid (show ∀ (k : Nat) (x : ByteArray), F[k]? = some x → w5.cell? ⟨w4.heap.size, k, none⟩ = some (.string x) by
          intro k x hx; rw [hw5]; exact lay_cell w4 F hx)
        have HR := Lib.hid (show rr = takes (F.map fun x => x.data.toList) (N.map fun x => x.data.toList) by rw [HM.out, hF, HNN.out]; rfl)
        have len : ∀ (L : List ByteArray) (s : ByteArray), s.size ≤ 60000 → L.map (fun x => x.data.toList) = lv s.data.toList → L.length ≤ 70000 := by
          intro L s hs hL
          have := congrArg List.length hL
          rw [List.length_map, lv_len] at this
          have h2 := List.count_le_length (a := (47 : UInt8)) (l := s.data.toList)
          rw [show s.data.toList.length = s.size by simp] at h2
          omega
        have hF1 := len F f hf hF
        have hN1 := len N n hn HNN.out
        clear hw5 hb5 hF HNN HM HF HN HCN HLF HE HB3 HB4 len
        go_wp2_with fail
        go_loop [5, 7, 26] (fun left _ i => ∃ (k : Nat) (A : Option Addr), k ≤ F.length ∧ k ≤ N.length ∧ i = .int .i64 k ∧ left = .slice A (N.length - k) (N.length - k) ∧ (k < N.length → A = some ⟨w3.heap.size, k, none⟩) ∧ rr = takes ((F.map fun x => x.data.toList).drop k) ((N.map fun x => x.data.toList).drop k)) (fun _ _ i => F.length - (intOf i).toNat)
        case atStart => exact ⟨0, _, by omega, by omega, rfl, rfl, fun _ => rfl, HR.out⟩
        case round =>
          obtain ⟨k, A, hk, hkn, rfl, rfl, hA, hr⟩ := hrel
          have hr0 : rr = takes ((F.map fun x => x.data.toList).drop k) ((N.map fun x => x.data.toList).drop k) := hr
          clear hr
          by_cases hlt : k < F.length
          · have hc := HCF.out k _ (List.getElem?_eq_getElem hlt)
            have hFd : (F.map fun x => x.data.toList).drop k = F[k].data.toList :: (F.map fun x => x.data.toList).drop (k + 1) := by
              rw [List.drop_eq_getElem_cons (by simpa using hlt), List.getElem_map]
            rw [hFd, takes_cons] at hr0
            have e35 := str_is F[k] [35]
            have e43 := str_is F[k] [43]
            by_cases h35 : F[k].data.toList = [35]
            · rw [if_pos h35] at hr0
              have t35 : (F[k].toList == ([35] : List UInt8)) = true := by rw [e35]; simp [h35]
              have HR0 := Lib.hid hr0
              clear hr0 e35 e43 h35 hFd hA
              generalize F[k] = x at *
              go_wp2_with fail
              go_ret
              rw [HR0.out]
              exact ⟨rfl, HB5.out⟩
            · rw [if_neg h35] at hr0
              have t35 : (F[k].toList == ([35] : List UInt8)) = false := by rw [e35]; simp [h35]
              by_cases hkl : k < N.length
              · have hA' := hA hkl
                subst hA'
                have hcn := HCN5.out k _ (List.getElem?_eq_getElem hkl)
                have hNd : (N.map fun x => x.data.toList).drop k = N[k].data.toList :: (N.map fun x => x.data.toList).drop (k + 1) := by
                  rw [List.drop_eq_getElem_cons (by simpa using hkl), List.getElem_map]
                rw [hNd] at hr0
                simp only at hr0
                have eN : (F[k].toList == N[k].toList) = decide (F[k].data.toList = N[k].data.toList) := by
                  rw [ByteArray.toList_eq, ByteArray.toList_eq, Bool.eq_iff_iff]; simp
                generalize hm : N.length - k = m at *
                have hm0 : 0 < m := by omega
                have hm0' : ((m : Int) == 0) = false := by rw [beq_eq_false_iff_ne]; omega
                have hmk : N.length - (k + 1) = m - 1 := by omega
                have HMK := Lib.hid hmk
                have hkm : k + 1 < N.length ↔ 1 < m := by omega
                have HKM := Lib.hid hkm
                have HXY := Lib.hid hr0
                clear hm hr0 e35 h35 hFd hNd hA hmk hkm
                by_cases go : F[k].data.toList = [43] ∨ F[k].data.toList = N[k].data.toList
                · have HR0 := Lib.hid (show rr = takes ((F.map fun x => x.data.toList).drop (k + 1)) ((N.map fun x => x.data.toList).drop (k + 1)) by
                    rw [HXY.out]
                    rcases go with h | h
                    · simp [h]
                    · simp [h])
                  by_cases h43 : F[k].data.toList = [43]
                  · have t43 : (F[k].toList == ([43] : List UInt8)) = true := by rw [e43]; simp [h43]
                    clear go e43 h43 eN HXY
                    generalize F[k] = x at *
                    generalize N[k] = y at *
                    by_cases hm1 : m = 1
                    · subst hm1
                      go_wp2_with fail
                      go_round
                      case rel => exact ⟨k + 1, _, by omega, by omega, by go_num, by rw [HMK.out], fun h => absurd (HKM.out.1 h) (by omega), HR0.out⟩
                      case measure => simp [intOf]; omega
                    · have hm2 : 1 < m := by omega
                      have hm3 : (m == 1) = false := by simpa using hm1
                      go_wp2_with fail
                      go_round
                      case rel => exact ⟨k + 1, _, by omega, by omega, by go_num, by rw [HMK.out], fun h => rfl, HR0.out⟩
                      case measure => simp [intOf]; omega
                  · have t43 : (F[k].toList == ([43] : List UInt8)) = false := by rw [e43]; simp [h43]
                    have hxy : F[k].data.toList = N[k].data.toList := go.resolve_left h43
                    have tN : (F[k].toList == N[k].toList) = true := by rw [eN]; simp [hxy]
                    clear go e43 h43 eN HXY hxy
                    generalize F[k] = x at *
                    generalize N[k] = y at *
                    by_cases hm1 : m = 1
                    · subst hm1
                      go_wp2_with fail
                      go_round
                      case rel => exact ⟨k + 1, _, by omega, by omega, by go_num, by rw [HMK.out], fun h => absurd (HKM.out.1 h) (by omega), HR0.out⟩
                      case measure => simp [intOf]; omega
                    · have hm2 : 1 < m := by omega
                      have hm3 : (m == 1) = false := by simpa using hm1
                      go_wp2_with fail
                      go_round
                      case rel => exact ⟨k + 1, _, by omega, by omega, by go_num, by rw [HMK.out], fun h => rfl, HR0.out⟩
                      case measure => simp [intOf]; omega
                · have HR0 := Lib.hid (show rr = false by
                    rw [HXY.out]
                    simp only [not_or] at go
                    simp [go.1, go.2])
                  have t43 : (F[k].toList == ([43] : List UInt8)) = false := by rw [e43]; exact decide_eq_false fun h => go (.inl h)
                  have tN : (F[k].toList == N[k].toList) = false := by rw [eN]; exact decide_eq_false fun h => go (.inr h)
                  clear go e43 eN HXY
                  generalize F[k] = x at *
                  generalize N[k] = y at *
                  go_wp2_with fail
                  go_ret
                  rw [HR0.out]
                  exact ⟨rfl, HB5.out⟩
              · have HR0 := Lib.hid (show rr = false by
                  rw [hr0, show (N.map fun x => x.data.toList).drop k = [] from List.drop_eq_nil_of_le (by simp; omega)])
                generalize hm : N.length - k = m at *
                obtain rfl : m = 0 := by omega
                clear hr0 e35 e43 h35 hFd hA hm
                generalize F[k] = x at *
                go_wp2_with fail
                go_ret
                rw [HR0.out]
                exact ⟨rfl, HB5.out⟩
          · obtain rfl : k = F.length := by omega
            have HR0 := Lib.hid (show rr = decide (N.length - F.length = 0) by
              rw [hr0, show (F.map fun x => x.data.toList).drop F.length = [] from List.drop_eq_nil_of_le (by simp)]
              show List.isEmpty _ = _
              rw [Bool.eq_iff_iff, List.isEmpty_iff_length_eq_zero]
              simp)
            generalize N.length - F.length = m at *
            clear hr0 hA
            go_wp2_with fail
            go_ret
            rw [HR0.out]
            exact ⟨ret_bool (by rw [Bool.eq_iff_iff]; simp), HB5.out⟩
end Go.Proofs.YtnognmnjlnokeaaDoor.TopW
