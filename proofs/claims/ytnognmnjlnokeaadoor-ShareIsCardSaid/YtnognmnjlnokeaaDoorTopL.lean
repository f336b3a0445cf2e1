/- Levels: the library's cut is the plain one; what makes a level, a filter. -/
import Derived.Test.YtnognmnjlnokeaaDoorTopV
set_option linter.unusedVariables false
set_option linter.unusedSimpArgs false
namespace Go.Proofs.YtnognmnjlnokeaaDoor.TopW
open Go.RowKit Go.Proofs.YtnognmnjlnokeaaDoor.Tc Go.Proofs.YtnognmnjlnokeaaDoor.TopP

theorem lv_no {l : List UInt8} (h : 47 ∉ l) : lv l = [l] := by
  induction l with
  | nil => rfl
  | cons c r ih =>
    have h1 : c ≠ 47 := fun e => h (by rw [e]; simp)
    have h2 : 47 ∉ r := fun e => h (by simp [e])
    unfold lv
    rw [if_neg h1, ih h2]
theorem lv_cut {a : List UInt8} (b : List UInt8) (h : 47 ∉ a) : lv (a ++ 47 :: b) = a :: lv b := by
  induction a with
  | nil => simp [lv]
  | cons c r ih =>
    have h1 : c ≠ 47 := fun e => h (by rw [e]; simp)
    have h2 : 47 ∉ r := fun e => h (by simp [e])
    rw [List.cons_append]
    conv => lhs; unfold lv
    rw [if_neg h1, ih h2]
def slash : ByteArray := ⟨#[47]⟩
theorem split_lv (n : Nat) : ∀ s : ByteArray, s.size ≤ n → (Lib.splitB slash 0 (Lib.countB s slash) s).map (fun x => x.data.toList) = lv s.data.toList ∧ Lib.countB s slash + 1 = (lv s.data.toList).length ∧ ∀ x ∈ Lib.splitB slash 0 (Lib.countB s slash) s, x.size ≤ s.size := by
  induction n with
  | zero =>
    intro s hs
    obtain rfl : s = ByteArray.empty := by apply ByteArray.ext; apply Array.eq_empty_of_size_eq_zero; have : s.data.size = s.size := rfl; omega
    exact ⟨by decide +kernel, by decide +kernel, by decide +kernel⟩
  | succ n ih =>
    intro s hs
    have hix : Lib.indexB s slash = Lib.indexByte s.data.toList 47 := Lib.index_one s.data.toList 47
    by_cases h : Lib.indexByte s.data.toList 47 = -1
    · have hno : 47 ∉ s.data.toList := by
        intro hm
        obtain ⟨k, hk, e⟩ := List.getElem_of_mem hm
        exact Lib.indexByte_none h k (by rw [List.getElem?_eq_getElem hk, e])
      rw [Lib.countB_miss s slash (by rw [hix, h]), Lib.splitB_zero, lv_no hno]
      exact ⟨rfl, rfl, by simp⟩
    · obtain ⟨i, hi⟩ : ∃ i : Nat, Lib.indexByte s.data.toList 47 = i := ⟨(Lib.indexByte s.data.toList 47).toNat, by have := Lib.indexByte_ge s.data.toList 47; omega⟩
      obtain ⟨h1, h2⟩ := Lib.indexByte_some hi
      obtain ⟨hil, hie⟩ := List.getElem?_eq_some_iff.1 h1
      have hsz : s.data.toList.length = s.size := by simp
      have hcut : s.data.toList = s.data.toList.take i ++ 47 :: s.data.toList.drop (i + 1) := by
        rw [← hie, ← List.drop_eq_getElem_cons hil, List.take_append_drop]
      have hno : 47 ∉ s.data.toList.take i := by
        intro hm
        obtain ⟨k, hk, e⟩ := List.getElem_of_mem hm
        rw [List.length_take] at hk
        refine h2 k (by omega) ?_
        rw [List.getElem_take] at e
        rw [List.getElem?_eq_getElem (by omega), e]
      have hds : (s.extract (i + slash.size) s.size).data.toList = s.data.toList.drop (i + 1) := by
        rw [ByteArray.data_extract, Array.toList_extract, List.extract_eq_take_drop]
        exact List.take_of_length_le (by first | (simp; done) | (simp; omega))
      have hts : (s.extract 0 (i + 0)).data.toList = s.data.toList.take i := by
        rw [ByteArray.data_extract, Array.toList_extract, List.extract_eq_take_drop]
        simp
      have hsl : slash.size = 1 := rfl
      have hes : (s.extract (i + slash.size) s.size).size = s.size - (i + 1) := by rw [ByteArray.size_extract, hsl]; omega
      obtain ⟨i1, i2, i3⟩ := ih (s.extract (i + slash.size) s.size) (by rw [hes]; omega)
      have hc := Lib.countB_hit s slash i (by decide) (by rw [hix, hi])
      have hlv : lv s.data.toList = s.data.toList.take i :: lv (s.data.toList.drop (i + 1)) := by
        conv => lhs; rw [hcut]
        exact lv_cut _ hno
      rw [hc, Nat.add_comm 1, Lib.splitB_hit slash 0 _ s i (by rw [hix, hi]), hlv]
      rw [hds] at i1 i2
      refine ⟨by rw [List.map_cons, i1, hts], by rw [List.length_cons, ← i2], ?_⟩
      intro x hx
      rcases List.mem_cons.1 hx with rfl | hx
      · rw [ByteArray.size_extract]; omega
      · have := i3 x hx
        rw [hes] at this
        omega
/-- Texts that a call has laid. -/
def Lay (L : List ByteArray) : Obj := .cells (L.map Value.string).toArray 9
def LvPost (s : ByteArray) (w : World) (e : Ending) (w' : World) : Prop := ∃ L : List ByteArray, e = .returned (.slice (some ⟨w.heap.size, 0, none⟩) L.length L.length) ∧ w' = w.alloc (Lay L) ∧ L.map (fun x => x.data.toList) = lv s.data.toList ∧ ∀ x ∈ L, x.size ≤ s.size
theorem lay_cell (w : World) (L : List ByteArray) {k : Nat} {x : ByteArray} (hk : L[k]? = some x) : (w.alloc (Lay L)).cell? ⟨w.heap.size, k, none⟩ = some (.string x) := by
  refine cell_of (heap_alloc_new w (Lay L)) ?_
  simp [hk]
theorem levels_any (s : ByteArray) (w : World) (hs : s.size ≤ 60000) (hE : Env w) : Calls Tryd.prog 22 #[.string s] w (LvPost s w) := by
  obtain ⟨m, hm⟩ := hE.max
  have HS := Lib.hid (Tryd.strings_Split s slash m w (by omega) hm (by decide))
  obtain ⟨h1, h2, h3⟩ := split_lv s.size s (Nat.le_refl _)
  have hlen : (Lib.splitB slash 0 (Lib.countB s slash) s).length = Lib.countB s slash + 1 := by
    have := congrArg List.length h1
    rw [List.length_map] at this
    rw [this, h2]
  rw [← hlen] at HS
  generalize Lib.splitB slash 0 (Lib.countB s slash) s = L at *
  have HE := Lib.hid (show LvPost s w (.returned (.slice (some ⟨w.heap.size, 0, none⟩) L.length L.length)) (w.alloc (Lay L)) from ⟨L, rfl, rfl, h1, h3⟩)
  unfold slash Lay at *
  clear h1 h2 h3 hlen hm hE
  go_enter Tryd.func22, Tryd.ntmps22
  go_wp2_with fail
  refine HS.out.mono ?_
  rintro e w' ⟨rfl, rfl⟩
  go_wp2_with fail
  go_ret
  exact HE.out
theorem has_index (l : List UInt8) (c : UInt8) : decide (0 ≤ Lib.indexByte l c) = has c l := by
  rw [Bool.eq_iff_iff]
  unfold has
  rw [decide_eq_true_iff, decide_eq_true_iff]
  have hg := Lib.indexByte_ge l c
  constructor
  · intro h
    obtain ⟨i, hi⟩ := Int.eq_ofNat_of_zero_le h
    exact List.mem_of_getElem? (Lib.indexByte_some hi).1
  · intro h
    by_cases h1 : Lib.indexByte l c = -1
    · obtain ⟨k, hk, e⟩ := List.getElem_of_mem h
      exact absurd (by rw [List.getElem?_eq_getElem hk, e]) (Lib.indexByte_none h1 k)
    · omega
theorem str_is (x : ByteArray) (l : List UInt8) : (x.toList == l) = decide (x.data.toList = l) := by
  rw [ByteArray.toList_eq, Bool.eq_iff_iff]; simp
set_option maxRecDepth 100000 in
set_option maxHeartbeats 1000000 in
theorem level_any (x : ByteArray) (last : Bool) (w : World) : Calls Tryd.prog 65 #[.string x, .bool last] w fun e w' => e = .returned (.bool (isLevel x.data.toList last)) ∧ w = w' := by
  have h35 := Tryd.strings_Contains_one x 35 w
  have h43 := Tryd.strings_Contains_one x 43 w
  rw [has_index] at h35 h43
  have H35 := Lib.hid h35
  have H43 := Lib.hid h43
  have HL := Lib.hid (show isLevel x.data.toList last = if has 35 x.data.toList = true then decide (x.data.toList = [35]) && last else if has 43 x.data.toList = true then decide (x.data.toList = [43]) else true from rfl)
  have e35 := str_is x [35]
  have e43 := str_is x [43]
  clear h35 h43
  generalize has 35 x.data.toList = a at *
  generalize has 43 x.data.toList = b at *
  generalize decide (x.data.toList = [35]) = p at *
  generalize decide (x.data.toList = [43]) = q at *
  generalize isLevel x.data.toList last = r at *
  cases a with
  | true =>
    have HR := Lib.hid (show r = (p && last) by rw [HL.out]; rfl)
    go_enter Tryd.func65, Tryd.ntmps65
    go_wp2_with fail
    refine H35.out.mono ?_
    rintro e w' ⟨rfl, rfl⟩
    cases p <;> cases last
    all_goals
      go_wp2_with fail
      go_ret
      exact ⟨by rw [HR.out]; rfl, rfl⟩
  | false =>
    cases b with
    | true =>
      have HR := Lib.hid (show r = q by rw [HL.out]; rfl)
      go_enter Tryd.func65, Tryd.ntmps65
      go_wp2_with fail
      refine H35.out.mono ?_
      rintro e w' ⟨rfl, rfl⟩
      go_wp2_with fail
      refine H43.out.mono ?_
      rintro e w' ⟨rfl, rfl⟩
      go_wp2_with fail
      go_ret
      exact ⟨by rw [HR.out]; rfl, rfl⟩
    | false =>
      have HR := Lib.hid (show r = true by rw [HL.out]; rfl)
      go_enter Tryd.func65, Tryd.ntmps65
      go_wp2_with fail
      refine H35.out.mono ?_
      rintro e w' ⟨rfl, rfl⟩
      go_wp2_with fail
      refine H43.out.mono ?_
      rintro e w' ⟨rfl, rfl⟩
      go_wp2_with fail
      go_ret
      exact ⟨by rw [HR.out]; rfl, rfl⟩
theorem levelsOk_iff (l : List (List UInt8)) : levelsOk l = true ↔ ∀ (j : Nat) (h : j < l.length), isLevel l[j] (decide (j + 1 = l.length)) = true := by
  induction l with
  | nil => simp [levelsOk]
  | cons x t ih =>
    cases t with
    | nil =>
      simp only [levelsOk]
      constructor
      · intro h j hj
        obtain rfl : j = 0 := by simp at hj; omega
        exact h
      · intro h; exact h 0 (by simp)
    | cons y t =>
      simp only [levelsOk, Bool.and_eq_true]
      rw [ih]
      constructor
      · rintro ⟨h1, h2⟩ j hj
        cases j with
        | zero => simpa using h1
        | succ j =>
          have := h2 j (by simpa using hj)
          simpa using this
      · intro h
        have h0 := h 0 (by simp)
        rw [show decide (0 + 1 = (x :: y :: t).length) = false by simp] at h0
        refine ⟨h0, fun j hj => ?_⟩
        have := h (j + 1) (by simpa using hj)
        simpa using this
set_option maxRecDepth 100000 in
set_option maxHeartbeats 1000000 in
theorem filter_any (s : ByteArray) (w : World) (hs : s.size ≤ 60000) (hE : Env w) : Calls Tryd.prog 19 #[.string s] w fun e w' => e = .returned (.bool (isFilter s.data.toList)) ∧ Below w.heap.size w w' := by
  have HM := Lib.hid (may_any s w hs hE)
  have HN := Lib.hid (show isFilter s.data.toList = (TopP.may s.data.toList && levelsOk (lv s.data.toList)) from rfl)
  have HE := Lib.hid hE
  clear hE
  generalize isFilter s.data.toList = rr at *
  generalize TopP.may s.data.toList = mm at *
  cases mm with
  | false =>
    go_enter Tryd.func19, Tryd.ntmps19
    go_wp2_with fail
    refine HM.out.mono ?_
    rintro e w2 ⟨rfl, hb⟩
    have HB := Lib.hid hb
    clear hb
    go_wp2_with fail
    go_ret
    rw [HN.out]
    exact ⟨rfl, HB.out⟩
  | true =>
    go_enter Tryd.func19, Tryd.ntmps19
    go_wp2_with fail
    refine HM.out.mono ?_
    rintro e w2 ⟨rfl, hb⟩
    have HLV := Lib.hid (levels_any s w2 hs (HE.out.below hb))
    have HB := Lib.hid hb
    clear hb
    go_wp2_with fail
    refine HLV.out.mono ?_
    rintro e w3 ⟨L, rfl, hw3, hL, -⟩
    have HW3 := Lib.hid hw3
    have HN2 := Lib.hid (show rr = levelsOk (L.map fun x => x.data.toList) by rw [HN.out, hL]; rfl)
    have HB3 := Lib.hid (show Below w.heap.size w w3 by rw [hw3]; exact HB.out.trans (((Below.refl w2.heap.size w2).alloc (Nat.le_refl _) (Lay L)).mono HB.out.size))
    have hL1 : L.length ≤ 70000 := by
      have := congrArg List.length hL
      rw [List.length_map, lv_len] at this
      have h2 := List.count_le_length (a := (47 : UInt8)) (l := s.data.toList)
      rw [show s.data.toList.length = s.size by simp] at h2
      omega
    clear hw3 hL HLV HM
    go_wp2_with fail
    go_loop [4, 5, 13] (fun _ _ i => ∃ k : Nat, k ≤ L.length ∧ i = .int .i64 k ∧ ∀ (j : Nat) (h : j < L.length), j < k → isLevel L[j].data.toList (decide (j + 1 = L.length)) = true) (fun _ _ i => L.length - (intOf i).toNat)
    case atStart => exact ⟨0, by omega, rfl, fun j h hj => by omega⟩
    case round =>
      obtain ⟨k, hk, rfl, hj⟩ := hrel
      have HJ := Lib.hid hj
      clear hj
      by_cases hlt : k < L.length
      · have hcell := lay_cell w2 L (List.getElem?_eq_getElem hlt)
        rw [← HW3.out] at hcell
        have HLV := Lib.hid (fun b w => level_any L[k] b w)
        have HLEV := Lib.hid (show ∀ b, b = decide (k + 1 = L.length) → isLevel L[k].data.toList b = isLevel L[k].data.toList (decide (k + 1 = L.length)) from fun b h => by rw [h])
        have HEQ := Lib.hid (show ((k : Int) == (L.length : Int) - 1) = decide (k + 1 = L.length) by rw [Bool.eq_iff_iff]; simp; omega)
        generalize hgl : L[k] = x at *
        cases hv : isLevel x.data.toList (decide (k + 1 = L.length)) with
        | true =>
          have HV := Lib.hid hv
          clear hv
          go_wp2_with fail
          rw [HEQ.out]
          refine (HLV.out _ _).mono ?_
          rw [HV.out]
          rintro e w4 ⟨rfl, rfl⟩
          have HJ2 := Lib.hid (show ∀ (j : Nat) (h : j < L.length), j < k + 1 → isLevel L[j].data.toList (decide (j + 1 = L.length)) = true by
            intro j h hj
            by_cases e : j = k
            · subst e; rw [hgl]; exact HV.out
            · exact HJ.out j h (by omega))
          clear hgl
          go_wp2_with fail
          go_round
          case rel => exact ⟨k + 1, by omega, by go_num, HJ2.out⟩
          case measure => simp [intOf]; omega
        | false =>
          have HV := Lib.hid hv
          have HR := Lib.hid (show rr = false by
            rw [HN2.out, Bool.eq_false_iff]
            intro h
            have := (levelsOk_iff _).1 h k (by simpa using hlt)
            simp only [List.getElem_map, List.length_map, hgl] at this
            rw [this] at hv
            cases hv)
          clear hv
          go_wp2_with fail
          rw [HEQ.out]
          refine (HLV.out _ _).mono ?_
          rw [HV.out]
          rintro e w4 ⟨rfl, rfl⟩
          go_wp2_with fail
          go_ret
          rw [HR.out]
          exact ⟨rfl, HB3.out⟩
      · obtain rfl : k = L.length := by omega
        have HR := Lib.hid (show rr = true by
          rw [HN2.out, levelsOk_iff]
          intro j hj
          have hj' : j < L.length := by simpa using hj
          have := HJ.out j hj' hj'
          simpa using this)
        go_wp2_with fail
        go_ret
        rw [HR.out]
        exact ⟨rfl, HB3.out⟩
end Go.Proofs.YtnognmnjlnokeaaDoor.TopW
