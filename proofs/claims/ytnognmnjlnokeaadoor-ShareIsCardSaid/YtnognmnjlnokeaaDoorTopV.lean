/- Letters of a whole text; may it be one; has a name no wild letter. -/
import Derived.Test.YtnognmnjlnokeaaDoorTopU
import Derived.Test.YtnognmnjlnokeaaDoorShelf
import Derived.Laws.RangeAny
set_option linter.unusedVariables false
set_option linter.unusedSimpArgs false
namespace Go.Proofs.YtnognmnjlnokeaaDoor.TopW
open Go.RowKit Go.Proofs.YtnognmnjlnokeaaDoor.Tc Go.Proofs.YtnognmnjlnokeaaDoor.TopP

set_option maxRecDepth 100000 in
set_option maxHeartbeats 1000000 in
theorem walk_any (s : ByteArray) (w : World) (hs : s.size ≤ 1000000) : Calls Tryd.prog 126 #[.string s] w fun e w' => (∃ k : Int, e = .returned (.tuple #[.int .i64 k, .int .i64 (cut s.data.toList : Nat)])) ∧ Below w.heap.size w w' := by
  generalize hP : (fun (e : Ending) (w' : World) => (∃ k : Int, e = .returned (.tuple #[.int .i64 k, .int .i64 (cut s.data.toList : Nat)])) ∧ Below w.heap.size w w') = PP
  have HPP := Lib.hid (show ∀ (k : Int) (w' : World), Below w.heap.size w w' → PP (.returned (.tuple #[.int .i64 k, .int .i64 (cut s.data.toList : Nat)])) w' by
    intro k w' hb
    rw [← hP]
    exact ⟨⟨k, rfl⟩, hb⟩)
  clear hP
  go_enter Tryd.func126, Tryd.ntmps126
  go_wp2
  go_loopw [4, 5] (fun x i wr => ∃ m k : Nat, k ≤ s.size ∧ m ≤ k ∧ i = .int .i64 k ∧ x = .int .i64 m ∧ cut s.data.toList = k + cut (s.data.toList.drop k) ∧ Below w.heap.size w wr) (fun _ i _ => s.size - (intOf i).toNat)
  case atStart => exact ⟨0, 0, by omega, by omega, rfl, rfl, by simp, Below.refl _ _⟩
  case round =>
    obtain ⟨m, k, hk, hm, rfl, rfl, hc, hB⟩ := hrel
    have HB := Lib.hid hB
    by_cases hlt : k < s.size
    · obtain ⟨t, ht⟩ : ∃ t, t = s.extract k s.size := ⟨_, rfl⟩
      have hts : t.size = s.size - k := by rw [ht, ByteArray.size_extract]; omega
      have htl : t.data.toList = s.data.toList.drop k := by
        rw [ht, ByteArray.data_extract, Array.toList_extract, List.extract_eq_take_drop]
        exact List.take_of_length_le (by simp)
      have hf := first_any t wr (by omega) (by omega)
      rw [htl] at hf
      have hle := ulen_le (s.data.toList.drop k)
      have hdl : (s.data.toList.drop k).length = s.size - k := by simp
      rw [hdl] at hle
      have he := ht.symm
      by_cases h0 : ulen (s.data.toList.drop k) = 0
      · rw [h0] at hf
        have HF := Lib.hid hf
        have HC := Lib.hid (show cut s.data.toList = k by rw [hc, cut_zero h0]; rfl)
        clear hf hc h0 hle hdl htl hB ht
        go_wp2_with fail
        refine HF.out.mono ?_
        rintro e w2 ⟨rfl, hb2⟩
        have HE := Lib.hid (HPP.out (m : Int) w2 (HB.out.trans (hb2.mono HB.out.size)))
        rw [HC.out] at HE
        clear hb2
        go_wp2_with fail
        exact HE.out
      · obtain ⟨u, hu⟩ : ∃ u, u = ulen (s.data.toList.drop k) := ⟨_, rfl⟩
        rw [← hu] at hf hle h0
        have HF := Lib.hid hf
        have HC := Lib.hid (show cut s.data.toList = (k + u) + cut (s.data.toList.drop (k + u)) by
          rw [hc, cut_step (by rw [← hu]; exact h0), ← hu, List.drop_drop]; omega)
        have h0' : ((u : Int) == 0) = false := by simpa using h0
        clear hf hc hdl htl hB ht hu
        go_wp2_with fail
        refine HF.out.mono ?_
        rintro e w2 ⟨rfl, hb2⟩
        have HB2 := Lib.hid (HB.out.trans (hb2.mono HB.out.size))
        clear hb2
        go_wp2
        go_roundw
        case rel => exact ⟨m + 1, k + u, by omega, by omega, by go_num, by go_num, HC.out, HB2.out⟩
        case measure => simp [intOf]; omega
    · obtain rfl : k = s.size := by omega
      have HC := Lib.hid (show cut s.data.toList = s.size by
        rw [hc, List.drop_eq_nil_of_le (by simp)]; rfl)
      have HE := Lib.hid (HPP.out (m : Int) wr hB)
      rw [HC.out] at HE
      clear hc hB
      go_wp2_with fail
      exact HE.out
/-- Which package-level variables hold what. -/
structure Env (w : World) : Prop where
  max : ∃ m, w.cell? ⟨0, 0, none⟩ = some (.int .i64 m)
  big : ∃ t v, w.cell? ⟨1, 0, none⟩ = some (.iface t v)
  bad : ∃ t v, w.cell? ⟨2, 0, none⟩ = some (.iface t v)
  low : 2 < w.heap.size
theorem Env.below {w w' : World} (h : Env w) (hb : Below w.heap.size w w') : Env w' := by
  obtain ⟨⟨m, h0⟩, ⟨t, v, h1⟩, ⟨t2, v2, h2⟩, h3⟩ := h
  have k : ∀ {a : Addr} {x : Value}, w.cell? a = some x → w'.cell? a = some x := fun {a x} hc => (World.cell?_of_block (hb.block a.block (World.block_lt_of_cell? w a hc))).trans hc
  exact ⟨⟨m, k h0⟩, ⟨t, v, k h1⟩, ⟨t2, v2, k h2⟩, Nat.lt_of_lt_of_le h3 hb.size⟩
/-- An error value: none just if all is well. -/
def ErrIs (v : Value) (ok : Bool) : Prop := (v = .nilIface ∧ ok = true) ∨ ((∃ t u, v = .iface t u) ∧ ok = false)
theorem new_some (r at_ : Int) (t : TypeId) (v : Value) (w : World) : Calls Tryd.prog 125 #[.int .i64 r, .int .i64 at_, .iface t v] w fun e w' => (∃ u, e = .returned (.iface 166 u)) ∧ Below w.heap.size w w' := by
  have HB := Lib.hid (fun o => (Below.refl w.heap.size w).alloc (Nat.le_refl _) o)
  go_enter Tryd.func125, Tryd.ntmps125
  go_wp2
  go_ret
  exact ⟨⟨_, rfl⟩, HB.out _⟩
set_option maxRecDepth 100000 in
set_option maxHeartbeats 1000000 in
theorem letters_any (s : ByteArray) (w : World) (hs : s.size ≤ 60000) (hE : Env w) : Calls Tryd.prog 104 #[.string s] w fun e w' => (∃ k v, e = .returned (.tuple #[.int .i64 k, v]) ∧ ErrIs v (valid s.data.toList)) ∧ Below w.heap.size w w' := by
  generalize hP : (fun (e : Ending) (w' : World) => (∃ k v, e = .returned (.tuple #[.int .i64 k, v]) ∧ ErrIs v (valid s.data.toList)) ∧ Below w.heap.size w w') = PP
  have HPP := Lib.hid (show ∀ (k : Int) (v : Value) (w' : World), ErrIs v (valid s.data.toList) → Below w.heap.size w w' → PP (.returned (.tuple #[.int .i64 k, v])) w' by
    intro k v w' hv hb
    rw [← hP]
    exact ⟨⟨k, v, rfl, hv⟩, hb⟩)
  clear hP
  have HW := Lib.hid (walk_any s w (by omega))
  have hcl := cut_le s.data.toList
  have hsl : s.data.toList.length = s.size := by simp
  rw [hsl] at hcl
  have HV := Lib.hid (show valid s.data.toList = decide (cut s.data.toList = s.size) by unfold valid; rw [hsl])
  have HE := Lib.hid hE
  generalize cut s.data.toList = c at *
  generalize valid s.data.toList = vv at *
  clear hE hsl
  go_enter Tryd.func104, Tryd.ntmps104
  go_wp2_with fail
  refine HW.out.mono ?_
  rintro e w2 ⟨⟨k, rfl⟩, hb⟩
  obtain ⟨t2, v2, h2⟩ := (HE.out.below hb).bad
  have HB := Lib.hid hb
  clear hb
  by_cases hlt : c < s.size
  · have HV2 := Lib.hid (show vv = false by rw [HV.out]; simp; omega)
    have HN := Lib.hid (new_some 129 c t2 v2 w2)
    go_wp2_with fail
    refine HN.out.mono ?_
    rintro e w3 ⟨⟨u, rfl⟩, hb3⟩
    have HF := Lib.hid (HPP.out 0 (.iface 166 u) w3 (.inr ⟨⟨_, _, rfl⟩, HV2.out⟩) (HB.out.trans (hb3.mono HB.out.size)))
    clear hb3
    go_wp2_with fail
    exact HF.out
  · obtain rfl : c = s.size := by omega
    have HV2 := Lib.hid (show vv = true by rw [HV.out]; simp)
    have HF := Lib.hid (HPP.out k .nilIface w2 (.inl ⟨rfl, HV2.out⟩) HB.out)
    clear h2
    go_wp2_with fail
    exact HF.out
theorem check_any (s : ByteArray) (w : World) (hs : s.size ≤ 60000) (hE : Env w) : Calls Tryd.prog 85 #[.string s] w fun e w' => (∃ v, e = .returned v ∧ ErrIs v (valid s.data.toList)) ∧ Below w.heap.size w w' := by
  generalize hP : (fun (e : Ending) (w' : World) => (∃ v, e = .returned v ∧ ErrIs v (valid s.data.toList)) ∧ Below w.heap.size w w') = PP
  have HPP := Lib.hid (show ∀ (v : Value) (w' : World), ErrIs v (valid s.data.toList) → Below w.heap.size w w' → PP (.returned v) w' by
    intro v w' hv hb
    rw [← hP]
    exact ⟨⟨v, rfl, hv⟩, hb⟩)
  clear hP
  have HL := Lib.hid (letters_any s w hs hE)
  clear hE
  go_enter Tryd.func85, Tryd.ntmps85
  go_wp2_with fail
  refine HL.out.mono ?_
  rintro e w2 ⟨⟨k, v, rfl, hv⟩, hb⟩
  have HF := Lib.hid (HPP.out v w2 hv hb)
  clear hv hb
  go_wp2_with fail
  exact HF.out
theorem lv_len (l : List UInt8) : (lv l).length = l.count 47 + 1 := by
  induction l with
  | nil => rfl
  | cons c r ih =>
    unfold lv
    by_cases h : c = 47
    · rw [if_pos h, List.length_cons, ih, h, List.count_cons_self]
    · rw [if_neg h, List.count_cons_of_ne h]
      cases hr : lv r with
      | nil => exact absurd hr (lv_ne r)
      | cons x t => rw [hr] at ih; exact ih
theorem count_lv (l : List UInt8) : (Lib.countByte l 47 : Int) = ((lv l).length : Int) - 1 := by
  rw [lv_len]; unfold Lib.countByte; omega
set_option maxRecDepth 100000 in
set_option maxHeartbeats 1000000 in
theorem may_any (s : ByteArray) (w : World) (hs : s.size ≤ 60000) (hE : Env w) : Calls Tryd.prog 61 #[.string s] w fun e w' => e = .returned (.bool (TopP.may s.data.toList)) ∧ Below w.heap.size w w' := by
  cases hl : s.data.toList with
  | nil =>
    obtain rfl : s = ByteArray.empty := by apply ByteArray.ext; apply Array.ext'; simpa using hl
    clear hl hE
    go_enter Tryd.func61, Tryd.ntmps61
    go_wp2_with fail
    go_ret
    exact ⟨rfl, Below.refl _ _⟩
  | cons c r =>
    have HC := Lib.hid (check_any s w hs hE)
    have HM := Lib.hid (show TopP.may (c :: r) = (valid s.data.toList && decide ((lv s.data.toList).length ≤ 32)) by rw [hl]; rfl)
    have hne : s.toList.isEmpty = false := by rw [ByteArray.toList_eq, hl]; rfl
    have hne2 : s.toList ≠ [] := by rw [ByteArray.toList_eq, hl]; simp
    have HCN := Lib.hid (fun w => Tryd.strings_Count_one s 47 w)
    clear hl hE
    generalize valid s.data.toList = vv at *
    go_enter Tryd.func61, Tryd.ntmps61
    go_wp2_with fail
    refine HC.out.mono ?_
    rintro e w2 ⟨⟨v, rfl, hv⟩, hb⟩
    have HB := Lib.hid hb
    clear hb
    rcases hv with ⟨rfl, rfl⟩ | ⟨⟨t, u, rfl⟩, rfl⟩
    · have HCO := Lib.hid (HCN.out w2)
      go_wp2_with fail
      refine HCO.out.mono ?_
      rintro e w3 ⟨rfl, rfl⟩
      have HL := Lib.hid (count_lv s.data.toList)
      rw [HL.out]
      generalize (lv s.data.toList).length = n at *
      by_cases hn : n ≤ 32
      · have HR := Lib.hid (show TopP.may (c :: r) = true by rw [HM.out]; simp [hn])
        have h1 : ((n : Int) - 1 < 32) := by omega
        go_wp2_with fail
        go_ret
        rw [HR.out]
        exact ⟨ret_bool (by first | (simp; done) | (simp; omega)), HB.out⟩
      · have HR := Lib.hid (show TopP.may (c :: r) = false by rw [HM.out]; simp [hn])
        have h1 : ¬ ((n : Int) - 1 < 32) := by omega
        go_wp2_with fail
        go_ret
        rw [HR.out]
        exact ⟨ret_bool (by first | (simp; done) | (simp; omega)), HB.out⟩
    · go_wp2_with fail
      go_ret
      rw [HM.out]
      exact ⟨rfl, HB.out⟩
theorem decode_skip (s : ByteArray) (pos k : Nat) (h1 : 1 ≤ k) (h2 : k < (Utf8.decode s pos).2) : pos + k < s.size ∧ 128 ≤ (s.get! (pos + k)).toNat := by
  have key : ∀ j, (decide (pos + j < s.size) && (s.get! (pos + j)).toNat / 64 == 2) = true → pos + j < s.size ∧ 128 ≤ (s.get! (pos + j)).toNat := by
    intro j hj
    simp only [Bool.and_eq_true, decide_eq_true_eq, beq_iff_eq] at hj
    exact ⟨hj.1, by omega⟩
  simp only [Utf8.decode] at h2
  split at h2
  · simp only at h2; omega
  split at h2
  · rename_i _ hc
    simp only [Bool.and_eq_true, beq_iff_eq, decide_eq_true_eq] at hc
    split at h2
    · simp only at h2
      obtain rfl : k = 1 := by omega
      exact ⟨hc.2.1, by omega⟩
    · simp only at h2; omega
  split at h2
  · rename_i _ _ hc
    simp only [Bool.and_eq_true, beq_iff_eq, decide_eq_true_eq] at hc
    split at h2
    · simp only at h2
      rcases (show k = 1 ∨ k = 2 by omega) with rfl | rfl
      · exact ⟨hc.1.2.1, by omega⟩
      · exact ⟨hc.2.1, by omega⟩
    · simp only at h2; omega
  split at h2
  · rename_i _ _ _ hc
    simp only [Bool.and_eq_true, beq_iff_eq, decide_eq_true_eq] at hc
    split at h2
    · simp only at h2
      rcases (show k = 1 ∨ k = 2 ∨ k = 3 by omega) with rfl | rfl | rfl
      · exact ⟨hc.1.1.2.1, by omega⟩
      · exact ⟨hc.1.2.1, by omega⟩
      · exact ⟨hc.2.1, by omega⟩
    · simp only at h2; omega
  · simp only at h2; omega
theorem wild_any (x : Int) (w : World) : Calls Tryd.prog 62 #[.int .i32 x] w fun e w' => e = .returned (.bool (decide (x = 43 ∨ x = 35))) ∧ w = w' := by
  by_cases h1 : x = 43
  · subst h1
    go_enter Tryd.func62, Tryd.ntmps62
    go_wp2
    go_ret
    exact ⟨rfl, rfl⟩
  · have h2 : (x == 43) = false := by simpa using h1
    have HE := Lib.hid (show decide (x = 43 ∨ x = 35) = (x == 35) by rw [Bool.eq_iff_iff]; simp [h1])
    rw [HE.out]
    clear h1
    go_enter Tryd.func62, Tryd.ntmps62
    go_wp2
    all_goals go_ret
    all_goals exact ⟨rfl, rfl⟩
/-- No wild letter among the first bytes. -/
def tame (l : List UInt8) (k : Nat) : Prop := ∀ j (h : j < l.length), j < k → l[j].toNat ≠ 43 ∧ l[j].toNat ≠ 35
set_option maxRecDepth 100000 in
set_option maxHeartbeats 1000000 in
theorem name_any (s : ByteArray) (w : World) (hs : s.size ≤ 60000) (hE : Env w) : Calls Tryd.prog 17 #[.string s] w fun e w' => e = .returned (.bool (isName s.data.toList)) ∧ Below w.heap.size w w' := by
  have HM := Lib.hid (may_any s w hs hE)
  have HN := Lib.hid (show isName s.data.toList = (TopP.may s.data.toList && !has 43 s.data.toList && !has 35 s.data.toList) from rfl)
  clear hE
  generalize TopP.may s.data.toList = mm at *
  cases mm with
  | false =>
    go_enter Tryd.func17, Tryd.ntmps17
    go_wp2_with fail
    refine HM.out.mono ?_
    rintro e w2 ⟨rfl, hb⟩
    have HB := Lib.hid hb
    clear hb
    go_wp2_with fail
    go_ret
    rw [HN.out]
    exact ⟨rfl, HB.out⟩
  | true =>
    go_enter Tryd.func17, Tryd.ntmps17
    go_wp2_with fail
    refine HM.out.mono ?_
    rintro e w2 ⟨rfl, hb⟩
    have HB := Lib.hid hb
    clear hb
    go_wp2_with fail
    go_loopw [4] (fun _ wr => ∃ pos : Nat, wr = w2.iter s pos ∧ pos ≤ s.size ∧ tame s.data.toList pos) (fun _ wr => s.size - wr.iterPos w2.heap.size)
    case atStart => exact ⟨0, rfl, by omega, fun j h hj => by omega⟩
    case round =>
      obtain ⟨pos, rfl, hp, ht⟩ := hrel
      by_cases hlt : pos < s.size
      · have hnx : ∀ ty, (Instr.next (.pointer (some ⟨w2.heap.size, 0, none⟩)) true ty).run Tryd.prog (w2.iter s pos) = _ := fun ty => run_next_any w2 s pos ty hlt
        have hl : pos < s.data.toList.length := by simpa using hlt
        have hgl : s.data.toList[pos] = s[pos]'hlt := by simp; rfl
        obtain ⟨rn, hrn⟩ : ∃ rn, rn = (Utf8.decode s pos).1 := ⟨_, rfl⟩
        obtain ⟨wd, hwd⟩ : ∃ wd, wd = (Utf8.decode s pos).2 := ⟨_, rfl⟩
        have hw1 : 1 ≤ wd := by
          rw [hwd]
          by_cases ha : (s[pos]'hlt).toNat < 128
          · rw [decode_ascii s pos hlt ha]; exact Nat.le_refl _
          · exact (decode_high s pos hlt (by omega)).2
        have hw2 : pos + wd ≤ s.size := by
          by_cases h : wd = 1
          · omega
          · have := decode_skip s pos (wd - 1) (by omega) (by rw [← hwd]; omega)
            omega
        have hwild : (rn = 43 ∨ rn = 35) ↔ (s.data.toList[pos].toNat = 43 ∨ s.data.toList[pos].toNat = 35) := by
          rw [hgl, hrn]
          by_cases ha : (s[pos]'hlt).toNat < 128
          · rw [decode_ascii s pos hlt ha]
          · have := (decode_high s pos hlt (by omega)).1
            omega
        have ht2 : ¬ (rn = 43 ∨ rn = 35) → tame s.data.toList (pos + wd) := by
          intro hn j hj hjp
          rcases Nat.lt_trichotomy j pos with h | h | h
          · exact ht j hj h
          · subst h; rw [hwild] at hn; omega
          · have := (decode_skip s pos (j - pos) (by omega) (by rw [← hwd]; omega)).2
            rw [show pos + (j - pos) = j by omega] at this
            have e : s.get! j = s.data.toList[j] := by
              have hj2 : j < s.size := by simpa using hj
              simp [ByteArray.get!, getElem!_pos, hj2]
            rw [e] at this
            omega
        have HT2 := Lib.hid ht2
        have HW := Lib.hid hwild
        rw [← hrn, ← hwd] at hnx
        have HNO := Lib.hid (show (rn = 43 ∨ rn = 35) → isName s.data.toList = false by
          intro h
          have := hwild.1 h
          rw [HN.out]
          have key : ∀ c : UInt8, s.data.toList[pos].toNat = c.toNat → has c s.data.toList = true := by
            intro c hc
            unfold has
            rw [decide_eq_true_iff, ← UInt8.toNat_inj.1 hc]
            exact List.getElem_mem hl
          rcases this with h | h
          · rw [key 43 h]; simp
          · rw [key 35 h]; simp)
        clear hgl ht2 hwild ht HN hwd
        have HWI := Lib.hid (fun w => wild_any (rn : Int) w)
        have HRN := Lib.hid hrn
        clear hrn
        by_cases hw : ((rn : Int) = 43 ∨ (rn : Int) = 35)
        · have HWD := Lib.hid (show decide ((rn : Int) = 43 ∨ (rn : Int) = 35) = true by simpa using hw)
          have HR := Lib.hid (HNO.out (by omega))
          clear hw
          go_wp2_with fail
          refine (HWI.out _).mono ?_
          rw [HWD.out]
          rintro e w3 ⟨rfl, rfl⟩
          go_wp2_with fail
          go_ret
          rw [HR.out]
          exact ⟨rfl, HB.out.trans (((Below.refl w2.heap.size w2).alloc (Nat.le_refl _) (.stringIter s _)).mono HB.out.size)⟩
        · have HWD := Lib.hid (show decide ((rn : Int) = 43 ∨ (rn : Int) = 35) = false by simpa using hw)
          have HR := Lib.hid (HT2.out (by omega))
          clear hw
          go_wp2_with fail
          refine (HWI.out _).mono ?_
          rw [HWD.out]
          rintro e w3 ⟨rfl, rfl⟩
          go_wp2_with fail
          go_roundw
          case rel => exact ⟨pos + wd, rfl, hw2, HR.out⟩
          case measure => simp; omega
      · obtain rfl : pos = s.size := by omega
        have hnx : ∀ ty, (Instr.next (.pointer (some ⟨w2.heap.size, 0, none⟩)) true ty).run Tryd.prog (w2.iter s s.size) = _ := fun ty => run_next_end w2 s s.size ty hlt
        have HR := Lib.hid (show isName s.data.toList = true by
          rw [HN.out]
          have key : ∀ c : UInt8, (c.toNat = 43 ∨ c.toNat = 35) → has c s.data.toList = false := by
            intro c hc
            unfold has
            rw [decide_eq_false_iff_not]
            intro hm
            obtain ⟨j, hj, rfl⟩ := List.getElem_of_mem hm
            have := ht j hj (by simpa using hj)
            omega
          rw [key 43 (.inl rfl), key 35 (.inr rfl)]
          rfl)
        clear ht HN
        go_wp2_with fail
        go_ret
        rw [HR.out]
        exact ⟨rfl, HB.out.trans (((Below.refl w2.heap.size w2).alloc (Nat.le_refl _) (.stringIter s _)).mono HB.out.size)⟩
end Go.Proofs.YtnognmnjlnokeaaDoor.TopW
