/- Parts of a valid text are valid; names and filters by their levels. -/
import Derived.Test.YtnognmnjlnokeaaDoorTopJ
set_option linter.unusedVariables false
set_option linter.unusedSimpArgs false
namespace Go.Proofs.YtnognmnjlnokeaaDoor.TopW
open Go.RowKit Go.Proofs.YtnognmnjlnokeaaDoor.Tc Go.Proofs.YtnognmnjlnokeaaDoor.TopP

theorem eat_all {n m : Nat} {l : List UInt8} (h : eat n l = some m) : ∀ b ∈ l, cont b = true := by
  induction l generalizing n with
  | nil => intro b hb; cases hb
  | cons x l ih =>
    intro b hb
    unfold eat at h
    by_cases hx : cont x = true
    · rw [if_pos hx] at h
      rcases List.mem_cons.1 hb with rfl | hb
      · exact hx
      · exact ih h b hb
    · rw [if_neg hx] at h; cases h
theorem ulen_pos {c : UInt8} {r : List UInt8} (h : ulen (c :: r) ≠ 0) : ulen (c :: r) = fol c.toNat + 1 ∧ fol c.toNat ≤ r.length ∧ ∀ b ∈ r.take (fol c.toNat), cont b = true := by
  simp only [ulen] at h ⊢
  by_cases hf : r.length < fol c.toNat
  · rw [if_pos hf] at h; exact absurd rfl h
  · rw [if_neg hf] at h ⊢
    cases he : eat (ini c.toNat) (r.take (fol c.toNat)) with
    | none => rw [he] at h; exact absurd rfl h
    | some n =>
      rw [he] at h
      simp only [fin] at h ⊢
      by_cases hb : fits n (lea c.toNat) = true
      · rw [if_pos hb]; exact ⟨rfl, by omega, eat_all he⟩
      · rw [if_neg hb] at h; exact absurd rfl h
theorem ulen_ext {c : UInt8} {r r' : List UInt8} (h1 : fol c.toNat ≤ r.length) (h2 : fol c.toNat ≤ r'.length) (h : r.take (fol c.toNat) = r'.take (fol c.toNat)) : ulen (c :: r) = ulen (c :: r') := by
  simp only [ulen]
  rw [if_neg (by omega), if_neg (by omega), h]
theorem valid_iff (l : List UInt8) : valid l = true ↔ cut l = l.length := by simp [valid]
theorem valid_parts (n : Nat) : ∀ (a b : List UInt8), a.length ≤ n → (valid (a ++ 47 :: b) = true ↔ valid a = true ∧ valid b = true) := by
  have base : ∀ b : List UInt8, (valid (47 :: b) = true ↔ valid b = true) := by
    intro b
    have hu : ulen (47 :: b) = 1 := ulen_one b (by unfold P1; decide)
    rw [valid_iff, valid_iff, cut_step (by rw [hu]; decide), hu, List.drop_succ_cons, List.drop_zero, List.length_cons]
    omega
  have v0 : valid [] = true := by decide
  induction n with
  | zero =>
    intro a b ha
    obtain rfl := List.eq_nil_of_length_eq_zero (by omega : a.length = 0)
    rw [List.nil_append, base]
    simp [v0]
  | succ n ih =>
    intro a b ha
    cases a with
    | nil => rw [List.nil_append, base]; simp [v0]
    | cons c r =>
      have hap : (c :: r) ++ 47 :: b = c :: (r ++ 47 :: b) := rfl
      by_cases h0 : ulen (c :: r) = 0
      · have hz : ulen (c :: (r ++ 47 :: b)) = 0 := by
          rcases Nat.eq_zero_or_pos (ulen (c :: (r ++ 47 :: b))) with h | h
          · exact h
          · exfalso
            obtain ⟨h1, h2, h3⟩ := ulen_pos (Nat.pos_iff_ne_zero.1 h)
            by_cases hf : fol c.toNat ≤ r.length
            · rw [ulen_ext (r' := r ++ 47 :: b) hf h2 (by rw [List.take_append_of_le_length hf])] at h0
              omega
            · have hm : (47 : UInt8) ∈ (r ++ 47 :: b).take (fol c.toNat) := by
                rw [List.take_append, List.mem_append]
                right
                rw [show fol c.toNat - r.length = (fol c.toNat - r.length - 1) + 1 by omega, List.take_succ_cons]
                exact List.mem_cons_self
              have := h3 47 hm
              revert this; decide
        rw [hap, valid_iff, valid_iff (c :: r), cut_zero hz, cut_zero h0]
        simp
      · obtain ⟨h1, h2, h3⟩ := ulen_pos h0
        have hu : ulen (c :: (r ++ 47 :: b)) = fol c.toNat + 1 := by
          rw [← h1]
          exact (ulen_ext h2 (by rw [List.length_append]; omega) (by rw [List.take_append_of_le_length h2])).symm
        have := ih (r.drop (fol c.toNat)) b (by rw [List.length_drop]; simp at ha; omega)
        rw [valid_iff, valid_iff, valid_iff b] at this
        rw [hap, valid_iff, valid_iff (c :: r), valid_iff b, cut_step (by rw [hu]; omega), hu, cut_step h0, h1]
        rw [List.drop_succ_cons, List.drop_succ_cons, List.drop_append_of_le_length h2]
        rw [List.length_append, List.length_drop] at this
        simp only [List.length_cons, List.length_append] at this ⊢
        omega
theorem valid_jn {t : List (List UInt8)} (h : t ≠ []) : valid (jn t) = true ↔ ∀ x ∈ t, valid x = true := by
  induction t with
  | nil => exact absurd rfl h
  | cons x t ih =>
    cases t with
    | nil => simp [jn]
    | cons y t =>
      rw [jn_cons x (by simp), valid_parts x.length x _ (Nat.le_refl _), ih (by simp)]
      simp
theorem may_iff (l : List UInt8) : may l = true ↔ l ≠ [] ∧ valid l = true ∧ (lv l).length ≤ 32 := by
  unfold may
  cases l <;> simp
theorem isName_iff (l : List UInt8) : isName l = true ↔ may l = true ∧ 43 ∉ l ∧ 35 ∉ l := by
  unfold isName has
  simp [and_assoc]
/-- A level of a name, if it has bytes, is a name. -/
theorem level_name {l : List UInt8} (h : isName l = true) {x : List UInt8} (hx : x ∈ lv l) (hne : x ≠ []) : isName x = true := by
  rw [isName_iff, may_iff] at h ⊢
  obtain ⟨⟨h1, h2, h3⟩, h4, h5⟩ := h
  have hv : valid (jn (lv l)) = true := by rw [jn_lv]; exact h2
  rw [valid_jn (lv_ne l)] at hv
  have hm : ∀ c, c ∈ x → c ∈ l := fun c hc => by have := mem_jn hx hc; rwa [jn_lv] at this
  exact ⟨⟨hne, hv x hx, by rw [lv_no (lv_mem l x hx)]; simp⟩, fun e => h4 (hm _ e), fun e => h5 (hm _ e)⟩
set_option maxRecDepth 100000 in
set_option maxHeartbeats 2000000 in
theorem levels_law (w : World) (s : ByteArray) (hs' : s.size ≤ 140737488351232) (hE : Env w) : Calls Tryd.prog 6 #[.string s] w fun e w' => e = .returned (.bool true) ∧ Below w.heap.size w w' := by
  have HE := Lib.hid hE
  have HA := Lib.hid (awake_any w hE)
  clear hE
  by_cases h1 : 300 < s.size
  · go_enter Tryd.func6, Tryd.ntmps6
    go_wp2_with fail
    refine HA.out.mono ?_
    rintro e w1 ⟨rfl, hb⟩
    have HB := Lib.hid hb
    clear hb
    go_wp2_with fail
    go_ret
    exact ⟨rfl, HB.out⟩
  have HL := Lib.hid (levels_any s w (by omega) HE.out)
  have hlv := lv_le s
  clear HA
  go_enter Tryd.func6, Tryd.ntmps6
  go_wp2_with fail
  refine HL.out.mono ?_
  rintro e w1 ⟨L, rfl, hw1, hL, hsz⟩
  have hb1 : Below w.heap.size w w1 := by rw [hw1]; exact (Below.refl w.heap.size w).alloc (Nat.le_refl _) (Lay L)
  have HT1 := Lib.hid (show Txt w1 (some ⟨w.heap.size, 0, none⟩) L by rw [hw1]; exact Txt.lay w L)
  have HB1 := Lib.hid hb1
  have hll : 0 < L.length ∧ L.length ≤ 301 := by
    have := congrArg List.length hL
    rw [List.length_map] at this
    have h2 := lv_len s.data.toList
    omega
  have HSZ := Lib.hid hsz
  have HLL := Lib.hid hL
  obtain ⟨hl0, hl1⟩ := hll
  clear hw1 hb1 hL hsz hlv HL
  go_wp2_with fail
  go_loopw [4] (fun i wr => ∃ k : Nat, k ≤ L.length ∧ i = .int .i64 k ∧ Below w1.heap.size w1 wr) (fun i _ => L.length - (intOf i).toNat)
  case atStart => exact ⟨0, by omega, rfl, Below.refl _ _⟩
  case round =>
    obtain ⟨k, hk, rfl, hB⟩ := hrel
    have HB := Lib.hid hB
    clear hB
    by_cases hlt : k < L.length
    · obtain ⟨x, hx⟩ : ∃ x, L[k]? = some x := ⟨_, List.getElem?_eq_getElem hlt⟩
      have hxm := List.mem_of_getElem? hx
      have hxs := HSZ.out x hxm
      have hxl : x.data.toList ∈ lv s.data.toList := by rw [← HLL.out]; exact List.mem_map.2 ⟨x, hxm, rfl⟩
      have HLX := Lib.hid (fun W (hb : Below w1.heap.size w1 W) => levels_any x W (by omega) (HE.out.below (HB1.out.trans (hb.mono HB1.out.size))))
      have HNS := Lib.hid (fun W (hb : Below w1.heap.size w1 W) => name_any s W (by omega) (HE.out.below (HB1.out.trans (hb.mono HB1.out.size))))
      have HNX := Lib.hid (fun W (hb : Below w1.heap.size w1 W) => name_any x W (by omega) (HE.out.below (HB1.out.trans (hb.mono HB1.out.size))))
      have HC := Lib.hid (fun W (hb : Below w1.heap.size w1 W) => (HT1.out.below hb) k x hx)
      have HLN := Lib.hid (fun (h : isName s.data.toList = true) (hne : x.data.toList ≠ []) => level_name h hxl hne)
      have HLO := Lib.hid (lv_no (lv_mem _ _ hxl))
      have HXE := Lib.hid (str_is x [])
      obtain ⟨b0, o0, hAA, c0⟩ := HC.out _ HB.out
      injection hAA with hAA
      injection hAA with h5 h6
      subst h5
      subst h6
      rw [Nat.zero_add] at c0
      clear hx hxm hxl
      go_wp2_with fail
      refine (HLX.out _ HB.out).mono ?_
      rintro e w2 ⟨Q, rfl, hw2, hQ, -⟩
      have hq1 : Q.length = 1 := by have := congrArg List.length hQ; rw [List.length_map, HLO.out] at this; exact this
      have HQ1 := Lib.hid hq1
      have hq1' : ((Q.length : Int) == 1) = true := by rw [hq1]; rfl
      have hq2' : ((Q.length : Int) != 1) = false := by rw [hq1]; rfl
      have HB2 := Lib.hid (show Below w1.heap.size w1 w2 by rw [hw2]; exact HB.out.trans (((Below.refl wr.heap.size wr).alloc (Nat.le_refl _) (Lay Q)).mono HB.out.size))
      clear hw2 hQ hq1
      go_wp2_with fail
      refine (HNS.out _ HB2.out).mono ?_
      rintro e w3 ⟨rfl, hb3⟩
      have HB3 := Lib.hid (HB2.out.trans (hb3.mono HB2.out.size))
      clear hb3
      cases hn : isName s.data.toList with
      | false =>
        have HN := Lib.hid hn
        clear hn
        go_wp2_with fail
        go_roundw
        case rel => exact ⟨k + 1, by omega, by go_num, HB3.out⟩
        case measure => simp [intOf]; omega
      | true =>
        have HN := Lib.hid hn
        clear hn
        obtain ⟨b3, o3, hA3, d0⟩ := HC.out _ HB3.out
        injection hA3 with hA3
        injection hA3 with h5 h6
        subst h5
        subst h6
        rw [Nat.zero_add] at d0
        by_cases hxe : x.data.toList = []
        · have e1 : (x.toList == ([] : List UInt8)) = true := by rw [HXE.out]; simp [hxe]
          have e2 : x.toList = [] := by rw [ByteArray.toList_eq]; exact hxe
          have e3 : x.toList.isEmpty = true := by rw [e2]; rfl
          clear hxe
          go_wp2_with fail
          go_roundw
          case rel => exact ⟨k + 1, by omega, by go_num, HB3.out⟩
          case measure => simp [intOf]; omega
        · have hnx := HLN.out HN.out hxe
          have hnn := HNX.out _ HB3.out
          rw [hnx] at hnn
          have HNN := Lib.hid hnn
          have e1 : (x.toList == ([] : List UInt8)) = false := by rw [HXE.out]; simp [hxe]
          have e3 : x.toList.isEmpty = false := by rw [ByteArray.toList_eq]; simpa using hxe
          clear hxe hnx hnn
          go_wp2_with fail
          refine HNN.out.mono ?_
          rintro e w4 ⟨rfl, hb4⟩
          have HB4 := Lib.hid (HB3.out.trans (hb4.mono HB3.out.size))
          clear hb4
          go_wp2_with fail
          go_roundw
          case rel => exact ⟨k + 1, by omega, by go_num, HB4.out⟩
          case measure => simp [intOf]; omega
    · obtain rfl : k = L.length := by omega
      have hj := join_any wr (some ⟨w.heap.size, 0, none⟩) L L.length (HT1.out.below HB.out) (by omega) (fun x hx => by have := HSZ.out x hx; omega)
      have HJ := Lib.hid hj
      have hb2 := HB1.out.trans (HB.out.mono HB1.out.size)
      have HBW := Lib.hid hb2
      have HA := Lib.hid (awake_any wr (HE.out.below hb2))
      clear hj hb2
      go_wp2_with fail
      refine HJ.out.mono ?_
      rintro e w2 ⟨⟨r, rfl, hr, -⟩, rfl⟩
      have hrs : r = s := by
        apply ByteArray.ext; apply Array.ext'
        rw [hr, HLL.out, jn_lv]
      subst hrs
      have e1 := str_eq (rfl : r = r)
      clear hr
      go_wp2_with fail
      refine HA.out.mono ?_
      rintro e w3 ⟨rfl, hb3⟩
      have HB3 := Lib.hid (HBW.out.trans (hb3.mono HBW.out.size))
      clear hb3
      go_wp2_with fail
      go_ret
      exact ⟨rfl, HB3.out⟩
end Go.Proofs.YtnognmnjlnokeaaDoor.TopW
