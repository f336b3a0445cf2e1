/- TopicWide: the walk. -/
import Derived.Test.YtnognmnjlnokeaaDoorTopY
import Derived.Test.YtnognmnjlnokeaaDoorOwn
set_option linter.unusedVariables false
set_option linter.unusedSimpArgs false
namespace Go.Proofs.YtnognmnjlnokeaaDoor.TopW
open Go.RowKit Go.Proofs.YtnognmnjlnokeaaDoor.Tc Go.Proofs.YtnognmnjlnokeaaDoor.TopP

theorem info9 : (Tryd.prog.info? 9).map (fun i => (i.zero, i.size, i.bytes)) = some (some (.string ByteArray.empty), 1, 16) := by kernel_rfl
/-- Texts in an array of the call's own, in blocks from B on. -/
structure OwnB (B : Nat) (w : World) (v : Value) (L : List ByteArray) : Prop where
  own : w.ownsRow 0 9 1 v L.length (L.map Value.string)
  new : ∀ g, v.ownBlock = some g → B ≤ g
theorem OwnB.nil (B : Nat) (w : World) : OwnB B w (.slice none 0 0) [] := ⟨own_nil w 9 1, by intro g hg; simp [Value.ownBlock] at hg⟩
theorem OwnB.below {B : Nat} {w w' : World} {v : Value} {L : List ByteArray} (h : OwnB B w v L) (hb : Below w.heap.size w w') : OwnB B w' v L := ⟨own_kept h.own (Tch.of_below (S := []) hb) (by simp), h.new⟩
theorem OwnB.form {B : Nat} {w : World} {v : Value} {L : List ByteArray} (h : OwnB B w v L) : ∃ A c, v = .slice A L.length c ∧ Txt w A L := by
  obtain ⟨A, c, rfl⟩ := own_form h.own
  refine ⟨A, c, rfl, fun k x hx => ?_⟩
  have hk := (List.getElem?_eq_some_iff.1 hx).1
  obtain ⟨g, c', hv, -, hc⟩ := own_cells h.own (by omega)
  injection hv with hA
  subst hA
  refine ⟨g, 0, rfl, ?_⟩
  rw [Nat.zero_add]
  exact hc k _ (by rw [List.getElem?_map, hx]; rfl)
set_option maxRecDepth 100000 in
theorem app_list {B : Nat} {w : World} {v : Value} {L : List ByteArray} (h : OwnB B w v L) (hB : B ≤ w.heap.size) (A : Option Addr) (M : List ByteArray) (c : Nat) (hM : Txt w A M) (hL : L.length ≤ 1000) (hL2 : M.length ≤ 1000) :
    ∃ v' w', (Builtin.append_ #[25, 25] 25 #[v, .slice A M.length c]).run Tryd.prog w = .ok v' w' ∧ OwnB B w' v' (L ++ M) ∧ Below B w w' := by
  obtain ⟨i0, hi, hz0, hz1, hz2⟩ := info_parts info9
  obtain ⟨v', w', hr, ho, ht, hloc⟩ := append_list (P := Tryd.prog) (ty := 25) Tryd.underlying25 hi hz0 hz1 hz2 rfl (by decide) h.own A M.length c (M.map Value.string) (by simp) (fun hn => by
    obtain ⟨b, off, hA, -⟩ := hM 0 _ (List.getElem?_eq_getElem hn)
    refine ⟨_, hA, fun j u hu => ?_⟩
    rw [List.getElem?_map] at hu
    cases hx : M[j]? with
    | none => rw [hx] at hu; cases hu
    | some x =>
      rw [hx] at hu
      injection hu with hu
      subst hu
      obtain ⟨b2, off2, hA2, hc⟩ := hM j x hx
      rw [hA] at hA2
      injection hA2 with hA2
      injection hA2 with h5 h6
      subst h5
      subst h6
      rw [add_plain]
      exact hc) (by
    intro u hu
    obtain ⟨x, -, rfl⟩ := List.mem_map.1 hu
    rfl) (by unfold maxLen; omega) (by omega)
  refine ⟨v', w', hr, ⟨by simpa using ho, ?_⟩, ht.below hB (fun i hi => h.new i (by simpa using hi))⟩
  intro g hg
  rcases hloc g hg with h1 | h1
  · exact h.new g h1
  · omega
theorem app_one {B : Nat} {w : World} {v : Value} {L : List ByteArray} (h : OwnB B w v L) (hB : B ≤ w.heap.size) (x : ByteArray) (hL : L.length ≤ 1000) :
    ∃ v' w', (Builtin.append_ #[25, 25] 25 #[v, .slice (some ⟨w.heap.size, 0, none⟩) 1 1]).run Tryd.prog (w.alloc (.cells #[.string x] 9)) = .ok v' w' ∧ OwnB B w' v' (L ++ [x]) ∧ Below B w w' := by
  obtain ⟨i0, hi, hz0, hz1, hz2⟩ := info_parts info9
  obtain ⟨v', w', hr, ho, ht, hloc, -⟩ := append_one (P := Tryd.prog) (ty := 25) Tryd.underlying25 hi hz0 hz1 hz2 rfl (by decide) h.own [.string x] rfl (by
    intro u hu
    rw [List.mem_singleton.1 hu]
    rfl) (by unfold maxLen; omega) (by omega)
  refine ⟨v', w', hr, ⟨by simpa using ho, ?_⟩, ht.below hB (fun i hi => h.new i (by simpa using hi))⟩
  intro g hg
  rcases hloc g hg with h1 | h1
  · exact h.new g h1
  · omega
theorem Txt.cut {w : World} {b o : Nat} {L : List ByteArray} (h : Txt w (some ⟨b, o, none⟩) L) (k : Nat) : Txt w (some ⟨b, o, none⟩) (L.take k) := by
  intro j x hx
  rw [List.getElem?_take] at hx
  by_cases hj : j < k
  · rw [if_pos hj] at hx; exact h j x hx
  · rw [if_neg hj] at hx; cases hx
theorem Txt.rest {w : World} {b o : Nat} {L : List ByteArray} (h : Txt w (some ⟨b, o, none⟩) L) (k : Nat) : Txt w (some ⟨b, o + k, none⟩) (L.drop k) := by
  intro j x hx
  rw [List.getElem?_drop] at hx
  obtain ⟨b2, o2, hA, hc⟩ := h (k + j) x hx
  injection hA with hA
  injection hA with h5 h6
  subst h5
  subst h6
  exact ⟨b, o + k, rfl, by rw [Nat.add_assoc]; exact hc⟩
theorem Txt.nil (w : World) (A : Option Addr) : Txt w A [] := by intro j x hx; simp at hx
theorem bt_int (c : UInt8) (m : Int) (d : UInt8) (hd : (d.toNat : Int) = m) : (((c.toNat : Int) != m)) = !decide (c = d) := by
  rw [Bool.eq_iff_iff]
  simp
  constructor
  · intro h e; exact h (by rw [e]; exact hd)
  · intro h e; exact h (UInt8.toNat_inj.1 (by omega))
def wt (t : List (List UInt8)) : Nat := (t.map fun x => x.length + 1).sum
theorem wt_app (a b : List (List UInt8)) : wt (a ++ b) = wt a + wt b := by simp [wt]
theorem jn_len {t : List (List UInt8)} (h : t ≠ []) : (jn t).length + 1 = wt t := by
  induction t with
  | nil => exact absurd rfl h
  | cons x t ih =>
    cases t with
    | nil => simp [jn, wt]
    | cons y t =>
      have := ih (by simp)
      rw [jn_cons x (by simp)]
      simp only [wt, List.map_cons, List.sum_cons, List.length_append, List.length_cons] at this ⊢
      omega
theorem wt_part (t : List (List UInt8)) (k : Nat) : wt (t.take k) + wt (t.drop k) = wt t := by rw [← wt_app, List.take_append_drop]
theorem wt_drop (t : List (List UInt8)) (k : Nat) : wt (t.drop (k + 1)) ≤ wt (t.drop k) := by
  by_cases hk : k < t.length
  · rw [List.drop_eq_getElem_cons hk]; unfold wt; rw [List.map_cons, List.sum_cons]; omega
  · rw [List.drop_eq_nil_of_le (by omega), List.drop_eq_nil_of_le (by omega)]; exact Nat.le_refl _
theorem len_size {r : ByteArray} {l : List UInt8} (h : r.data.toList = l) : r.size = l.length := by rw [← h]; simp
set_option maxRecDepth 100000 in
set_option maxHeartbeats 4000000 in
theorem wide_law (w : World) (n o : ByteArray) (at_ : Int) (hn' : n.size ≤ 140737488351232) (ho' : o.size ≤ 140737488351232) (hat : (Lit.int .u8 at_).wf = true) (hE : Env w) : Calls Tryd.prog 5 #[.string n, .string o, .int .u8 at_] w fun e w' => e = .returned (.bool true) ∧ Below w.heap.size w w' := by
  have HE := Lib.hid hE
  have HA := Lib.hid (awake_any w hE)
  have hat2 : 0 ≤ at_ ∧ at_ < 256 := by
    have h1 : IntKind.u8.min = 0 := rfl
    have h2 : IntKind.u8.max = 255 := rfl
    simp [Lit.wf, h1, h2] at hat
    omega
  clear hE hat
  by_cases h1 : 300 < n.size
  · go_enter Tryd.func5, Tryd.ntmps5
    go_wp2_with fail
    refine HA.out.mono ?_
    rintro e w1 ⟨rfl, hb⟩
    have HB := Lib.hid hb
    clear hb
    go_wp2_with fail
    go_ret
    exact ⟨rfl, HB.out⟩
  by_cases h2 : 300 < o.size
  · go_enter Tryd.func5, Tryd.ntmps5
    go_wp2_with fail
    refine HA.out.mono ?_
    rintro e w1 ⟨rfl, hb⟩
    have HB := Lib.hid hb
    clear hb
    go_wp2_with fail
    go_ret
    exact ⟨rfl, HB.out⟩
  have HN := Lib.hid (name_any n w (by omega) HE.out)
  cases hnm : isName n.data.toList with
  | false =>
    rw [hnm] at HN
    have HM := Lib.hid (fun W (hb : Below w.heap.size w W) => match_any ⟨#[35]⟩ n W (by decide) (by omega) (HE.out.below hb))
    rw [no_match hnm] at HM
    clear hnm HA
    go_enter Tryd.func5, Tryd.ntmps5
    go_wp2_with fail
    refine HN.out.mono ?_
    rintro e w1 ⟨rfl, hb⟩
    have HMA := Lib.hid (HM.out w1 hb)
    have HB1 := Lib.hid hb
    clear hb HM HN
    go_wp2_with fail
    refine HMA.out.mono ?_
    rintro e w2 ⟨rfl, hb⟩
    have HB2 := Lib.hid (HB1.out.trans (hb.mono HB1.out.size))
    have HA := Lib.hid (awake_any w2 (HE.out.below (HB1.out.trans (hb.mono HB1.out.size))))
    clear hb HMA
    go_wp2_with fail
    refine HA.out.mono ?_
    rintro e w3 ⟨rfl, hb⟩
    have HB3 := Lib.hid (HB2.out.trans (hb.mono HB2.out.size))
    clear hb
    go_wp2_with fail
    go_ret
    exact ⟨rfl, HB3.out⟩
  | true =>
    rw [hnm] at HN
    have HNM := Lib.hid hnm
    have HL := Lib.hid (fun W (hb : Below w.heap.size w W) => levels_any n W (by omega) (HE.out.below hb))
    have hself := fun W (hb : Below w.heap.size w W) => match_any n n W (by omega) (by omega) (HE.out.below hb)
    rw [self_match hnm] at hself
    have HSELF := Lib.hid hself
    have HON := Lib.hid (fun W (hb : Below w.heap.size w W) => name_any o W (by omega) (HE.out.below hb))
    have HOM := Lib.hid (fun W (hb : Below w.heap.size w W) => match_any o n W (by omega) (by omega) (HE.out.below hb))
    have hlv := lv_le n
    have hlp := lv_len n.data.toList
    obtain ⟨l, hl⟩ : ∃ l, l = lv n.data.toList := ⟨_, rfl⟩
    rw [← hl] at hlv hlp
    have HLV := Lib.hid hl
    clear hnm HA hself hl
    go_enter Tryd.func5, Tryd.ntmps5
    go_wp2_with fail
    refine HN.out.mono ?_
    rintro e w1 ⟨rfl, hb⟩
    have HLA := Lib.hid (HL.out w1 hb)
    have HB1 := Lib.hid hb
    clear hb HL HN
    go_wp2_with fail
    refine HLA.out.mono ?_
    rintro e w2 ⟨L, rfl, hw2, hL, hsz⟩
    have hb2 : Below w1.heap.size w1 w2 := by rw [hw2]; exact (Below.refl w1.heap.size w1).alloc (Nat.le_refl _) (Lay L)
    have hh2 : w1.heap.size < w2.heap.size := by rw [hw2]; simp
    have HT2 := Lib.hid (show Txt w2 (some ⟨w1.heap.size, 0, none⟩) L by rw [hw2]; exact Txt.lay w1 L)
    have HB2 := Lib.hid (HB1.out.trans (hb2.mono HB1.out.size))
    have hLl : L.length = l.length := by rw [HLV.out, ← hL, List.length_map]
    have HLL := Lib.hid hL
    have HSZ := Lib.hid hsz
    have hl0 : 0 < L.length := by omega
    have hq0 : ((L.length : Int) == 0) = false := by rw [beq_eq_false_iff_ne]; omega
    have hl1 : L.length ≤ 301 := by omega
    have HSA := Lib.hid (HSELF.out w2 (HB1.out.trans (hb2.mono HB1.out.size)))
    clear hw2 hb2 hL hsz hLl hlv hlp HLA HSELF
    go_upto_region 6 with (fail)
    go_cut [54] (fun x wx => x = .bool false ∧ Below w2.heap.size w2 wx)
    case first =>
      go_wp2_with fail
      refine HSA.out.mono ?_
      rintro e w3 ⟨rfl, hb3⟩
      have HB3 := Lib.hid hb3
      have HOA := Lib.hid (HON.out w3 (HB2.out.trans (hb3.mono HB2.out.size)))
      clear hb3 HSA
      go_wp2_with fail
      refine HOA.out.mono ?_
      rintro e w4 ⟨rfl, hb4⟩
      have hb24 := HB3.out.trans (hb4.mono HB3.out.size)
      have HB4 := Lib.hid hb24
      have hom := HOM.out w4 (HB2.out.trans (hb24.mono HB2.out.size))
      clear hb4 hb24 HOA HON
      cases hon : isName o.data.toList with
      | false =>
        clear hon hom
        go_wp2_with fail
        go_meet
        exact ⟨rfl, HB4.out⟩
      | true =>
        rw [other_match hon HNM.out] at hom
        have HOMA := Lib.hid hom
        have eo : (o.toList == n.toList) = decide (o.data.toList = n.data.toList) := by
          rw [ByteArray.toList_eq, ByteArray.toList_eq, Bool.eq_iff_iff]; simp
        clear hon hom
        generalize decide (o.data.toList = n.data.toList) = q at *
        go_wp2_with fail
        refine HOMA.out.mono ?_
        rintro e w5 ⟨rfl, hb5⟩
        have HB5 := Lib.hid (HB4.out.trans (hb5.mono HB4.out.size))
        clear hb5
        cases q
        all_goals
          go_wp2_with fail
          go_meet
          exact ⟨rfl, HB5.out⟩
    case rest =>
      obtain ⟨rfl, hb4⟩ := hcut
      obtain ⟨wy, rfl⟩ : ∃ wy : World, wy = wc := ⟨_, rfl⟩
      have HB4 := Lib.hid (HB2.out.trans (hb4.mono HB2.out.size))
      have hT4 := HT2.out.below hb4
      have hh4 : w1.heap.size < wy.heap.size := Nat.lt_of_lt_of_le hh2 hb4.size
      clear hb4 HSA HON HOM hh2
      -- which level
      obtain ⟨a, rfl⟩ := Int.eq_ofNat_of_zero_le hat2.1
      obtain ⟨k, hk⟩ : ∃ k, k = a % L.length := ⟨_, rfl⟩
      have hkl : k < L.length := by rw [hk]; exact Nat.mod_lt _ hl0
      have hke : ((a : Int) % (L.length : Int)) = (k : Int) := by rw [hk]; exact (Int.natCast_emod _ _).symm
      have ha : a < 256 := by omega
      have hke2 : Int.tmod (a : Int) (L.length : Int) = (k : Int) := by rw [Int.tmod_eq_emod_of_nonneg (by omega), hke]
      -- the three lists
      have hmL : ∀ x ∈ L, x.size ≤ 1000 := fun x hx => by have := HSZ.out x hx; omega
      have hmT : ∀ x ∈ L.take k, x.size ≤ 1000 := fun x hx => hmL x (List.mem_of_mem_take hx)
      have hmD : ∀ x ∈ L.drop (k + 1), x.size ≤ 1000 := fun x hx => hmL x (List.mem_of_mem_drop hx)
      have hlt : (L.take k).length ≤ 1000 := by rw [List.length_take]; omega
      have hltk : (L.take k).length = k := by rw [List.length_take]; omega
      have hld : (L.drop (k + 1)).length ≤ 1000 := by rw [List.length_drop]; omega
      have hldk : (L.drop (k + 1)).length = L.length - (k + 1) := List.length_drop
      obtain ⟨v2, x2, r2, o2, g2⟩ := app_list (OwnB.nil wy.heap.size wy) (Nat.le_refl _) (some ⟨w1.heap.size, 0, none⟩) (L.take k) L.length (hT4.cut k) (by simp) hlt
      obtain ⟨v3, x3, r3, o3, g3⟩ := app_one o2 g2.size ⟨#[43]⟩ (by simp; omega)
      have g23 := g2.trans g3
      have hT3 := hT4.below g23
      obtain ⟨AR, hAR, hTR⟩ : ∃ AR, (k + 1 < L.length → AR = some ⟨w1.heap.size, k + 1, none⟩) ∧ (k + 1 = L.length → AR = some ⟨w1.heap.size, 0, none⟩) ∧ Txt x3 AR (L.drop (k + 1)) := by
        by_cases hk1 : k + 1 = L.length
        · refine ⟨some ⟨w1.heap.size, 0, none⟩, fun h => by omega, fun _ => rfl, ?_⟩
          rw [List.drop_eq_nil_of_le (by omega)]
          exact Txt.nil _ _
        · refine ⟨some ⟨w1.heap.size, k + 1, none⟩, fun _ => rfl, fun h => by omega, ?_⟩
          have := hT3.rest (k + 1)
          rwa [Nat.zero_add] at this
      obtain ⟨hAR2, hTR⟩ := hTR
      obtain ⟨v4, x4, r4, o4, g4⟩ := app_list o3 g23.size AR (L.drop (k + 1)) (L.length - (k + 1)) hTR (by simp; omega) hld
      have g24 := g23.trans g4
      have hT4b := hT4.below g24
      obtain ⟨v5, x5, r5, o5, g5⟩ := app_list (OwnB.nil x4.heap.size x4) (Nat.le_refl _) (some ⟨w1.heap.size, 0, none⟩) (L.take k) L.length (hT4b.cut k) (by simp) hlt
      obtain ⟨v6, x6, r6, o6, g6⟩ := app_one o5 g5.size ⟨#[35]⟩ (by simp; omega)
      have g56 := g5.trans g6
      have hT6 := hT4b.below g56
      rw [List.nil_append] at o3 o4 o6
      obtain ⟨P, hP⟩ : ∃ P, L.take k ++ [⟨#[43]⟩] ++ L.drop (k + 1) = P := ⟨_, rfl⟩
      obtain ⟨H, hH⟩ : ∃ H, L.take k ++ [⟨#[35]⟩] = H := ⟨_, rfl⟩
      rw [hP] at o4
      rw [hH] at o6
      have hPm : P.map (fun x => x.data.toList) = (lv n.data.toList).take k ++ [43] :: (lv n.data.toList).drop (k + 1) := by
        rw [← hP, ← HLL.out]; simp
      have hHm : H.map (fun x => x.data.toList) = (lv n.data.toList).take k ++ [[35]] := by
        rw [← hH, ← HLL.out]; simp
      have hkl2 : k < (lv n.data.toList).length := by rw [← HLL.out, List.length_map]; exact hkl
      have hwn : wt (lv n.data.toList) ≤ 301 := by
        have h := jn_len (lv_ne n.data.toList)
        rw [jn_lv, size_list] at h
        omega
      have hPw : wt (P.map fun x => x.data.toList) ≤ 303 := by
        have e1 := wt_part (lv n.data.toList) k
        have e2 := wt_drop (lv n.data.toList) k
        rw [hPm, wt_app]
        have e3 : wt ([43] :: (lv n.data.toList).drop (k + 1)) = 2 + wt ((lv n.data.toList).drop (k + 1)) := by simp [wt]
        omega
      have hHw : wt (H.map fun x => x.data.toList) ≤ 303 := by
        have e1 := wt_part (lv n.data.toList) k
        rw [hHm, wt_app]
        have e3 : wt [([35] : List UInt8)] = 2 := by simp [wt]
        omega
      have hPl : P.length ≤ 1000 := by rw [← hP]; simp; omega
      have hHl : H.length ≤ 1000 := by rw [← hH]; simp; omega
      have hPs : ∀ x ∈ P, x.size ≤ 1000 := by
        intro x hx
        rw [← hP] at hx
        simp only [List.mem_append, List.mem_singleton] at hx
        rcases hx with (hx | rfl) | hx
        · exact hmT x hx
        · decide
        · exact hmD x hx
      have hHs : ∀ x ∈ H, x.size ≤ 1000 := by
        intro x hx
        rw [← hH] at hx
        simp only [List.mem_append, List.mem_singleton] at hx
        rcases hx with hx | rfl
        · exact hmT x hx
        · decide
      have hPM := plus_match HNM.out hkl2
      have hHM := hash_match HNM.out hkl2
      rw [← hPm] at hPM
      rw [← hHm] at hHM
      obtain ⟨AP, cP, rfl, tP⟩ := (o4.below g56).form
      obtain ⟨AH, cH, rfl, tH⟩ := o6.form
      rw [hltk] at r2 r5
      rw [hldk] at r4
      have HR4a := Lib.hid (show k + 1 = L.length → (Builtin.append_ #[25, 25] 25 #[v3, .slice (some ⟨w1.heap.size, 0, none⟩) 0 0]).run Tryd.prog x3 = .ok (.slice AP P.length cP) x4 by
        intro h
        rw [hAR2 h, show L.length - (k + 1) = 0 by omega] at r4
        exact r4)
      have HR4b := Lib.hid (show k + 1 < L.length → (Builtin.append_ #[25, 25] 25 #[v3, .slice (some ⟨w1.heap.size, k + 1, none⟩) (L.length - (k + 1)) (L.length - (k + 1))]).run Tryd.prog x3 = .ok (.slice AP P.length cP) x4 by
        intro h
        rw [hAR h] at r4
        exact r4)
      have HR2 := Lib.hid r2
      have HR3 := Lib.hid r3
      have HR5 := Lib.hid r5
      have HR6 := Lib.hid r6
      have HTP := Lib.hid tP
      have HTH := Lib.hid tH
      have HPS := Lib.hid hPs
      have HHS := Lib.hid hHs
      have HPW := Lib.hid hPw
      have HHW := Lib.hid hHw
      have HPM := Lib.hid hPM
      have HHM := Lib.hid hHM
      have HB6 := Lib.hid (HB4.out.trans ((g24.trans (g56.mono g24.size)).mono HB4.out.size))
      have HT6 := Lib.hid hT6
      have hPne : P ≠ [] := by rw [← hP]; simp
      have hHne : H ≠ [] := by rw [← hH]; simp
      have HPne := Lib.hid hPne
      have HHne := Lib.hid hHne
      have HAR1 := Lib.hid hAR
      have HAR2 := Lib.hid hAR2
      obtain ⟨c, nr, hcn⟩ : ∃ c nr, n.data.toList = c :: nr := List.exists_cons_of_ne_nil (nameL HNM.out).ne
      have hn0 : 0 < n.size := by have := size_list n; rw [hcn, List.length_cons] at this; omega
      have hc0 : n[0]'hn0 = c := by
        have : n.data.toList[0]'(by rw [size_list]; exact hn0) = c := by simp [hcn]
        simp at this
        exact this
      have hc36 := bt_int c 36 36 rfl
      have HFR := Lib.hid (show free k n.data.toList = (decide (0 < k) || !decide (c = 36)) by rw [hcn]; simp [free])
      clear r2 r3 r4 r5 r6 tP tH hPs hHs hPw hHw hPM hHM o2 o3 o5 o4 o6 g2 g3 g4 g5 g6 g23 hT3 hTR hT4b hT6 hmL hmT hmD hP hH hPm hHm hkl2 hwn hlt hld hPne hHne hAR hAR2 hcn hk hT4
      go_upto_region 9 with (fail)
      go_cut [9] (fun x wx => x = .bool (free k n.data.toList) ∧ wx = wy)
      case first =>
        by_cases hk0 : 0 < k
        · have HF2 := Lib.hid (show free k n.data.toList = true by rw [HFR.out]; simp [hk0])
          have hk0' : (0 : Int) < (k : Int) := by omega
          go_wp2_with fail
          go_meet
          exact ⟨by rw [HF2.out], rfl⟩
        · obtain rfl : k = 0 := by omega
          by_cases hc : c = 36
          · subst hc
            have HF2 := Lib.hid (show free 0 n.data.toList = false by rw [HFR.out]; simp)
            go_wp2_with fail
            go_meet
            exact ⟨by rw [HF2.out], rfl⟩
          · have HF2 := Lib.hid (show free 0 n.data.toList = true by rw [HFR.out]; simp [hc])
            have hc36b : (((c.toNat : Int) != 36)) = true := by rw [hc36]; simp [hc]
            clear hc36 hc
            go_wp2_with fail
            go_meet
            exact ⟨by rw [HF2.out], rfl⟩
      case rest =>
        obtain ⟨rfl, hwx⟩ := hcut
        generalize free k n.data.toList = fr at *
        subst hwx
        go_upto_region 11 with (fail)
        go_upto_region 12 with (at_builtin; refine wpList_append_eq rfl _ _ _ rfl rfl rfl HR2.out ?_)
        go_upto_region 13 with (at_builtin; refine wpList_append_eq rfl _ _ _ rfl rfl rfl HR3.out ?_)
        go_cut [10] (fun x wx => x = .slice AP P.length cP ∧ wx = x4)
        case first =>
          by_cases hk1 : k + 1 = L.length
          · have HR4 := Lib.hid (HR4a.out hk1)
            have hk1' : (k : Int) + 1 = (L.length : Int) := by omega
            have HK1 := Lib.hid hk1
            clear hk1
            go_wp2_with (at_builtin; refine wpList_append_eq rfl _ _ _ rfl rfl rfl HR4.out ?_)
            go_meet
            exact ⟨rfl, rfl⟩
          · have hk2 : k + 1 < L.length := by omega
            have HR4 := Lib.hid (HR4b.out hk2)
            have hk3 : (L.length == k + 1) = false := by rw [beq_eq_false_iff_ne]; omega
            clear hk1
            go_wp2_with (at_builtin; refine wpList_append_eq rfl _ _ _ rfl rfl rfl HR4.out ?_)
            go_meet
            exact ⟨rfl, rfl⟩
        case rest =>
          obtain ⟨rfl, hwx⟩ := hcut
          subst hwx
          go_upto_region 14 with (fail)
          go_upto_region 15 with (at_builtin; refine wpList_append_eq rfl _ _ _ rfl rfl rfl HR5.out ?_)
          go_upto_region 16 with (at_builtin; refine wpList_append_eq rfl _ _ _ rfl rfl rfl HR6.out ?_)
          have HJP := Lib.hid (fun W (hb : Below x6.heap.size x6 W) => join_any W AP P cP (HTP.out.below hb) hPl HPS.out)
          have HJH := Lib.hid (fun W (hb : Below x6.heap.size x6 W) => join_any W AH H cH (HTH.out.below hb) hHl HHS.out)
          have HJPA := Lib.hid (HJP.out x6 (Below.refl _ _))
          go_wp2_with fail
          refine HJPA.out.mono ?_
          rintro e w7 ⟨⟨r, rfl, hr, -⟩, rfl⟩
          have hrz : r.size ≤ 60000 := by
            have := jn_len (t := P.map fun x => x.data.toList) (by intro e; exact HPne.out (List.map_eq_nil_iff.1 e))
            rw [len_size hr]; have := HPW.out; omega
          have hma := match_any r n x6 hrz (by omega) (HE.out.below HB6.out)
          rw [hr, HPM.out] at hma
          have HMA := Lib.hid hma
          clear hma hr hrz HJPA
          go_wp2_with fail
          refine HMA.out.mono ?_
          rintro e w8 ⟨rfl, hb8⟩
          have HB68 := Lib.hid hb8
          have HJHA := Lib.hid (HJH.out w8 hb8)
          clear hb8 HMA
          go_wp2_with fail
          refine HJHA.out.mono ?_
          rintro e w9 ⟨⟨r2, rfl, hr, -⟩, rfl⟩
          have hrz : r2.size ≤ 60000 := by
            have := jn_len (t := H.map fun x => x.data.toList) (by intro e; exact HHne.out (List.map_eq_nil_iff.1 e))
            rw [len_size hr]; have := HHW.out; omega
          have hma := match_any r2 n w8 hrz (by omega) (HE.out.below (HB6.out.trans (HB68.out.mono HB6.out.size)))
          rw [hr, HHM.out] at hma
          have HMA := Lib.hid hma
          clear hma hr hrz HJHA
          go_wp2_with fail
          refine HMA.out.mono ?_
          rintro e w10 ⟨rfl, hb10⟩
          have HB610 := Lib.hid (HB68.out.trans (hb10.mono HB68.out.size))
          have HBW := Lib.hid (HB6.out.trans ((HB68.out.trans (hb10.mono HB68.out.size)).mono HB6.out.size))
          have hT10 := HT6.out.below (HB68.out.trans (hb10.mono HB68.out.size))
          clear hb10 HMA HJP HJH
          have hba : Below w10.heap.size w10 (w10.alloc (.cells #[] 9)) := (Below.refl _ _).alloc (Nat.le_refl _) _
          have hown0 : OwnB w10.heap.size (w10.alloc (.cells #[] 9)) (.slice (some ⟨w10.heap.size, 0, none⟩) 0 0) [] :=
            ⟨by simpa using World.ownsRow_lit (base := 0) (e := 9) (size := 1) w10 #[] 0 (Nat.zero_le _) (Nat.zero_le _) rfl, by intro g hg; simp [Value.ownBlock] at hg; omega⟩
          obtain ⟨v11, x11, r11, o11, g11⟩ := app_list hown0 (by simp) (some ⟨w1.heap.size, 0, none⟩) L L.length (hT10.below hba) (by simp) (by omega)
          obtain ⟨v12, x12, r12, o12, g12⟩ := app_one o11 (Nat.le_trans hba.size g11.size) ⟨#[35]⟩ (by simp; omega)
          rw [List.nil_append] at o12
          have hGm : (L ++ [(⟨#[35]⟩ : ByteArray)]).map (fun x => x.data.toList) = lv n.data.toList ++ [[35]] := by rw [List.map_append, HLL.out]; rfl
          have hGl : (L ++ [(⟨#[35]⟩ : ByteArray)]).length ≤ 1000 := by simp; omega
          have hGs : ∀ x ∈ L ++ [(⟨#[35]⟩ : ByteArray)], x.size ≤ 1000 := by
            intro x hx
            rcases List.mem_append.1 hx with hx | hx
            · have := HSZ.out x hx; omega
            · rw [List.mem_singleton.1 hx]; decide
          have hLM := fun h => long_match HNM.out h
          rw [← hGm] at hLM
          have hL32 : (lv n.data.toList).length = L.length := by rw [← HLL.out, List.length_map]
          have hwn : wt (lv n.data.toList) ≤ 301 := by
            have h := jn_len (lv_ne n.data.toList)
            rw [jn_lv, size_list] at h
            omega
          have hGw : wt ((L ++ [(⟨#[35]⟩ : ByteArray)]).map fun x => x.data.toList) ≤ 303 := by
            rw [hGm, wt_app]
            have e3 : wt [([35] : List UInt8)] = 2 := by simp [wt]
            omega
          rw [hL32] at hLM
          have hGne : L ++ [(⟨#[35]⟩ : ByteArray)] ≠ [] := by simp
          generalize L ++ [(⟨#[35]⟩ : ByteArray)] = G at *
          obtain ⟨AG, cG, rfl, tG⟩ := o12.form
          have HLM := Lib.hid hLM
          have HGW := Lib.hid hGw
          have HGNE := Lib.hid hGne
          have HR11 := Lib.hid r11
          have HR12 := Lib.hid r12
          have hb12 : Below w10.heap.size w10 x12 := hba.trans (g11.trans g12)
          have HB12 := Lib.hid (HBW.out.trans (hb12.mono HBW.out.size))
          have HJG := Lib.hid (join_any x12 AG G cG tG hGl hGs)
          clear hba hown0 r11 r12 o11 o12 g11 g12 hGm hLM hL32 hwn hGw hGne hb12 tG hGs hT10
          go_upto_region 18 with (fail)
          go_wp2_with (first
            | (at_builtin; (with_reducible show wpList _ _ _ _ _ (World.alloc w10 _)); refine wpList_append_eq rfl _ _ _ rfl rfl rfl HR11.out ?_)
            | (at_builtin; (with_reducible show wpList _ _ _ _ _ (World.alloc x11 _)); refine wpList_append_eq rfl _ _ _ rfl rfl rfl HR12.out ?_)
            | fail)
          refine HJG.out.mono ?_
          rintro e w11 ⟨⟨r3, rfl, hr, -⟩, rfl⟩
          have hrz : r3.size ≤ 60000 := by
            have := jn_len (t := G.map fun x => x.data.toList) (by intro e; exact HGNE.out (List.map_eq_nil_iff.1 e))
            rw [len_size hr]; have := HGW.out; omega
          have hma := match_any r3 n x12 hrz (by omega) (HE.out.below HB12.out)
          rw [hr] at hma
          have HMA := Lib.hid hma
          have HAW := Lib.hid (awake_any x12 (HE.out.below HB12.out))
          clear hma hr hrz HJG
          by_cases h32 : L.length = 32
          · have h32' : ((L.length : Int) == 32) = true := by rw [h32]; rfl
            have H32 := Lib.hid h32
            clear h32
            go_wp2_with fail
            refine HAW.out.mono ?_
            rintro e w12 ⟨rfl, hb⟩
            have HBZ := Lib.hid (HB12.out.trans (hb.mono HB12.out.size))
            clear hb
            go_wp2_with fail
            go_ret
            exact ⟨rfl, HBZ.out⟩
          · have h32' : ((L.length : Int) == 32) = false := by rw [beq_eq_false_iff_ne]; omega
            have hm2 := HMA.out
            rw [HLM.out h32] at hm2
            have HM2 := Lib.hid hm2
            clear h32 hm2 HMA
            go_wp2_with fail
            refine HM2.out.mono ?_
            rintro e w12 ⟨rfl, hb⟩
            have HBY := Lib.hid (HB12.out.trans (hb.mono HB12.out.size))
            have HAW2 := Lib.hid (awake_any w12 (HE.out.below (HB12.out.trans (hb.mono HB12.out.size))))
            clear hb
            go_wp2_with fail
            refine HAW2.out.mono ?_
            rintro e w13 ⟨rfl, hb⟩
            have HBZ := Lib.hid (HBY.out.trans (hb.mono HBY.out.size))
            clear hb
            go_wp2_with fail
            go_ret
            exact ⟨rfl, HBZ.out⟩
end Go.Proofs.YtnognmnjlnokeaaDoor.TopW
