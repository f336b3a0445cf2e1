/- ShareKeys: the walk. -/
import Derived.Test.YtnognmnjlnokeaaDoorShaB
import Derived.Test.YtnognmnjlnokeaaDoorCls
import Derived.Test.YtnognmnjlnokeaaDoorTopY
set_option linter.unusedVariables false
set_option linter.unusedSimpArgs false
namespace Go.Proofs.YtnognmnjlnokeaaDoor.TopW
open Go.RowKit Go.Proofs.YtnognmnjlnokeaaDoor.Tc Go.Proofs.YtnognmnjlnokeaaDoor.TopP

theorem first_of {l : List UInt8} (h : (47 : UInt8) ∈ l) : ∃ a b, l = a ++ 47 :: b ∧ 47 ∉ a := by
  induction l with
  | nil => simp at h
  | cons c r ih =>
    by_cases hc : c = 47
    · subst hc; exact ⟨[], r, rfl, by simp⟩
    · obtain ⟨a, b, e, hn⟩ := ih (by simpa [Ne.symm hc] using h)
      exact ⟨c :: a, b, by rw [e]; rfl, by simp [Ne.symm hc, hn]⟩
theorem bs_eq (a b : ByteArray) : (a.toList == b.toList) = decide (a = b) := by
  rw [str_is, Lib.toList_data, decide_eq_decide]
  exact ⟨fun h => ByteArray.ext (Array.toList_inj.1 h), fun h => by rw [h]⟩
theorem filter_nil : isFilter [] = false := by decide
/-- What is told as shared. -/
theorem parse_shared {s : ByteArray} {g f : ByteArray} {ok : Bool} (h : parse s = (⟨true, g, f⟩, ok)) :
    ok = true ∧ isFilter s.data.toList = true ∧ isName g.data.toList = true ∧ 47 ∉ g.data.toList ∧ isFilter f.data.toList = true ∧ s = ofL root ++ (g ++ ⟨#[47]⟩ ++ f) := by
  unfold parse at h
  by_cases h1 : isFilter s.data.toList = true
  · rw [if_pos h1] at h
    by_cases h2 : Lib.hasPrefix s.data.toList root = true
    · rw [if_pos h2] at h
      by_cases h3 : (isName (part (s.data.toList.drop 7)).1 && isFilter (part (s.data.toList.drop 7)).2) = true
      · rw [if_pos h3] at h
        simp only [Prod.mk.injEq, Sh.mk.injEq, true_and] at h
        obtain ⟨⟨hg, hf⟩, rfl⟩ := h
        rw [Bool.and_eq_true] at h3
        have hp : s.data.toList = root ++ s.data.toList.drop 7 := by
          have h4 : root.isPrefixOf s.data.toList = true := h2
          rw [List.isPrefixOf_iff_prefix] at h4
          obtain ⟨r, hr⟩ := h4
          rw [← hr]
          rfl
        by_cases h5 : (47 : UInt8) ∈ s.data.toList.drop 7
        · obtain ⟨a, b, hab, ha⟩ := first_of h5
          have hc : part (s.data.toList.drop 7) = (a, b) := by unfold part; rw [hab, cut_yes b ha]
          rw [hc] at h3 hg hf
          simp only at h3 hg hf
          subst hg hf
          refine ⟨rfl, h1, h3.1, ha, h3.2, ?_⟩
          apply ByteArray.ext
          apply Array.toList_inj.1
          rw [hp, hab]
          simp [ofL]
        · have hc : part (s.data.toList.drop 7) = (s.data.toList.drop 7, []) := by unfold part; rw [cut_no h5]
          rw [hc] at h3
          simp only at h3
          rw [filter_nil] at h3
          exact absurd h3.2 (by decide)
      · rw [if_neg h3] at h
        simp [Sh.none] at h
    · rw [if_neg h2] at h
      simp at h
  · rw [if_neg h1] at h
    simp [Sh.none] at h
/-- The keys of two shared filters are the same just if they are. -/
theorem keys_same {s t g f g' f' : ByteArray} {ok is : Bool} (h : parse s = (⟨true, g, f⟩, ok)) (h' : parse t = (⟨true, g', f'⟩, is)) :
    ((g ++ ⟨#[47]⟩ ++ f).toList == (g' ++ ⟨#[47]⟩ ++ f').toList) = (s.toList == t.toList) := by
  obtain ⟨-, -, -, -, -, rfl⟩ := parse_shared h
  obtain ⟨-, -, -, -, -, rfl⟩ := parse_shared h'
  generalize g ++ ⟨#[47]⟩ ++ f = a
  generalize g' ++ ⟨#[47]⟩ ++ f' = b
  rw [bs_eq, bs_eq, decide_eq_decide]
  constructor
  · intro e; rw [e]
  · intro e
    have h1 := congrArg (fun x : ByteArray => x.data.toList) e
    simp only [ByteArray.data_append, Array.toList_append, List.append_cancel_left_eq] at h1
    apply ByteArray.ext
    exact Array.toList_inj.1 h1
theorem parse_size {s : ByteArray} {x : Sh} {ok : Bool} (h : parse s = (x, ok)) (hs : s.size ≤ 300) : x.group.size ≤ 60000 ∧ x.filter.size ≤ 60000 := by
  obtain ⟨sh, g, f⟩ := x
  cases sh with
  | true =>
    obtain ⟨-, -, -, -, -, rfl⟩ := parse_shared h
    simp only [ByteArray.size_append] at hs
    simp only
    omega
  | false =>
    have h9 := h
    unfold parse at h9
    split at h9
    · split at h9
      · split at h9
        · simp at h9
        · simp [Sh.none] at h9
          obtain ⟨⟨rfl, rfl⟩, -⟩ := h9
          exact ⟨by decide, by decide⟩
      · simp at h9
        obtain ⟨⟨rfl, rfl⟩, -⟩ := h9
        exact ⟨(by decide : (0 : Nat) ≤ 60000), by show s.size ≤ 60000; omega⟩
    · simp [Sh.none] at h9
      obtain ⟨⟨rfl, rfl⟩, -⟩ := h9
      exact ⟨by decide, by decide⟩
set_option maxRecDepth 100000 in
set_option maxHeartbeats 4000000 in
theorem keys_law (w : World) (s t : ByteArray) (hs' : s.size ≤ 140737488351232) (ht' : t.size ≤ 140737488351232) (hE : Env w) : Calls Tryd.prog 9 #[.string s, .string t] w fun e w' => e = .returned (.bool true) ∧ Below w.heap.size w w' := by
  have HE := Lib.hid hE
  clear hE
  by_cases h1 : 300 < s.size
  · go_enter Tryd.func9, Tryd.ntmps9
    go_wp2_with fail
    refine (sawake_any _ HE.out).mono ?_
    rintro e wz ⟨rfl, hbz⟩
    have HBZ := Lib.hid (hbz)
    clear hbz
    go_wp2_with fail
    go_ret
    exact ⟨rfl, HBZ.out⟩
  by_cases h2 : 300 < t.size
  · go_enter Tryd.func9, Tryd.ntmps9
    go_wp2_with fail
    refine (sawake_any _ HE.out).mono ?_
    rintro e wz ⟨rfl, hbz⟩
    have HBZ := Lib.hid (hbz)
    clear hbz
    go_wp2_with fail
    go_ret
    exact ⟨rfl, HBZ.out⟩
  obtain ⟨⟨⟨xs, xg, xf⟩, ok⟩, hx⟩ : ∃ r, parse s = r := ⟨_, rfl⟩
  obtain ⟨⟨⟨ys, yg, yf⟩, is_⟩, hy⟩ : ∃ r, parse t = r := ⟨_, rfl⟩
  cases ok with
  | false =>
    have HY := Lib.hid hy
    have HX := Lib.hid hx
    clear hx hy
    go_enter Tryd.func9, Tryd.ntmps9
    go_wp2_with fail
    refine (parse_at s ⟨xs, xg, xf⟩ false _ (by omega) HE.out HX.out).mono ?_
    rintro e w1 ⟨rfl, hb⟩
    have hb1 := alloc_below w1 (.cells #[.bool xs, .string xg, .string xf] 31)
    have HZ := Lib.hid (heap_alloc_new w1 (.cells #[.bool xs, .string xg, .string xf] 31))
    have HB1 := Lib.hid (hb.trans (hb1.mono hb.size))
    have hs1 : (w1.alloc (.cells #[.bool xs, .string xg, .string xf] 31)).heap.size = w1.heap.size + 1 := by simp
    have HS1 := Lib.hid hs1
    have HE1 := Lib.hid (HE.out.below (hb.trans (hb1.mono hb.size)))
    clear hb hb1 hs1
    go_wp2_with fail
    refine (parse_at t ⟨ys, yg, yf⟩ is_ _ (by omega) HE1.out HY.out).mono ?_
    rintro e w2 ⟨rfl, hb⟩
    have HCL := Lib.hid (show ∀ W, Below w2.heap.size w2 W → W.cell? ⟨w1.heap.size, 0, none⟩ = some (.bool xs) ∧ W.cell? ⟨w1.heap.size, 1, none⟩ = some (.string xg) ∧ W.cell? ⟨w1.heap.size, 2, none⟩ = some (.string xf) by
      intro W hW
      have h1 := (hb.block w1.heap.size (by rw [HS1.out]; omega)).trans HZ.out
      have h2 := (hW.block w1.heap.size (lt_of_block h1)).trans h1
      exact ⟨cell_of h2 rfl, cell_of h2 rfl, cell_of h2 rfl⟩)
    have HB2 := Lib.hid (HB1.out.trans (hb.mono HB1.out.size))
    have hbx := alloc_below w2 (.cells #[.bool ys, .string yg, .string yf] 31)
    have HCY := Lib.hid (show ∀ W, Below (w2.alloc (.cells #[.bool ys, .string yg, .string yf] 31)).heap.size (w2.alloc (.cells #[.bool ys, .string yg, .string yf] 31)) W → W.cell? ⟨w2.heap.size, 0, none⟩ = some (.bool ys) ∧ W.cell? ⟨w2.heap.size, 1, none⟩ = some (.string yg) ∧ W.cell? ⟨w2.heap.size, 2, none⟩ = some (.string yf) by
      intro W hW
      have h1 := heap_alloc_new w2 (.cells #[.bool ys, .string yg, .string yf] 31)
      have h2 := (hW.block w2.heap.size (lt_of_block h1)).trans h1
      exact ⟨cell_of h2 rfl, cell_of h2 rfl, cell_of h2 rfl⟩)
    obtain ⟨c0, c1, c2⟩ := HCL.out _ hbx
    obtain ⟨d0, d1, d2⟩ := HCY.out _ (Below.refl _ _)
    have HB3 := Lib.hid (HB2.out.trans (hbx.mono HB2.out.size))
    have HBX := Lib.hid hbx
    have HE3 := Lib.hid (HE.out.below HB3.out)
    clear hb hbx
    go_wp2_with fail
    refine (sawake_any _ HE3.out).mono ?_
    rintro e wz ⟨rfl, hbz⟩
    have HBZ := Lib.hid (HB3.out.trans (hbz.mono HB3.out.size))
    clear hbz
    go_wp2_with fail
    go_ret
    exact ⟨rfl, HBZ.out⟩
  | true =>
  cases is_ with
  | false =>
    have HY := Lib.hid hy
    have HX := Lib.hid hx
    clear hx hy
    go_enter Tryd.func9, Tryd.ntmps9
    go_wp2_with fail
    refine (parse_at s ⟨xs, xg, xf⟩ true _ (by omega) HE.out HX.out).mono ?_
    rintro e w1 ⟨rfl, hb⟩
    have hb1 := alloc_below w1 (.cells #[.bool xs, .string xg, .string xf] 31)
    have HZ := Lib.hid (heap_alloc_new w1 (.cells #[.bool xs, .string xg, .string xf] 31))
    have HB1 := Lib.hid (hb.trans (hb1.mono hb.size))
    have hs1 : (w1.alloc (.cells #[.bool xs, .string xg, .string xf] 31)).heap.size = w1.heap.size + 1 := by simp
    have HS1 := Lib.hid hs1
    have HE1 := Lib.hid (HE.out.below (hb.trans (hb1.mono hb.size)))
    clear hb hb1 hs1
    go_wp2_with fail
    refine (parse_at t ⟨ys, yg, yf⟩ false _ (by omega) HE1.out HY.out).mono ?_
    rintro e w2 ⟨rfl, hb⟩
    have HCL := Lib.hid (show ∀ W, Below w2.heap.size w2 W → W.cell? ⟨w1.heap.size, 0, none⟩ = some (.bool xs) ∧ W.cell? ⟨w1.heap.size, 1, none⟩ = some (.string xg) ∧ W.cell? ⟨w1.heap.size, 2, none⟩ = some (.string xf) by
      intro W hW
      have h1 := (hb.block w1.heap.size (by rw [HS1.out]; omega)).trans HZ.out
      have h2 := (hW.block w1.heap.size (lt_of_block h1)).trans h1
      exact ⟨cell_of h2 rfl, cell_of h2 rfl, cell_of h2 rfl⟩)
    have HB2 := Lib.hid (HB1.out.trans (hb.mono HB1.out.size))
    have hbx := alloc_below w2 (.cells #[.bool ys, .string yg, .string yf] 31)
    have HCY := Lib.hid (show ∀ W, Below (w2.alloc (.cells #[.bool ys, .string yg, .string yf] 31)).heap.size (w2.alloc (.cells #[.bool ys, .string yg, .string yf] 31)) W → W.cell? ⟨w2.heap.size, 0, none⟩ = some (.bool ys) ∧ W.cell? ⟨w2.heap.size, 1, none⟩ = some (.string yg) ∧ W.cell? ⟨w2.heap.size, 2, none⟩ = some (.string yf) by
      intro W hW
      have h1 := heap_alloc_new w2 (.cells #[.bool ys, .string yg, .string yf] 31)
      have h2 := (hW.block w2.heap.size (lt_of_block h1)).trans h1
      exact ⟨cell_of h2 rfl, cell_of h2 rfl, cell_of h2 rfl⟩)
    obtain ⟨c0, c1, c2⟩ := HCL.out _ hbx
    obtain ⟨d0, d1, d2⟩ := HCY.out _ (Below.refl _ _)
    have HB3 := Lib.hid (HB2.out.trans (hbx.mono HB2.out.size))
    have HBX := Lib.hid hbx
    have HE3 := Lib.hid (HE.out.below HB3.out)
    clear hb hbx
    go_wp2_with fail
    refine (sawake_any _ HE3.out).mono ?_
    rintro e wz ⟨rfl, hbz⟩
    have HBZ := Lib.hid (HB3.out.trans (hbz.mono HB3.out.size))
    clear hbz
    go_wp2_with fail
    go_ret
    exact ⟨rfl, HBZ.out⟩
  | true =>
  cases xs with
  | false =>
    have HY := Lib.hid hy
    have HX := Lib.hid hx
    clear hx hy
    go_enter Tryd.func9, Tryd.ntmps9
    go_wp2_with fail
    refine (parse_at s ⟨false, xg, xf⟩ true _ (by omega) HE.out HX.out).mono ?_
    rintro e w1 ⟨rfl, hb⟩
    have hb1 := alloc_below w1 (.cells #[.bool false, .string xg, .string xf] 31)
    have HZ := Lib.hid (heap_alloc_new w1 (.cells #[.bool false, .string xg, .string xf] 31))
    have HB1 := Lib.hid (hb.trans (hb1.mono hb.size))
    have hs1 : (w1.alloc (.cells #[.bool false, .string xg, .string xf] 31)).heap.size = w1.heap.size + 1 := by simp
    have HS1 := Lib.hid hs1
    have HE1 := Lib.hid (HE.out.below (hb.trans (hb1.mono hb.size)))
    clear hb hb1 hs1
    go_wp2_with fail
    refine (parse_at t ⟨ys, yg, yf⟩ true _ (by omega) HE1.out HY.out).mono ?_
    rintro e w2 ⟨rfl, hb⟩
    have HCL := Lib.hid (show ∀ W, Below w2.heap.size w2 W → W.cell? ⟨w1.heap.size, 0, none⟩ = some (.bool false) ∧ W.cell? ⟨w1.heap.size, 1, none⟩ = some (.string xg) ∧ W.cell? ⟨w1.heap.size, 2, none⟩ = some (.string xf) by
      intro W hW
      have h1 := (hb.block w1.heap.size (by rw [HS1.out]; omega)).trans HZ.out
      have h2 := (hW.block w1.heap.size (lt_of_block h1)).trans h1
      exact ⟨cell_of h2 rfl, cell_of h2 rfl, cell_of h2 rfl⟩)
    have HB2 := Lib.hid (HB1.out.trans (hb.mono HB1.out.size))
    have hbx := alloc_below w2 (.cells #[.bool ys, .string yg, .string yf] 31)
    have HCY := Lib.hid (show ∀ W, Below (w2.alloc (.cells #[.bool ys, .string yg, .string yf] 31)).heap.size (w2.alloc (.cells #[.bool ys, .string yg, .string yf] 31)) W → W.cell? ⟨w2.heap.size, 0, none⟩ = some (.bool ys) ∧ W.cell? ⟨w2.heap.size, 1, none⟩ = some (.string yg) ∧ W.cell? ⟨w2.heap.size, 2, none⟩ = some (.string yf) by
      intro W hW
      have h1 := heap_alloc_new w2 (.cells #[.bool ys, .string yg, .string yf] 31)
      have h2 := (hW.block w2.heap.size (lt_of_block h1)).trans h1
      exact ⟨cell_of h2 rfl, cell_of h2 rfl, cell_of h2 rfl⟩)
    obtain ⟨c0, c1, c2⟩ := HCL.out _ hbx
    obtain ⟨d0, d1, d2⟩ := HCY.out _ (Below.refl _ _)
    have HB3 := Lib.hid (HB2.out.trans (hbx.mono HB2.out.size))
    have HBX := Lib.hid hbx
    have HE3 := Lib.hid (HE.out.below HB3.out)
    clear hb hbx
    go_wp2_with fail
    refine (sawake_any _ HE3.out).mono ?_
    rintro e wz ⟨rfl, hbz⟩
    have HBZ := Lib.hid (HB3.out.trans (hbz.mono HB3.out.size))
    clear hbz
    go_wp2_with fail
    go_ret
    exact ⟨rfl, HBZ.out⟩
  | true =>
  cases ys with
  | false =>
    have HY := Lib.hid hy
    have HX := Lib.hid hx
    clear hx hy
    go_enter Tryd.func9, Tryd.ntmps9
    go_wp2_with fail
    refine (parse_at s ⟨true, xg, xf⟩ true _ (by omega) HE.out HX.out).mono ?_
    rintro e w1 ⟨rfl, hb⟩
    have hb1 := alloc_below w1 (.cells #[.bool true, .string xg, .string xf] 31)
    have HZ := Lib.hid (heap_alloc_new w1 (.cells #[.bool true, .string xg, .string xf] 31))
    have HB1 := Lib.hid (hb.trans (hb1.mono hb.size))
    have hs1 : (w1.alloc (.cells #[.bool true, .string xg, .string xf] 31)).heap.size = w1.heap.size + 1 := by simp
    have HS1 := Lib.hid hs1
    have HE1 := Lib.hid (HE.out.below (hb.trans (hb1.mono hb.size)))
    clear hb hb1 hs1
    go_wp2_with fail
    refine (parse_at t ⟨false, yg, yf⟩ true _ (by omega) HE1.out HY.out).mono ?_
    rintro e w2 ⟨rfl, hb⟩
    have HCL := Lib.hid (show ∀ W, Below w2.heap.size w2 W → W.cell? ⟨w1.heap.size, 0, none⟩ = some (.bool true) ∧ W.cell? ⟨w1.heap.size, 1, none⟩ = some (.string xg) ∧ W.cell? ⟨w1.heap.size, 2, none⟩ = some (.string xf) by
      intro W hW
      have h1 := (hb.block w1.heap.size (by rw [HS1.out]; omega)).trans HZ.out
      have h2 := (hW.block w1.heap.size (lt_of_block h1)).trans h1
      exact ⟨cell_of h2 rfl, cell_of h2 rfl, cell_of h2 rfl⟩)
    have HB2 := Lib.hid (HB1.out.trans (hb.mono HB1.out.size))
    have hbx := alloc_below w2 (.cells #[.bool false, .string yg, .string yf] 31)
    have HCY := Lib.hid (show ∀ W, Below (w2.alloc (.cells #[.bool false, .string yg, .string yf] 31)).heap.size (w2.alloc (.cells #[.bool false, .string yg, .string yf] 31)) W → W.cell? ⟨w2.heap.size, 0, none⟩ = some (.bool false) ∧ W.cell? ⟨w2.heap.size, 1, none⟩ = some (.string yg) ∧ W.cell? ⟨w2.heap.size, 2, none⟩ = some (.string yf) by
      intro W hW
      have h1 := heap_alloc_new w2 (.cells #[.bool false, .string yg, .string yf] 31)
      have h2 := (hW.block w2.heap.size (lt_of_block h1)).trans h1
      exact ⟨cell_of h2 rfl, cell_of h2 rfl, cell_of h2 rfl⟩)
    obtain ⟨c0, c1, c2⟩ := HCL.out _ hbx
    obtain ⟨d0, d1, d2⟩ := HCY.out _ (Below.refl _ _)
    have HB3 := Lib.hid (HB2.out.trans (hbx.mono HB2.out.size))
    have HBX := Lib.hid hbx
    have HE3 := Lib.hid (HE.out.below HB3.out)
    clear hb hbx
    go_wp2_with fail
    refine (sawake_any _ HE3.out).mono ?_
    rintro e wz ⟨rfl, hbz⟩
    have HBZ := Lib.hid (HB3.out.trans (hbz.mono HB3.out.size))
    clear hbz
    go_wp2_with fail
    go_ret
    exact ⟨rfl, HBZ.out⟩
  | true =>
    have hk := keys_same hx hy
    obtain ⟨xz, xz2⟩ := parse_size hx (by omega)
    obtain ⟨yz, yz2⟩ := parse_size hy (by omega)
    have HKX := Lib.hid (fun W => key_any ⟨true, xg, xf⟩ W xz xz2)
    have HKY := Lib.hid (fun W => key_any ⟨true, yg, yf⟩ W yz yz2)
    unfold Sh.val at HKX HKY
    dsimp only at HKX HKY
    clear xz xz2 yz yz2
    
    have HY := Lib.hid hy
    have HX := Lib.hid hx
    clear hx hy
    go_enter Tryd.func9, Tryd.ntmps9
    go_wp2_with fail
    refine (parse_at s ⟨true, xg, xf⟩ true _ (by omega) HE.out HX.out).mono ?_
    rintro e w1 ⟨rfl, hb⟩
    have hb1 := alloc_below w1 (.cells #[.bool true, .string xg, .string xf] 31)
    have HZ := Lib.hid (heap_alloc_new w1 (.cells #[.bool true, .string xg, .string xf] 31))
    have HB1 := Lib.hid (hb.trans (hb1.mono hb.size))
    have hs1 : (w1.alloc (.cells #[.bool true, .string xg, .string xf] 31)).heap.size = w1.heap.size + 1 := by simp
    have HS1 := Lib.hid hs1
    have HE1 := Lib.hid (HE.out.below (hb.trans (hb1.mono hb.size)))
    clear hb hb1 hs1
    go_wp2_with fail
    refine (parse_at t ⟨true, yg, yf⟩ true _ (by omega) HE1.out HY.out).mono ?_
    rintro e w2 ⟨rfl, hb⟩
    have HCL := Lib.hid (show ∀ W, Below w2.heap.size w2 W → W.cell? ⟨w1.heap.size, 0, none⟩ = some (.bool true) ∧ W.cell? ⟨w1.heap.size, 1, none⟩ = some (.string xg) ∧ W.cell? ⟨w1.heap.size, 2, none⟩ = some (.string xf) by
      intro W hW
      have h1 := (hb.block w1.heap.size (by rw [HS1.out]; omega)).trans HZ.out
      have h2 := (hW.block w1.heap.size (lt_of_block h1)).trans h1
      exact ⟨cell_of h2 rfl, cell_of h2 rfl, cell_of h2 rfl⟩)
    have HB2 := Lib.hid (HB1.out.trans (hb.mono HB1.out.size))
    have hbx := alloc_below w2 (.cells #[.bool true, .string yg, .string yf] 31)
    have HCY := Lib.hid (show ∀ W, Below (w2.alloc (.cells #[.bool true, .string yg, .string yf] 31)).heap.size (w2.alloc (.cells #[.bool true, .string yg, .string yf] 31)) W → W.cell? ⟨w2.heap.size, 0, none⟩ = some (.bool true) ∧ W.cell? ⟨w2.heap.size, 1, none⟩ = some (.string yg) ∧ W.cell? ⟨w2.heap.size, 2, none⟩ = some (.string yf) by
      intro W hW
      have h1 := heap_alloc_new w2 (.cells #[.bool true, .string yg, .string yf] 31)
      have h2 := (hW.block w2.heap.size (lt_of_block h1)).trans h1
      exact ⟨cell_of h2 rfl, cell_of h2 rfl, cell_of h2 rfl⟩)
    obtain ⟨c0, c1, c2⟩ := HCL.out _ hbx
    obtain ⟨d0, d1, d2⟩ := HCY.out _ (Below.refl _ _)
    have HB3 := Lib.hid (HB2.out.trans (hbx.mono HB2.out.size))
    have HBX := Lib.hid hbx
    have HE3 := Lib.hid (HE.out.below HB3.out)
    clear hb hbx
    generalize xg ++ ⟨#[47]⟩ ++ xf = X at *
    generalize yg ++ ⟨#[47]⟩ ++ yf = Y at *
    generalize hq : (s.toList == t.toList) = q at *
    obtain ⟨W, hW⟩ : ∃ W, W = w2.alloc (.cells #[.bool true, .string yg, .string yf] 31) := ⟨_, rfl⟩
    rw [← hW] at c0 c1 c2 d0 d1 d2 HB3 HE3
    have e0 := fun n : Wd (Gr W) => n.cell c0
    have e1 := fun n : Wd (Gr W) => n.cell c1
    have e2 := fun n : Wd (Gr W) => n.cell c2
    have g0 := fun n : Wd (Gr W) => n.cell d0
    have g1 := fun n : Wd (Gr W) => n.cell d1
    have g2 := fun n : Wd (Gr W) => n.cell d2
    have HKX2 := Lib.hid (fun n : Wd (Gr W) => HKX.out n.w)
    have HKY2 := Lib.hid (fun n : Wd (Gr W) => HKY.out n.w)
    have HAW := Lib.hid (fun n : Wd (Gr W) => sawake_any n.w (HE3.out.below n.ok))
    clear HCL HCY HBX HB2 HB1 HE HE1 HZ HS1 HKX HKY HX HY
    subst hW
    go_wp2_with fail
    clear c0 c1 c2 d0 d1 d2
    refine wp_region_cls (Gr _) (gr_drew _) (by kernel_rfl) (by kernel_rfl) ?_
    go_big_quiet_step (fail)
    repeat (go_big_quiet_step ((first | (go_at_call 33; first | exact cls_call (HKX2.out _) | exact cls_call (HKY2.out _)) | (go_at_call 28; exact cls_call (HAW.out _)))))
    refine wpQuiet_nil ?_
    rintro _ ⟨⟨wq, hqq⟩, rfl⟩
    have HQ := Lib.hid (HB3.out.trans (Below.mono hqq HB3.out.size))
    clear hqq
    go_wp2_with fail
    go_ret
    exact ⟨rfl, HQ.out⟩
end Go.Proofs.YtnognmnjlnokeaaDoor.TopW
