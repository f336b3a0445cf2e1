/- Shared filters: what must come; ShareStrategy and ShareKeys. -/
import Derived.Test.YtnognmnjlnokeaaDoorShaA
set_option linter.unusedVariables false
set_option linter.unusedSimpArgs false
namespace Go.Proofs.YtnognmnjlnokeaaDoor.TopW
open Go.RowKit Go.Proofs.YtnognmnjlnokeaaDoor.Tc Go.Proofs.YtnognmnjlnokeaaDoor.TopP

theorem parse_at (s : ByteArray) (x : Sh) (ok : Bool) (w : World) (hs : s.size ≤ 60000) (hE : Env w) (h : parse s = (x, ok)) : Calls Tryd.prog 29 #[.string s] w fun e w' => e = .returned (.tuple #[.agg #[.bool x.shared, .string x.group, .string x.filter], .bool ok]) ∧ Below w.heap.size w w' := by
  have := parse_any s w hs hE
  rw [h] at this
  exact this
theorem strat_at (s : ByteArray) (n : Int) (w : World) (h : strat s.data.toList = n) : Calls Tryd.prog 35 #[.string s] w fun e w' => e = .returned (.int .i64 n) ∧ w = w' := by rw [← h]; exact strat_any s w
set_option maxRecDepth 100000 in
set_option maxHeartbeats 1000000 in
theorem sawake_any (w : World) (hE : Env w) : Calls Tryd.prog 28 #[] w fun e w' => e = .returned (.bool true) ∧ Below w.heap.size w w' := by
  have HE := Lib.hid hE
  clear hE
  have HTX := Lib.hid (fun W => text_any ⟨true, ⟨#[104, 45, 103]⟩, ⟨#[97, 47, 35]⟩⟩ W (by decide) (by decide))
  have HKY := Lib.hid (fun W => key_any ⟨true, ⟨#[104, 45, 103]⟩, ⟨#[97, 47, 35]⟩⟩ W (by decide) (by decide))
  have ht : text ⟨true, ⟨#[104, 45, 103]⟩, ⟨#[97, 47, 35]⟩⟩ = ⟨#[36, 115, 104, 97, 114, 101, 47, 104, 45, 103, 47, 97, 47, 35]⟩ := by kernel_rfl
  have hk : (⟨#[104, 45, 103]⟩ : ByteArray) ++ ⟨#[47]⟩ ++ ⟨#[97, 47, 35]⟩ = ⟨#[104, 45, 103, 47, 97, 47, 35]⟩ := by kernel_rfl
  unfold Sh.val at HTX HKY
  dsimp only at HTX HKY
  rw [ht] at HTX
  rw [hk] at HKY
  clear ht hk
  go_enter Tryd.func28, Tryd.ntmps28
  go_wp2_with fail
  refine (parse_at ⟨#[36, 115, 104, 97, 114, 101, 47, 104, 45, 103, 47, 97, 47, 35]⟩ ⟨true, ⟨#[104, 45, 103]⟩, ⟨#[97, 47, 35]⟩⟩ true _ (by decide) HE.out (by kernel_rfl)).mono ?_
  rintro e w1 ⟨rfl, hb⟩
  have hb1 := alloc_below w1 (.cells #[.bool true, .string ⟨#[104, 45, 103]⟩, .string ⟨#[97, 47, 35]⟩] 31)
  have HZ := Lib.hid (heap_alloc_new w1 (.cells #[.bool true, .string ⟨#[104, 45, 103]⟩, .string ⟨#[97, 47, 35]⟩] 31))
  have HB1 := Lib.hid (hb.trans (hb1.mono hb.size))
  have hs1 : (w1.alloc (.cells #[.bool true, .string ⟨#[104, 45, 103]⟩, .string ⟨#[97, 47, 35]⟩] 31)).heap.size = w1.heap.size + 1 := by simp
  have HS1 := Lib.hid hs1
  have HE1 := Lib.hid (HE.out.below (hb.trans (hb1.mono hb.size)))
  clear hb hb1 hs1
  go_wp2_with fail
  refine (parse_at ⟨#[36, 115, 104, 97, 114, 101, 47, 103]⟩ ⟨false, ⟨#[]⟩, ⟨#[]⟩⟩ false _ (by decide) HE1.out (by kernel_rfl)).mono ?_
  rintro e w2 ⟨rfl, hb⟩
  have HCL := Lib.hid (show ∀ W, Below w2.heap.size w2 W → W.cell? ⟨w1.heap.size, 0, none⟩ = some (.bool true) ∧ W.cell? ⟨w1.heap.size, 1, none⟩ = some (.string ⟨#[104, 45, 103]⟩) ∧ W.cell? ⟨w1.heap.size, 2, none⟩ = some (.string ⟨#[97, 47, 35]⟩) by
    intro W hW
    have h1 := (hb.block w1.heap.size (by rw [HS1.out]; omega)).trans HZ.out
    have h2 := (hW.block w1.heap.size (lt_of_block h1)).trans h1
    exact ⟨cell_of h2 rfl, cell_of h2 rfl, cell_of h2 rfl⟩)
  have HB2 := Lib.hid (HB1.out.trans (hb.mono HB1.out.size))
  have hbx := alloc_below w2 (.cells #[.bool false, .string ⟨#[]⟩, .string ⟨#[]⟩] 31)
  have HBX := Lib.hid hbx
  obtain ⟨c0, c1, c2⟩ := HCL.out _ hbx
  have HB3 := Lib.hid (HB2.out.trans (hbx.mono HB2.out.size))
  clear hb hbx
  go_wp2_with fail
  refine (HTX.out _).mono ?_
  rintro e w3 ⟨rfl, hb⟩
  have HB4 := Lib.hid (HB3.out.trans (hb.mono HB3.out.size))
  obtain ⟨d0, d1, d2⟩ := HCL.out w3 (HBX.out.trans (hb.mono HBX.out.size))
  clear hb
  go_wp2_with fail
  refine (HKY.out _).mono ?_
  rintro e w4 ⟨rfl, hb⟩
  have HB5 := Lib.hid (HB4.out.trans (hb.mono HB4.out.size))
  clear hb
  go_wp2_with fail
  refine (strat_at ⟨#[104, 45, 103]⟩ 3 w4 (by kernel_rfl)).mono ?_
  rintro e w5 ⟨rfl, rfl⟩
  go_wp2_with fail
  refine (strat_at ⟨#[103]⟩ 1 _ (by kernel_rfl)).mono ?_
  rintro e w6 ⟨rfl, rfl⟩
  go_wp2_with fail
  go_ret
  exact ⟨rfl, HB5.out⟩
theorem strat_range (l : List UInt8) : 1 ≤ strat l ∧ strat l ≤ 5 := by
  unfold strat
  by_cases h1 : l.take 2 = [115, 45]
  · rw [if_pos h1]; omega
  rw [if_neg h1]
  by_cases h2 : l.take 2 = [104, 45]
  · rw [if_pos h2]; omega
  rw [if_neg h2]
  by_cases h3 : l.take 2 = [108, 45]
  · rw [if_pos h3]; omega
  rw [if_neg h3]
  by_cases h4 : l.take 2 = [120, 45]
  · rw [if_pos h4]; omega
  rw [if_neg h4]; omega
theorem strat_short {l : List UInt8} (h : l.length < 2) : strat l = 1 := by
  have key : ∀ a b : UInt8, l.take 2 ≠ [a, b] := by
    intro a b e
    have := congrArg List.length e
    rw [List.length_take] at this
    simp at this
    omega
  unfold strat
  rw [if_neg (key _ _), if_neg (key _ _), if_neg (key _ _), if_neg (key _ _)]
set_option maxRecDepth 100000 in
set_option maxHeartbeats 2000000 in
theorem strategy_law (w : World) (a b : ByteArray) (ha' : a.size ≤ 140737488351232) (hb' : b.size ≤ 140737488351232) (hE : Env w) : Calls Tryd.prog 10 #[.string a, .string b] w fun e w' => e = .returned (.bool true) ∧ Below w.heap.size w w' := by
  have HE := Lib.hid hE
  have HA := Lib.hid (sawake_any w hE)
  clear hE
  by_cases h1 : 200 < a.size
  · go_enter Tryd.func10, Tryd.ntmps10
    go_wp2_with fail
    refine HA.out.mono ?_
    rintro e w1 ⟨rfl, hb⟩
    have HB := Lib.hid hb
    clear hb
    go_wp2_with fail
    go_ret
    exact ⟨rfl, HB.out⟩
  by_cases h2 : 200 < b.size
  · go_enter Tryd.func10, Tryd.ntmps10
    go_wp2_with fail
    refine HA.out.mono ?_
    rintro e w1 ⟨rfl, hb⟩
    have HB := Lib.hid hb
    clear hb
    go_wp2_with fail
    go_ret
    exact ⟨rfl, HB.out⟩
  have HS := Lib.hid (strat_any a w)
  obtain ⟨r1, r2⟩ := strat_range a.data.toList
  by_cases h3 : a.size < 2
  · have hs1 : strat a.data.toList = 1 := strat_short (by rw [size_list]; exact h3)
    rw [hs1] at HS
    clear hs1 r1 r2
    go_enter Tryd.func10, Tryd.ntmps10
    go_wp2_with fail
    refine HS.out.mono ?_
    rintro e w1 ⟨rfl, rfl⟩
    go_wp2_with fail
    refine HA.out.mono ?_
    rintro e w2 ⟨rfl, hb⟩
    have HB := Lib.hid hb
    clear hb
    go_wp2_with fail
    go_ret
    exact ⟨rfl, HB.out⟩
  · have hx : (a.extract 0 2).data.toList = a.data.toList.take 2 := by rw [ByteArray.data_extract, Array.toList_extract, List.extract_eq_take_drop]; simp
    obtain ⟨t, ht⟩ : ∃ t, t = a.extract 0 2 := ⟨_, rfl⟩
    rw [← ht] at hx
    have he := ht.symm
    have h2' : (2 : Int) ≤ a.size := by omega
    have hts : t.size = 2 := by rw [len_size hx, List.length_take, size_list]; omega
    have hss : strat (t ++ b).data.toList = strat a.data.toList := by
      unfold strat
      have e : (t ++ b).data.toList.take 2 = a.data.toList.take 2 := by
        rw [ByteArray.data_append, Array.toList_append, hx, List.take_append_of_le_length (by rw [List.length_take, size_list]; omega), List.take_take]
        simp
      rw [e]
    have hs2 := strat_any (t ++ b) w
    rw [hss] at hs2
    have HS2 := Lib.hid hs2
    have htb : t.size + b.size ≤ 1000 := by omega
    clear hx ht hss hs2 hts
    generalize strat a.data.toList = n at *
    go_enter Tryd.func10, Tryd.ntmps10
    go_wp2_with fail
    refine HS.out.mono ?_
    rintro e w1 ⟨rfl, rfl⟩
    go_wp2_with fail
    refine HS2.out.mono ?_
    rintro e w1 ⟨rfl, rfl⟩
    go_wp2_with fail
    refine HA.out.mono ?_
    rintro e w2 ⟨rfl, hb⟩
    have HB := Lib.hid hb
    clear hb
    go_wp2_with fail
    go_ret
    exact ⟨rfl, HB.out⟩
end Go.Proofs.YtnognmnjlnokeaaDoor.TopW
