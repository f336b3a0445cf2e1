/- TopicMatch: what must come whatever the arguments are; the law. -/
import Derived.Test.YtnognmnjlnokeaaDoorTopT
set_option linter.unusedVariables false
set_option linter.unusedSimpArgs false
namespace Go.Proofs.YtnognmnjlnokeaaDoor.TopW
open Go.RowKit Go.Proofs.YtnognmnjlnokeaaDoor.Tc Go.Proofs.YtnognmnjlnokeaaDoor.TopP

theorem name_at (s : ByteArray) (b : Bool) (w : World) (hE : Env w) (hs : s.size ≤ 60000) (h : isName s.data.toList = b) : Calls Tryd.prog 17 #[.string s] w fun e w' => e = .returned (.bool b) ∧ Below w.heap.size w w' := by rw [← h]; exact name_any s w hs hE
theorem filter_at (s : ByteArray) (b : Bool) (w : World) (hE : Env w) (hs : s.size ≤ 60000) (h : isFilter s.data.toList = b) : Calls Tryd.prog 19 #[.string s] w fun e w' => e = .returned (.bool b) ∧ Below w.heap.size w w' := by rw [← h]; exact filter_any s w hs hE
theorem match_at (f n : ByteArray) (b : Bool) (w : World) (hE : Env w) (hf : f.size ≤ 60000) (hn : n.size ≤ 60000) (h : isMatch f.data.toList n.data.toList = b) : Calls Tryd.prog 24 #[.string f, .string n] w fun e w' => e = .returned (.bool b) ∧ Below w.heap.size w w' := by rw [← h]; exact match_any f n w hf hn hE
set_option maxRecDepth 100000 in
set_option maxHeartbeats 1000000 in
theorem awake_any (w : World) (hE : Env w) : Calls Tryd.prog 16 #[] w fun e w' => e = .returned (.bool true) ∧ Below w.heap.size w w' := by
  have HE := Lib.hid hE
  have HB0 := Lib.hid (Below.refl w.heap.size w)
  clear hE
  go_enter Tryd.func16, Tryd.ntmps16
  go_wp2_with fail
  refine (name_at ⟨#[97, 47, 98]⟩ true _ (HE.out.below HB0.out) (by decide) (by decide +kernel)).mono ?_
  rintro e w1 ⟨rfl, hb⟩
  have HB1 := Lib.hid (HB0.out.trans (hb.mono HB0.out.size))
  clear hb
  go_wp2_with fail
  refine (name_at ⟨#[97, 47, 43]⟩ false _ (HE.out.below HB1.out) (by decide) (by decide +kernel)).mono ?_
  rintro e w2 ⟨rfl, hb⟩
  have HB2 := Lib.hid (HB1.out.trans (hb.mono HB1.out.size))
  clear hb
  go_wp2_with fail
  refine (filter_at ⟨#[97, 47, 43, 47, 35]⟩ true _ (HE.out.below HB2.out) (by decide) (by decide +kernel)).mono ?_
  rintro e w3 ⟨rfl, hb⟩
  have HB3 := Lib.hid (HB2.out.trans (hb.mono HB2.out.size))
  clear hb
  go_wp2_with fail
  refine (filter_at ⟨#[97, 35]⟩ false _ (HE.out.below HB3.out) (by decide) (by decide +kernel)).mono ?_
  rintro e w4 ⟨rfl, hb⟩
  have HB4 := Lib.hid (HB3.out.trans (hb.mono HB3.out.size))
  clear hb
  go_wp2_with fail
  refine (match_at ⟨#[97, 47, 35]⟩ ⟨#[97]⟩ true _ (HE.out.below HB4.out) (by decide) (by decide) (by decide +kernel)).mono ?_
  rintro e w5 ⟨rfl, hb⟩
  have HB5 := Lib.hid (HB4.out.trans (hb.mono HB4.out.size))
  clear hb
  go_wp2_with fail
  refine (match_at ⟨#[43, 47, 98]⟩ ⟨#[97, 47, 98]⟩ true _ (HE.out.below HB5.out) (by decide) (by decide) (by decide +kernel)).mono ?_
  rintro e w6 ⟨rfl, hb⟩
  have HB6 := Lib.hid (HB5.out.trans (hb.mono HB5.out.size))
  clear hb
  go_wp2_with fail
  refine (match_at ⟨#[35]⟩ ⟨#[36, 83, 89, 83, 47, 120]⟩ false _ (HE.out.below HB6.out) (by decide) (by decide) (by decide +kernel)).mono ?_
  rintro e w7 ⟨rfl, hb⟩
  have HB7 := Lib.hid (HB6.out.trans (hb.mono HB6.out.size))
  clear hb
  go_wp2_with fail
  refine (levels_any ⟨#[97, 47, 98, 47]⟩ _ (by decide) (HE.out.below HB7.out)).mono ?_
  rintro e w8 ⟨L, rfl, hw8, hL, -⟩
  have h3 : L.length = 3 := by have := congrArg List.length hL; rw [List.length_map] at this; rw [this]; decide +kernel
  have HB8 := Lib.hid (show Below w.heap.size w w8 by rw [hw8]; exact HB7.out.trans (((Below.refl w7.heap.size w7).alloc (Nat.le_refl _) (Lay L)).mono HB7.out.size))
  clear hw8 hL
  go_wp2_with fail
  go_ret
  exact ⟨rfl, HB8.out⟩
set_option maxRecDepth 100000 in
set_option maxHeartbeats 1000000 in
theorem match_law (w : World) (f n : ByteArray) (hf' : f.size ≤ 140737488351232) (hn' : n.size ≤ 140737488351232) (hE : Env w) : Calls Tryd.prog 4 #[.string f, .string n] w fun e w' => e = .returned (.bool true) ∧ Below w.heap.size w w' := by
  have HE := Lib.hid hE
  have HA := Lib.hid (awake_any w hE)
  clear hE
  by_cases h1 : 300 < f.size
  · go_enter Tryd.func4, Tryd.ntmps4
    go_wp2_with fail
    refine HA.out.mono ?_
    rintro e w1 ⟨rfl, hb⟩
    have HB := Lib.hid hb
    clear hb
    go_wp2_with fail
    go_ret
    exact ⟨rfl, HB.out⟩
  by_cases h2 : 300 < n.size
  · go_enter Tryd.func4, Tryd.ntmps4
    go_wp2_with fail
    refine HA.out.mono ?_
    rintro e w1 ⟨rfl, hb⟩
    have HB := Lib.hid hb
    clear hb
    go_wp2_with fail
    go_ret
    exact ⟨rfl, HB.out⟩
  have HM := Lib.hid (match_any f n w (by omega) (by omega) HE.out)
  have HR := Lib.hid (fun W => PTopicMatch.towncrierref16_Match.calls 300000 f n _ W (match_r f n (by omega) (by omega) 300000 (Nat.le_refl _)))
  clear HA
  go_enter Tryd.func4, Tryd.ntmps4
  go_wp2_with fail
  refine HM.out.mono ?_
  rintro e w1 ⟨rfl, hb⟩
  have HB := Lib.hid hb
  clear hb
  go_wp2_with fail
  refine (HR.out _).mono ?_
  rintro e w2 ⟨rfl, hb⟩
  have HB2 := Lib.hid (HB.out.trans (hb.mono HB.out.size))
  have HA := Lib.hid (awake_any w2 (HE.out.below (HB.out.trans (hb.mono HB.out.size))))
  clear hb HM HR
  go_wp2_with fail
  refine HA.out.mono ?_
  rintro e w3 ⟨rfl, hb⟩
  have HB3 := Lib.hid (HB2.out.trans (hb.mono HB2.out.size))
  clear hb
  go_wp2_with fail
  go_ret
  exact ⟨rfl, HB3.out⟩
end Go.Proofs.YtnognmnjlnokeaaDoor.TopW
