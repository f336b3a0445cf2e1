/- Faults: two laws. -/
import Derived.Test.YthpplbigmolnjaaDoorFltK
import Derived.Deep.Cut
import Derived.Deep.DeepCutAuto
set_option linter.unusedVariables false
set_option linter.unusedSimpArgs false
namespace Go.Proofs.YthpplbigmolnjaaDoor.FltW
open Go.RowKit Go.Proofs.YthpplbigmolnjaaDoor.Tc

theorem new_nil (r a : Int) (w : World) : Calls Tryd.prog 11 #[.int .i64 r, .int .i64 a, .nilIface] w fun e w' => e = .returned .nilIface ∧ w = w' := by
  go_enter Tryd.func11, Tryd.ntmps11
  go_wp2
  go_ret
  exact ⟨rfl, rfl⟩
theorem deeper_nil (a : Int) (w : World) : Calls Tryd.prog 12 #[.nilIface, .int .i64 a] w fun e w' => e = .returned .nilIface ∧ w = w' := by
  go_enter Tryd.func12, Tryd.ntmps12
  go_wp2
  go_ret
  exact ⟨rfl, rfl⟩
theorem errnew_any (s : ByteArray) (w : World) : Calls Tryd.prog 39 #[.string s] w fun e w' => e = .returned (.iface 96 (.pointer (some ⟨w.heap.size, 0, none⟩))) ∧ w' = w.alloc (.cells #[.string s] 98) := by
  go_enter Tryd.func39, Tryd.ntmps39
  go_wp2
  go_ret
  exact ⟨rfl, rfl⟩
set_option maxRecDepth 100000 in
set_option maxHeartbeats 2000000 in
theorem others_law (w : World) (s : ByteArray) (hs : s.size ≤ 140737488351232) (hE : ∃ a, EnvF w a ∧ Tab w) :
    Calls Tryd.prog 8 #[.string s] w fun e w' => e = .returned (.bool true) ∧ Below w.heap.size w w' := by
  obtain ⟨a, hE, hT⟩ := hE
  by_cases h100 : s.size ≤ 100
  rotate_left
  · have HA := Lib.hid (awake_any w a hE)
    have h101 : 100 < (s.size : Int) := by omega
    clear hE hT h100
    go_enter Tryd.func8, Tryd.ntmps8
    go_wp2_with fail
    refine HA.out.mono ?_
    rintro e w1 ⟨rfl, hb⟩
    have HB := Lib.hid hb
    clear hb
    go_wp2_with fail
    go_ret
    exact ⟨rfl, HB.out⟩
  have h101 : ¬ 100 < (s.size : Int) := by omega
  have hb := alloc_below w (.cells #[.string s] 98)
  have hz := heap_alloc_new w (.cells #[.string s] 98)
  have HN := Lib.hid (show Calls Tryd.prog 39 #[.string s] w fun e w' => e = .returned (.iface 96 (.pointer (some ⟨w.heap.size, 0, none⟩))) ∧ w'.heap[w.heap.size]? = some (.cells #[.string s] 98 (0, 0)) ∧ Below w.heap.size w w' from (errnew_any s w).mono fun e w' ⟨he, hw⟩ => ⟨he, by rw [hw]; exact hz, by rw [hw]; exact hb⟩)
  have HNE := Lib.hid (show ∀ i, i < 7 → (⟨w.heap.size, 0, none⟩ : Addr) ≠ a i by
    intro i hi e
    obtain ⟨c, t, h⟩ := hE.row i hi
    have := lt_of_block h
    rw [← e] at this
    exact Nat.lt_irrefl _ this)
  have HE := Lib.hid hE
  clear hb hz hE hT h100
  go_enter Tryd.func8, Tryd.ntmps8
  go_wp2_with fail
  refine HN.out.mono ?_
  rintro e w1 ⟨rfl, hz1, hb1⟩
  have HZ1 := Lib.hid hz1
  have HB1 := Lib.hid hb1
  have HE1 := Lib.hid (HE.out.below hb1)
  have HD := Lib.hid (deeper_other ⟨w.heap.size, 0, none⟩ 5 w1 (HE.out.below hb1).as_)
  clear hz1 hb1 HN HE
  go_wp2_with fail
  refine (error_nil _).mono ?_
  rintro e w2 ⟨rfl, rfl⟩
  go_wp2_with fail
  refine (unwrap_nil _).mono ?_
  rintro e w2 ⟨rfl, rfl⟩
  go_wp2_with fail
  refine HD.out.mono ?_
  rintro e w2 ⟨⟨n, rfl, hn, hz2⟩, hb2⟩
  rw [show far 0 5 = 5 by decide] at hz2
  have HE2 := Lib.hid (HE1.out.below hb2)
  have HP2 := Lib.hid (show w2.heap[w.heap.size]? = some (.cells #[.string s] 98 (0, 0)) from (hb2.block _ (lt_of_block HZ1.out)).trans HZ1.out)
  have HB2 := Lib.hid (HB1.out.trans (hb2.mono HB1.out.size))
  have HC2 := Lib.hid (show Ch w2 (.iface 96 (.pointer (some ⟨w.heap.size, 0, none⟩))) [(n, 128, 5)] (.iface 56 (.pointer (some ⟨n, 0, none⟩))) from ⟨rfl, _, hz2, rfl⟩)
  have HZ2 := Lib.hid hz2
  clear hn hz2 hb2 HD HZ1 HE1
  go_wp2_with fail
  refine (is_chain _ _ _ _ HC2.out).mono ?_
  rintro e w3 ⟨rfl, rfl⟩
  go_wp2_with fail
  refine (reason_other _ _ HE2.out.as_).mono ?_
  rintro e w3 ⟨rfl, hb3⟩
  have HE3 := Lib.hid (HE2.out.below hb3)
  have HP3 := Lib.hid ((hb3.block _ (lt_of_block HP2.out)).trans HP2.out)
  have HZ3 := Lib.hid ((hb3.block _ (lt_of_block HZ2.out)).trans HZ2.out)
  have HC3 := Lib.hid (Ch.below hb3 HC2.out)
  have HB3 := Lib.hid (HB2.out.trans (hb3.mono HB2.out.size))
  clear hb3
  go_wp2_with fail
  refine (at_other _ _ HE3.out.as_).mono ?_
  rintro e w4 ⟨rfl, hb4⟩
  have HE4 := Lib.hid (HE3.out.below hb4)
  have HP4 := Lib.hid ((hb4.block _ (lt_of_block HP3.out)).trans HP3.out)
  have HZ4 := Lib.hid ((hb4.block _ (lt_of_block HZ3.out)).trans HZ3.out)
  have HC4 := Lib.hid (Ch.below hb4 HC3.out)
  have HB4 := Lib.hid (HB3.out.trans (hb4.mono HB3.out.size))
  clear hb4
  go_wp2_with fail
  refine (number_other _ a HE4.out ⟨w.heap.size, 0, none⟩ ⟨_, _, HP4.out⟩ HNE.out [] _ rfl).mono ?_
  rintro e w5 ⟨rfl, hb5⟩
  have HE5 := Lib.hid (HE4.out.below hb5)
  have HP5 := Lib.hid ((hb5.block _ (lt_of_block HP4.out)).trans HP4.out)
  have HZ5 := Lib.hid ((hb5.block _ (lt_of_block HZ4.out)).trans HZ4.out)
  have HC5 := Lib.hid (Ch.below hb5 HC4.out)
  have HB5 := Lib.hid (HB4.out.trans (hb5.mono HB4.out.size))
  clear hb5
  go_wp2_with fail
  refine (reason_any n 128 5 _ _ HE5.out.as_ HZ5.out).mono ?_
  rintro e w6 ⟨rfl, hb6⟩
  have HE6 := Lib.hid (HE5.out.below hb6)
  have HP6 := Lib.hid ((hb6.block _ (lt_of_block HP5.out)).trans HP5.out)
  have HZ6 := Lib.hid ((hb6.block _ (lt_of_block HZ5.out)).trans HZ5.out)
  have HC6 := Lib.hid (Ch.below hb6 HC5.out)
  have HB6 := Lib.hid (HB5.out.trans (hb6.mono HB5.out.size))
  clear hb6
  go_wp2_with fail
  refine (at_any n 128 5 _ _ HE6.out.as_ HZ6.out).mono ?_
  rintro e w7 ⟨rfl, hb7⟩
  have HE7 := Lib.hid (HE6.out.below hb7)
  have HP7 := Lib.hid ((hb7.block _ (lt_of_block HP6.out)).trans HP6.out)
  have HC7 := Lib.hid (Ch.below hb7 HC6.out)
  have HB7 := Lib.hid (HB6.out.trans (hb7.mono HB6.out.size))
  clear hb7
  go_wp2_with fail
  refine (number_other _ a HE7.out ⟨w.heap.size, 0, none⟩ ⟨_, _, HP7.out⟩ HNE.out _ _ HC7.out).mono ?_
  rintro e w8 ⟨rfl, hb8⟩
  have HA8 := Lib.hid (awake_any _ a (HE7.out.below hb8))
  have HB8 := Lib.hid (HB7.out.trans (hb8.mono HB7.out.size))
  clear hb8
  go_wp2_with fail
  refine HA8.out.mono ?_
  rintro e w9 ⟨rfl, hb9⟩
  have HB9 := Lib.hid (HB8.out.trans (hb9.mono HB8.out.size))
  clear hb9
  go_wp2_with fail
  go_ret
  exact ⟨rfl, HB9.out⟩
theorem i64_of_wf {n : Int} (h : (Lit.int .i64 n).wf = true) : -9223372036854775808 ≤ n ∧ n ≤ 9223372036854775807 := by
  unfold Lit.wf at h
  simp only [Bool.and_eq_true, decide_eq_true_eq] at h
  exact h
set_option maxRecDepth 100000 in
set_option maxHeartbeats 2000000 in
theorem is_none (w : World) (n r at_ : Int) (hn : ¬ (1 ≤ n ∧ n ≤ 7)) (a : Nat → Addr) (hE : EnvF w a) :
    Calls Tryd.prog 7 #[.int .i64 n, .int .i64 r, .int .i64 at_] w fun e w' => e = .returned (.bool true) ∧ Below w.heap.size w w' := by
  have HA := Lib.hid (awake_any w a hE)
  have HK := Lib.hid (kind_no w n hn)
  clear hE hn
  go_enter Tryd.func7, Tryd.ntmps7
  go_wp2_with fail
  refine HK.out.mono ?_
  rintro e w1 ⟨rfl, rfl⟩
  go_wp2_with fail
  refine (new_nil _ _ _).mono ?_
  rintro e w1 ⟨rfl, rfl⟩
  go_wp2_with fail
  refine (deeper_nil _ _).mono ?_
  rintro e w1 ⟨rfl, rfl⟩
  go_wp2_with fail
  refine HA.out.mono ?_
  rintro e w1 ⟨rfl, hb⟩
  have HB := Lib.hid hb
  clear hb
  go_wp2_with fail
  go_ret
  exact ⟨rfl, HB.out⟩
set_option maxRecDepth 100000 in
set_option maxHeartbeats 4000000 in
theorem is_some (w : World) (i : Nat) (hi : i < 7) (r at_ : Int) (hr0 : -9223372036854775808 ≤ r) (hr1 : r ≤ 9223372036854775807) (ha0 : -9223372036854775808 ≤ at_) (ha1 : at_ ≤ 9223372036854775807) (a : Nat → Addr) (hE : EnvF w a) (hT : Tab w) :
    Calls Tryd.prog 7 #[.int .i64 ((i : Int) + 1), .int .i64 r, .int .i64 at_] w fun e w' => e = .returned (.bool true) ∧ Below w.heap.size w w' := by
  have HE := Lib.hid hE
  have HT := Lib.hid hT
  have HK := Lib.hid (kind_yes w a hE i hi)
  have HN := Lib.hid (new_any r at_ 96 (.pointer (some (a i))) w)
  have s0 := txt_size i hi
  have s1 := itoa_size r hr0 hr1
  have s2 := itoa_size at_ ha0 ha1
  clear hE hT
  go_enter Tryd.func7, Tryd.ntmps7
  go_wp2_with fail
  refine HK.out.mono ?_
  rintro e w1 ⟨rfl, rfl⟩
  go_wp2_with fail
  refine HN.out.mono ?_
  rintro e w1 ⟨rfl, hz1, hb1⟩
  obtain ⟨w2, hw2⟩ : ∃ w2, w2 = ((w1.alloc (.cells #[.int .i64 0, .int .i64 0, .nilIface] 58)).alloc (.cells #[.pointer (some ⟨w1.heap.size, 0, none⟩)] 56)) := ⟨_, rfl⟩
  have hb2 : Below w.heap.size w w2 := by
    rw [hw2]
    have h1 := hb1.trans ((alloc_below w1 (.cells #[.int .i64 0, .int .i64 0, .nilIface] 58)).mono hb1.size)
    exact h1.trans ((alloc_below _ (.cells #[.pointer (some ⟨w1.heap.size, 0, none⟩)] 56)).mono h1.size)
  have hb12 : Below w1.heap.size w1 w2 := by
    rw [hw2]
    have h1 := alloc_below w1 (.cells #[.int .i64 0, .int .i64 0, .nilIface] 58)
    exact h1.trans ((alloc_below _ (.cells #[.pointer (some ⟨w1.heap.size, 0, none⟩)] 56)).mono h1.size)
  have hz2 : w2.heap[w1.heap.size + 1]? = some (.cells #[.pointer (some ⟨w1.heap.size, 0, none⟩)] 56 (0, 0)) := by
    rw [hw2]
    have := heap_alloc_new (w1.alloc (.cells #[.int .i64 0, .int .i64 0, .nilIface] 58)) (.cells #[.pointer (some ⟨w1.heap.size, 0, none⟩)] 56)
    simpa using this
  have HAS := Lib.hid (as_any ⟨w.heap.size, 0, none⟩ _ _ w2 (HE.out.below hb2).as_ hz2)
  have HZ2 := Lib.hid ((hb12.block _ (lt_of_block hz1)).trans hz1)
  have HW2 := Lib.hid hw2
  have HB2 := Lib.hid hb2
  have HS2 := Lib.hid (show w.heap.size < w1.heap.size + 1 by have := hb1.size; omega)
  clear hz1 hb1 hw2 hb2 hb12 hz2
  go_upto_region 6 with (fail)
  rw [← HW2.out]
  go_wp2_with fail
  refine HAS.out.mono ?_
  rintro e w3 ⟨rfl, hc3, hb3⟩
  have HB3 := Lib.hid (HB2.out.trans (hb3.mono (Nat.le_of_lt HS2.out)))
  have HZ3 := Lib.hid ((hb3.block _ HS2.out).trans HZ2.out)
  have HE3 := Lib.hid (HE.out.below HB3.out)
  have HT3 := Lib.hid (HT.out.below HB3.out)
  have HU := Lib.hid (unwrap_any w.heap.size r at_ _ _ w3 HZ3.out)
  clear hb3 HAS HB2 HZ2 HW2 HS2 HE HT
  go_wp2_with fail
  refine HU.out.mono ?_
  rintro e w4 ⟨rfl, rfl⟩
  go_wp2_with fail
  refine (is_same _ _).mono ?_
  rintro e w4 ⟨rfl, rfl⟩
  have HC3 := Lib.hid (show Ch w3 (.iface 96 (.pointer (some (a i)))) [(w.heap.size, r, at_)] (.iface 56 (.pointer (some ⟨w.heap.size, 0, none⟩))) from ⟨rfl, _, HZ3.out, rfl⟩)
  go_wp2_with fail
  refine (is_chain _ _ _ _ HC3.out).mono ?_
  rintro e w4 ⟨rfl, rfl⟩
  have HER := Lib.hid (error_any w.heap.size r at_ hr0 hr1 ha0 ha1 i hi w3 a HE3.out HT3.out HZ3.out)
  unfold says at HER
  have HTX := Lib.hid (fun w' => rtext_any i hi w')
  have HDR := Lib.hid (fun w' => dec_any r hr0 hr1 w')
  have HDA := Lib.hid (fun w' => dec_any at_ ha0 ha1 w')
  generalize itoa r = tr at *
  generalize itoa at_ = ta at *
  generalize txt i = tx at *
  go_wp2_with fail
  refine HER.out.mono ?_
  rintro e w4 ⟨rfl, hb4⟩
  have HB4 := Lib.hid (HB3.out.trans (hb4.mono HB3.out.size))
  have HE4 := Lib.hid (HE3.out.below hb4)
  have HZ4 := Lib.hid ((hb4.block _ (lt_of_block HZ3.out)).trans HZ3.out)
  have HC4 := Lib.hid (Ch.below hb4 HC3.out)
  have hc4 := (World.cell?_of_block (hb4.block (w1.heap.size + 1) (World.block_lt_of_cell? w3 _ hc3))).trans hc3
  have e0 : w4.cell? ⟨w.heap.size, 0, none⟩ = some (.int .i64 r) := cell_of HZ4.out rfl
  have e1 : w4.cell? ⟨w.heap.size, 1, none⟩ = some (.int .i64 at_) := cell_of HZ4.out rfl
  clear hb4 hc3 HER HB3 HE3 HT3 HZ3 HC3
  go_wp2_with fail
  refine (HTX.out _).mono ?_
  rintro e w5 ⟨rfl, rfl⟩
  go_wp2_with fail
  refine (HDR.out _).mono ?_
  rintro e w5 ⟨rfl, rfl⟩
  go_wp2_with fail
  refine (HDA.out _).mono ?_
  rintro e w5 ⟨rfl, rfl⟩
  have HR := Lib.hid (reason_any w.heap.size r at_ _ w4 HE4.out.as_ HZ4.out)
  go_wp2_with fail
  refine HR.out.mono ?_
  rintro e w5 ⟨rfl, hb5⟩
  have HB5 := Lib.hid (HB4.out.trans (hb5.mono HB4.out.size))
  have HE5 := Lib.hid (HE4.out.below hb5)
  have HZ5 := Lib.hid ((hb5.block _ (lt_of_block HZ4.out)).trans HZ4.out)
  have HC5 := Lib.hid (Ch.below hb5 HC4.out)
  have HA := Lib.hid (at_any w.heap.size r at_ _ w5 HE5.out.as_ HZ5.out)
  clear hb5
  go_wp2_with fail
  refine HA.out.mono ?_
  rintro e w6 ⟨rfl, hb6⟩
  have HB6 := Lib.hid (HB5.out.trans (hb6.mono HB5.out.size))
  have HE6 := Lib.hid (HE5.out.below hb6)
  have HC6 := Lib.hid (Ch.below hb6 HC5.out)
  have HNU := Lib.hid (number_any w6 a HE6.out i hi _ _ HC6.out)
  clear hb6
  go_wp2_with fail
  refine HNU.out.mono ?_
  rintro e w7 ⟨rfl, hb7⟩
  have HB7 := Lib.hid (HB6.out.trans (hb7.mono HB6.out.size))
  have HAW := Lib.hid (awake_any w7 a (HE6.out.below hb7))
  clear hb7
  go_wp2_with fail
  refine HAW.out.mono ?_
  rintro e w8 ⟨rfl, hb8⟩
  have HB8 := Lib.hid (HB7.out.trans (hb8.mono HB7.out.size))
  clear hb8
  go_wp2_with fail
  go_ret
  exact ⟨rfl, HB8.out⟩
theorem is_law (w : World) (n r at_ : Int) (hn : (Lit.int .i64 n).wf = true) (hr : (Lit.int .i64 r).wf = true) (ha : (Lit.int .i64 at_).wf = true) (hE : ∃ a, EnvF w a ∧ Tab w) :
    Calls Tryd.prog 7 #[.int .i64 n, .int .i64 r, .int .i64 at_] w fun e w' => e = .returned (.bool true) ∧ Below w.heap.size w w' := by
  obtain ⟨a, hE, hT⟩ := hE
  have hr' := i64_of_wf hr
  have ha' := i64_of_wf ha
  by_cases h : 1 ≤ n ∧ n ≤ 7
  · obtain ⟨i, hi⟩ : ∃ i : Nat, n = (i : Int) + 1 := ⟨(n - 1).toNat, by omega⟩
    subst hi
    exact is_some w i (by omega) r at_ hr'.1 hr'.2 ha'.1 ha'.2 a hE hT
  · exact is_none w n r at_ h a hE
end Go.Proofs.YthpplbigmolnjaaDoor.FltW
