/- pick: what must come; PickNumbers and PickIs. -/
import Derived.Test.YtclhgnlhejohgaaPickD
import Derived.OpenShut
set_option linter.unusedVariables false
set_option linter.unusedSimpArgs false
namespace Go.Proofs.Ytclhgnlhejohgaa.PickW
open Go.RowKit Go.Proofs.Ytclhgnlhejohgaa.Tc Go.Proofs.Ytclhgnlhejohgaa.PickP

theorem strs_new (w : World) (b : Nat) (hb : b = w.heap.size) (l : List ByteArray) (hl : l.length ≤ maxLen) (hs : ∀ s ∈ l, s.size ≤ maxLen) {cs : Array Value} (hcs : cs = (l.map Value.string).toArray) : SliceIs kS (w.alloc (.cells cs 9)) (some ⟨b, 0, none⟩) l := by
  subst hb hcs
  refine ⟨hl, fun _ => ⟨w.heap.size, 0, rfl, by simp, fun i x hx => ⟨[.string x], ⟨rfl, hs x (List.mem_of_getElem? hx)⟩, fun j u hu => ?_⟩⟩⟩
  have hj : j = 0 := by
    have := (List.getElem?_eq_some_iff.1 hu).1
    simp at this
    omega
  subst hj
  rw [cells9, Nat.mul_one, Nat.add_zero, Nat.zero_add]
  refine cell_of (heap_alloc_new w _) ?_
  simpa [hx] using hu
theorem ints_new (w : World) (b : Nat) (hb : b = w.heap.size) (l : List Int) (hl : l.length ≤ maxLen) (hs : ∀ n ∈ l, (Lit.int .i64 n).wf = true) {cs : Array Value} (hcs : cs = (l.map (Value.int .i64)).toArray) : SliceIs kI (w.alloc (.cells cs 3)) (some ⟨b, 0, none⟩) l := by
  subst hb hcs
  refine ⟨hl, fun _ => ⟨w.heap.size, 0, rfl, by simp, fun i x hx => ⟨[.int .i64 x], ⟨rfl, hs x (List.mem_of_getElem? hx)⟩, fun j u hu => ?_⟩⟩⟩
  have hj : j = 0 := by
    have := (List.getElem?_eq_some_iff.1 hu).1
    simp at this
    omega
  subst hj
  rw [cells3, Nat.mul_one, Nat.add_zero, Nat.zero_add]
  refine cell_of (heap_alloc_new w _) ?_
  simpa [hx] using hu
abbrev sa : ByteArray := ⟨#[97]⟩
abbrev sb : ByteArray := ⟨#[98]⟩
abbrev sc : ByteArray := ⟨#[99]⟩
set_option maxRecDepth 100000 in
theorem mix0 : mix ⟨#[]⟩ = 2166136261 := by decide
set_option maxRecDepth 100000 in
theorem mix1 : mix ⟨#[97]⟩ = 3826002220 := by decide
set_option maxRecDepth 100000 in
theorem mix2 : mix ⟨#[0]⟩ = 84696351 := by decide
theorem rank0 : rank ⟨#[]⟩ ⟨#[]⟩ = 84696351 := by rw [← mix2]; unfold rank; congr 1
theorem robin0 : robin [sa, sb, sc] [sa, sc] sa = ⟨#[99]⟩ := by decide
theorem least0 : least [sa, sb] [2, 1] = ⟨#[98]⟩ := by decide
theorem small1 : Small [sa] := by
  intro k hk
  have : k = 0 := by simpa using hk
  subst this
  decide
theorem hash0 : hash (rank ⟨#[107]⟩) [sa] = ⟨#[97]⟩ := rfl
set_option maxRecDepth 100000 in
set_option maxHeartbeats 2000000 in
theorem pawake_any (w : World) : Calls Try.prog 17 #[] w fun e w' => e = .returned (.bool true) ∧ Below w.heap.size w w' := by
  have h := fun w => mix_any ⟨#[]⟩ w (by decide)
  simp only [mix0] at h
  have C0 := Lib.hid h
  clear h
  have h := fun w => mix_any ⟨#[97]⟩ w (by decide)
  simp only [mix1] at h
  have C1 := Lib.hid h
  clear h
  have h := fun w => mix_any ⟨#[0]⟩ w (by decide)
  simp only [mix2] at h
  have C2 := Lib.hid h
  clear h
  have h := fun w => rank_any ⟨#[]⟩ ⟨#[]⟩ w (by decide)
  simp only [rank0] at h
  have C3 := Lib.hid h
  clear h
  go_enter Try.func17, Try.ntmps17
  go_wp2_with fail
  refine (C0.out _).mono ?_
  rintro e w1 ⟨rfl, hb⟩
  have B1 := Lib.hid hb
  clear hb
  go_wp2_with fail
  refine (C1.out _).mono ?_
  rintro e w2 ⟨rfl, hb⟩
  have B2 := Lib.hid (then_below B1.out hb)
  clear hb
  have s1 := strs_new w2 w2.heap.size rfl [sa, sb, sc] (by decide) (by decide) (cs := #[.string ⟨#[97]⟩, .string ⟨#[98]⟩, .string ⟨#[99]⟩]) rfl
  have b1 := alloc_below w2 (.cells #[.string ⟨#[97]⟩, .string ⟨#[98]⟩, .string ⟨#[99]⟩] 9)
  have s2 := strs_new (w2.alloc (.cells #[.string ⟨#[97]⟩, .string ⟨#[98]⟩, .string ⟨#[99]⟩] 9)) (w2.heap.size + 1) (by simp) [sa, sc] (by decide) (by decide) (cs := #[.string ⟨#[97]⟩, .string ⟨#[99]⟩]) rfl
  have b2 := alloc_below (w2.alloc (.cells #[.string ⟨#[97]⟩, .string ⟨#[98]⟩, .string ⟨#[99]⟩] 9)) (.cells #[.string ⟨#[97]⟩, .string ⟨#[99]⟩] 9)
  have h := robin_any _ _ _ 3 2 [sa, sb, sc] [sa, sc] sa (s1.below b2) s2 (by decide)
  rw [robin0] at h
  have R0 := Lib.hid h
  clear h
  have B3 := Lib.hid (then_below B2.out (then_below b1 b2))
  clear s1 s2 b1 b2
  go_wp2_with fail
  refine R0.out.mono ?_
  rintro e w3 ⟨rfl, rfl⟩
  have B3' := B3.out
  generalize (w2.alloc (.cells #[.string ⟨#[97]⟩, .string ⟨#[98]⟩, .string ⟨#[99]⟩] 9)).alloc (.cells #[.string ⟨#[97]⟩, .string ⟨#[99]⟩] 9) = w3 at B3' ⊢
  have B4 := Lib.hid B3'
  clear B3' B3 R0 B2 B1
  have s1 := strs_new w3 w3.heap.size rfl [sa, sb] (by decide) (by decide) (cs := #[.string ⟨#[97]⟩, .string ⟨#[98]⟩]) rfl
  have b1 := alloc_below w3 (.cells #[.string ⟨#[97]⟩, .string ⟨#[98]⟩] 9)
  have s2 := ints_new (w3.alloc (.cells #[.string ⟨#[97]⟩, .string ⟨#[98]⟩] 9)) (w3.heap.size + 1) (by simp) [2, 1] (by decide) (by decide) (cs := #[.int .i64 2, .int .i64 1]) rfl
  have b2 := alloc_below (w3.alloc (.cells #[.string ⟨#[97]⟩, .string ⟨#[98]⟩] 9)) (.cells #[.int .i64 2, .int .i64 1] 3)
  have h := least_any _ _ _ 2 2 [sa, sb] [2, 1] (s1.below b2) s2 (by decide)
  rw [least0] at h
  have R0 := Lib.hid h
  clear h
  have B5 := Lib.hid (then_below B4.out (then_below b1 b2))
  clear s1 s2 b1 b2
  go_wp2_with fail
  refine R0.out.mono ?_
  rintro e w4 ⟨rfl, hb⟩
  have B6 := Lib.hid (then_below B5.out hb)
  clear hb B5 R0 B4
  have s1 := strs_new w4 w4.heap.size rfl [sa] (by decide) (by decide) (cs := #[.string ⟨#[97]⟩]) rfl
  have b1 := alloc_below w4 (.cells #[.string ⟨#[97]⟩] 9)
  have h := hash_any _ _ 1 [sa] ⟨#[107]⟩ s1 (by decide) small1
  rw [hash0] at h
  have R0 := Lib.hid h
  clear h
  have B7 := Lib.hid (then_below B6.out b1)
  clear s1 b1
  go_wp2_with fail
  refine R0.out.mono ?_
  rintro e w5 ⟨rfl, hb⟩
  have B8 := Lib.hid (then_below B7.out hb)
  clear hb B7 R0 B6
  go_wp2_with fail
  refine (C3.out _).mono ?_
  rintro e w6 ⟨rfl, hb⟩
  have B9 := Lib.hid (then_below B8.out hb)
  clear hb
  go_wp2_with fail
  refine (C2.out _).mono ?_
  rintro e w7 ⟨rfl, hb⟩
  have B10 := Lib.hid (then_below B9.out hb)
  clear hb
  go_wp2_with fail
  go_ret
  exact ⟨rfl, B10.out⟩
set_option maxHeartbeats 1000000 in
theorem numbers_law (w : World) (s t : ByteArray) (hs : s.size ≤ 140737488351232) (ht : t.size ≤ 140737488351232) :
    Calls Try.prog 3 #[.string s, .string t] w fun e w' => e = .returned (.bool true) ∧ Below w.heap.size w w' := by
  by_cases h1 : s.size ≤ 200
  · by_cases h2 : t.size ≤ 200
    · go_enter Try.func3, Try.ntmps3
      go_wp2_with fail
      refine (mix_any s _ (by unfold maxLen; omega)).mono ?_
      rintro e w1 ⟨rfl, hb⟩
      have B1 := Lib.hid hb
      clear hb
      go_wp2_with fail
      refine (rmix_any s _ (by unfold maxLen; omega)).mono ?_
      rintro e w2 ⟨rfl, rfl⟩
      go_wp2_with fail
      refine (rank_any s t _ (by omega)).mono ?_
      rintro e w2 ⟨rfl, hb⟩
      have B2 := Lib.hid (then_below B1.out hb)
      clear hb
      go_wp2_with fail
      refine (rrank_any s t _ (by omega)).mono ?_
      rintro e w3 ⟨rfl, rfl⟩
      go_wp2_with fail
      refine (pawake_any _).mono ?_
      rintro e w3 ⟨rfl, hb⟩
      have B3 := Lib.hid (then_below B2.out hb)
      clear hb
      go_wp2_with fail
      go_ret
      exact ⟨rfl, B3.out⟩
    · go_enter Try.func3, Try.ntmps3
      go_wp2_with fail
      refine (pawake_any _).mono ?_
      rintro e w3 ⟨rfl, hb⟩
      go_wp2_with fail
      go_ret
      exact ⟨rfl, hb⟩
  · go_enter Try.func3, Try.ntmps3
    go_wp2_with fail
    refine (pawake_any _).mono ?_
    rintro e w3 ⟨rfl, hb⟩
    go_wp2_with fail
    go_ret
    exact ⟨rfl, hb⟩
end Go.Proofs.Ytclhgnlhejohgaa.PickW
