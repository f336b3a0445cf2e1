/- PickIs: its walk. -/
import Derived.Test.YtclhgnlhejohgaaPickA
set_option linter.unusedVariables false
set_option linter.unusedSimpArgs false
namespace Go.Proofs.Ytclhgnlhejohgaa.PickW
open Go.RowKit Go.Proofs.Ytclhgnlhejohgaa.Tc Go.Proofs.Ytclhgnlhejohgaa.PickP

theorem strs_open {H : Type} {enc : TypeId × Value → H} {w : World} {base : Nat} {sp : Nat → Bool} {held : Bool} {A : Option Addr} {len cap : Nat} {d : DataW H} {ps : List MemPlace}
    (h : DataW.Trod enc Try.prog w base sp held 26 (.slice A len cap) d ps) : ∃ xs : List ByteArray, xs.length = len ∧ SliceIs kS w A xs := by
  obtain ⟨fuel, hf⟩ := h
  obtain ⟨A', c', xs, hcs, hx⟩ := slice_opens Try.underlying26 (by rw [cells9]; decide) kS hf
  simp [Value.cells] at hcs
  obtain ⟨rfl, rfl, rfl⟩ := hcs
  exact ⟨xs, rfl, hx⟩
theorem ints_open {H : Type} {enc : TypeId × Value → H} {w : World} {base : Nat} {sp : Nat → Bool} {held : Bool} {A : Option Addr} {len cap : Nat} {d : DataW H} {ps : List MemPlace}
    (h : DataW.Trod enc Try.prog w base sp held 27 (.slice A len cap) d ps) : ∃ xs : List Int, xs.length = len ∧ SliceIs kI w A xs := by
  obtain ⟨fuel, hf⟩ := h
  obtain ⟨A', c', xs, hcs, hx⟩ := slice_opens Try.underlying27 (by rw [cells3]; decide) kI hf
  simp [Value.cells] at hcs
  obtain ⟨rfl, rfl, rfl⟩ := hcs
  exact ⟨xs, rfl, hx⟩
theorem awake_end {w wr : World} (HB : Below w.heap.size w wr) : Calls Try.prog 17 #[] wr fun e w' => e = .returned (.bool true) ∧ Below w.heap.size w w' :=
  (pawake_any wr).mono fun _ _ ⟨he, hb⟩ => ⟨he, HB.trans (hb.mono HB.size)⟩
set_option maxRecDepth 100000 in
set_option maxHeartbeats 2000000 in
theorem is_law (w : World) (A : Option Addr) (la ca : Nat) (all : List ByteArray) (B : Option Addr) (lb cb : Nat) (free : List ByteArray) (C : Option Addr) (lc cc : Nat) (counts : List Int)
    (hA : all.length = la ∧ SliceIs kS w A all) (hB : free.length = lb ∧ SliceIs kS w B free) (hC : counts.length = lc ∧ SliceIs kI w C counts) :
    Calls Try.prog 4 #[.slice A la ca, .slice B lb cb, .slice C lc cc] w fun e w' => e = .returned (.bool true) ∧ Below w.heap.size w w' := by
  obtain ⟨rfl, hA⟩ := hA
  obtain ⟨rfl, hB⟩ := hB
  obtain ⟨rfl, hC⟩ := hC
  have hlc := hC.len
  unfold maxLen at hlc
  have HA := Lib.hid hA
  have HBF := Lib.hid hB
  have HC := Lib.hid hC
  have HFA := Lib.hid (few_any w A ca all hA)
  have HFB := Lib.hid (few_any w B cb free hB)
  have HW := Lib.hid (awake_end (Below.refl w.heap.size w))
  clear hA hB hC
  go_enter Try.func4, Try.ntmps4
  go_wp2_with fail
  refine HFA.out.mono ?_
  rintro e w' ⟨⟨fa, rfl, hfa⟩, rfl⟩
  have HFEWA := Lib.hid hfa
  clear hfa HFA
  cases fa with
  | false =>
    clear HFB
    go_wp2_with fail
    refine HW.out.mono ?_
    rintro e w3 ⟨rfl, hb⟩
    go_wp2_with fail
    go_ret
    exact ⟨rfl, hb⟩
  | true =>
    go_wp2_with fail
    refine HFB.out.mono ?_
    rintro e w' ⟨⟨fb, rfl, hfb⟩, rfl⟩
    have HFEWB := Lib.hid hfb
    clear hfb HFB
    cases fb with
    | false =>
      go_wp2_with fail
      refine HW.out.mono ?_
      rintro e w3 ⟨rfl, hb⟩
      go_wp2_with fail
      go_ret
      exact ⟨rfl, hb⟩
    | true =>
      by_cases h20 : counts.length ≤ 20
      · obtain ⟨hal, has⟩ := HFEWA.out (by trivial)
        obtain ⟨hbl, hbs⟩ := HFEWB.out (by trivial)
        have HAS := Lib.hid has
        have HBS : Hid (Small free) := hbs
        clear HFEWA HFEWB HW has hbs
        go_wp2_with fail
        go_loopw [7] (fun x wr => ∃ k : Nat, k ≤ all.length ∧ x = .int .i64 k ∧ Below w.heap.size w wr) (fun x _ => all.length - (intOf x).toNat)
        case atStart => exact ⟨0, by omega, rfl, Below.refl _ _⟩
        case round =>
          obtain ⟨k, hk, rfl, hB⟩ := hrel
          have HB := Lib.hid hB
          have HAR := Lib.hid (HA.out.below hB)
          have HBR := Lib.hid (HBF.out.below hB)
          by_cases hlt : k < all.length
          · obtain ⟨b, off, rfl, c0, -⟩ := str_cell HAR.out hlt
            have d0 := fun n : Wd (Gr wr) => n.cell c0
            have hz := HAS.out k hlt
            have H23 := Lib.hid (fun n : Wd (Gr wr) => robin_any n.w _ B ca cb all free (all.getD k ByteArray.empty) (HAR.out.below n.ok) (HBR.out.below n.ok) (by omega))
            have H24 := Lib.hid (fun n : Wd (Gr wr) => rrobin_any n.w _ B ca cb all free (all.getD k ByteArray.empty) (HAR.out.below n.ok) (HBR.out.below n.ok) (by omega))
            have H25 := Lib.hid (fun n : Wd (Gr wr) => hash_any n.w B cb free (all.getD k ByteArray.empty) (HBR.out.below n.ok) hz HBS.out)
            have H26 := Lib.hid (fun n : Wd (Gr wr) => (rhash_any n.w B cb free (all.getD k ByteArray.empty) (HBR.out.below n.ok) hz HBS.out).mono fun _ _ ⟨he, hd⟩ => And.intro he (Dr.below hd))
            clear c0 hB
            generalize all.getD k ByteArray.empty = z at *
            generalize robin all free z = r1 at H23 H24
            generalize hash (rank z) free = r2 at H25 H26
            go_wp2
            refine wp_region_cls (Gr wr) (gr_drew wr) (by kernel_rfl) (by kernel_rfl) ?_
            repeat (go_big_quiet_step ((first | (go_at_call 23; exact cls_same (H23.out _)) | (go_at_call 24; exact cls_same (H24.out _)) | (go_at_call 25; exact cls_call (H25.out _)) | (go_at_call 26; exact cls_call (H26.out _)))))
            refine wpQuiet_nil ?_
            rintro _ ⟨⟨wq, hq⟩, rfl⟩
            have HQ := Lib.hid (then_below HB.out hq)
            clear hq
            go_wp2
            go_roundw
            case rel => exact ⟨k + 1, by omega, by go_num, HQ.out⟩
            case measure => simp [intOf]; omega
          · obtain rfl : k = all.length := by omega
            have H23 := Lib.hid (robin_any wr _ B ca cb all free ⟨#[]⟩ HAR.out HBR.out (by omega))
            have H24 := Lib.hid (rrobin_any wr _ B ca cb all free ⟨#[]⟩ HAR.out HBR.out (by omega))
            have H27 := Lib.hid (least_any wr B C cb cc free counts HBR.out (HC.out.below hB) (by omega))
            have H28 := Lib.hid (fun w1 (h : Below wr.heap.size wr w1) => rleast_any w1 B C cb cc free counts (HBR.out.below h) ((HC.out.below HB.out).below h) (by omega))
            clear hB
            generalize robin all free ⟨#[]⟩ = r1 at H23 H24
            generalize least free counts = r2 at H27 H28
            go_wp2_with fail
            refine H23.out.mono ?_
            rintro e w1 ⟨rfl, rfl⟩
            go_wp2_with fail
            refine H24.out.mono ?_
            rintro e w1 ⟨rfl, rfl⟩
            go_wp2_with fail
            refine H27.out.mono ?_
            rintro e w1 ⟨rfl, hb⟩
            have H28' := Lib.hid (H28.out w1 hb)
            have HW := Lib.hid (awake_end (then_below HB.out hb))
            clear hb
            go_wp2_with fail
            refine H28'.out.mono ?_
            rintro e w2 ⟨rfl, rfl⟩
            go_wp2_with fail
            refine HW.out.mono ?_
            rintro e w3 ⟨rfl, hb⟩
            go_wp2_with fail
            go_ret
            exact ⟨rfl, hb⟩
      · clear HFEWA HFEWB
        go_wp2_with fail
        refine HW.out.mono ?_
        rintro e w3 ⟨rfl, hb⟩
        go_wp2_with fail
        go_ret
        exact ⟨rfl, hb⟩
end Go.Proofs.Ytclhgnlhejohgaa.PickW
