/- LaneIs and LaneMoves: their walks. -/
import Derived.Test.YtclhgnlhejohgaaLaneH
import Derived.OpenShut
set_option linter.unusedVariables false
set_option linter.unusedSimpArgs false
namespace Go.Proofs.Ytclhgnlhejohgaa.LaneW
open Go.RowKit Go.Proofs.Ytclhgnlhejohgaa.Tc Go.Proofs.Ytclhgnlhejohgaa.LaneP

theorem items_open {H : Type} {enc : TypeId × Value → H} {w : World} {base : Nat} {sp : Nat → Bool} {held : Bool} {A : Option Addr} {len cap : Nat} {d : DataW H} {ps : List MemPlace}
    (h : DataW.Trod enc Try.prog w base sp held 37 (.slice A len cap) d ps) : ∃ xs : List Tc.It, xs.length = len ∧ SliceIs kItem w A xs := by
  obtain ⟨fuel, hf⟩ := h
  obtain ⟨A', c', xs, hcs, hx⟩ := slice_opens Try.underlying37 (by rw [cellsItem]; decide) kItem hf
  simp [Value.cells] at hcs
  obtain ⟨rfl, rfl, rfl⟩ := hcs
  exact ⟨xs, rfl, hx⟩
theorem awake_end {w wr : World} (HB : Below w.heap.size w wr) : Calls Try.prog 31 #[] wr fun e w' => e = .returned (.bool true) ∧ Below w.heap.size w w' :=
  (pawake_any wr).mono fun _ _ ⟨he, hb⟩ => ⟨he, HB.trans (hb.mono HB.size)⟩
theorem ints_len (l : List Nat) : (ints l).length = l.length := by simp [ints]
theorem eqI_self (a : List Int) : eqI a a = true := by simp [eqI]
set_option maxRecDepth 100000 in
set_option maxHeartbeats 4000000 in
theorem is_law (w : World) (A : Option Addr) (la ca : Nat) (l : List Tc.It) (at_ : Int) (client : ByteArray)
    (hA : l.length = la ∧ SliceIs kItem w A l) (ha0 : (Lit.int .i64 at_).wf = true) (hc0 : client.size ≤ 140737488351232) :
    Calls Try.prog 7 #[.slice A la ca, .int .i64 at_, .string client] w fun e w' => e = .returned (.bool true) ∧ Below w.heap.size w w' := by
  obtain ⟨rfl, hA⟩ := hA
  have HA := Lib.hid hA
  have HFA := Lib.hid (few_any w A ca l hA)
  clear hA ha0
  go_enter Try.func7, Try.ntmps7
  go_wp2_with fail
  refine HFA.out.mono ?_
  rintro e w1 ⟨⟨fa, rfl, hfa⟩, hb⟩
  have HFEWA := Lib.hid hfa
  have HB1 := Lib.hid hb
  have HW := Lib.hid (awake_end hb)
  clear hfa HFA hb
  by_cases hc : fa = true ∧ client.size ≤ 100
  · obtain ⟨rfl, hcs⟩ := hc
    obtain ⟨h20, -⟩ := HFEWA.out rfl
    clear HFEWA HW
    go_wp2_with fail
    go_loopw [7] (fun x wr => ∃ k : Nat, k ≤ l.length ∧ x = .int .i64 k ∧ Below w.heap.size w wr) (fun x _ => l.length - (intOf x).toNat)
    case atStart => exact ⟨0, by omega, rfl, HB1.out⟩
    case round =>
      obtain ⟨k, hk, rfl, hB⟩ := hrel
      have HB := Lib.hid hB
      have HAR := Lib.hid (HA.out.below hB)
      by_cases hlt : k < l.length
      · obtain ⟨x, hx⟩ : ∃ x, l[k]? = some x := ⟨_, List.getElem?_eq_getElem hlt⟩
        obtain ⟨b, off, rfl, hb, hcx, -, -, -⟩ := item_cells HAR.out hx
        have HCX := Lib.hid hcx
        have c0 := hcx.c0
        have HO := Lib.hid (owner_any wr _ ca l x.msg.topic HAR.out)
        have HRO := Lib.hid (fun w2 (h : Below wr.heap.size wr w2) => rowner_any w2 _ ca l x.msg.topic (HAR.out.below h))
        have HK := Lib.hid (fun w' => key_any x.msg w')
        unfold Mg.val at HK
        clear hx hb hcx hB
        generalize ownP (pr l) x.msg.topic = ow at *
        obtain ⟨os, ob⟩ := ow
        go_wp2_with fail
        refine HO.out.mono ?_
        rintro e w2 ⟨rfl, hb⟩
        have HRO2 := Lib.hid (HRO.out w2 hb)
        have hcx2 := HCX.out.below hb
        have HB2 := Lib.hid (then_below HB.out hb)
        have e0 := hcx2.c0
        have HCX2 := Lib.hid hcx2
        clear c0 hb hcx2 HCX HO HRO
        go_wp2_with fail
        refine HRO2.out.mono ?_
        rintro e w3 ⟨rfl, rfl⟩
        have hcx2 := HCX2.out
        have d0 := fun n : Wd (Gr w2) => n.cell hcx2.c0
        have d1 := fun n : Wd (Gr w2) => n.cell hcx2.c1
        have d2 := fun n : Wd (Gr w2) => n.cell hcx2.c2
        have d3 := fun n : Wd (Gr w2) => n.cell hcx2.c3
        have d4 := fun n : Wd (Gr w2) => n.cell hcx2.c4
        have d5 := fun n : Wd (Gr w2) => n.cell hcx2.c5
        have d6 := fun n : Wd (Gr w2) => n.cell hcx2.c6
        have d7 := fun n : Wd (Gr w2) => n.cell hcx2.c7
        have d8 := fun n : Wd (Gr w2) => n.cell hcx2.c8
        clear hcx2 e0
        go_wp2_with fail
        refine wp_region_cls (Gr w2) (gr_drew w2) (by kernel_rfl) (by kernel_rfl) ?_
        repeat (go_big_quiet_step ((go_at_call 34; exact cls_call (HK.out _))))
        refine wpQuiet_nil ?_
        rintro _ ⟨⟨wq, hq⟩, rfl⟩
        have HQ := Lib.hid (then_below HB2.out hq)
        clear hq d0 d1 d2 d3 d4 d5 d6 d7 d8
        go_wp2_with fail
        go_roundw
        case rel => exact ⟨k + 1, by omega, by go_num, HQ.out⟩
        case measure => simp [intOf]; omega
      · obtain rfl : k = l.length := by omega
        have H36 := Lib.hid (head_any wr A ca l HAR.out h20)
        have H37 := Lib.hid (fun w2 (h : Below w.heap.size w w2) => rhead_any w2 A ca l (HA.out.below h) h20)
        have H38 := Lib.hid (fun w2 (h : Below w.heap.size w w2) => may_any w2 A ca l at_ client (HA.out.below h))
        have H39 := Lib.hid (fun w2 (h : Below w.heap.size w w2) => rmay_any w2 A ca l at_ client (HA.out.below h))
        have H40 := Lib.hid (fun w2 (h : Below w.heap.size w w2) => sound_any w2 A ca l (HA.out.below h) (by omega))
        have H41 := Lib.hid (fun w2 (h : Below w.heap.size w w2) => rsound_any w2 A ca l (HA.out.below h))
        clear hB HAR
        generalize head (pr l) = hd at *
        generalize may (pr l) at_ client = mb at *
        generalize sound (pr l) = sb at *
        go_wp2_with fail
        refine H36.out.mono ?_
        rintro e w2 ⟨⟨v1, rfl, ho1⟩, hb⟩
        obtain ⟨A1, c1, rfl, hI1⟩ := ho1.form
        have hB2 := then_below HB.out hb
        have H37' := Lib.hid (H37.out w2 hB2)
        have HB2 := Lib.hid hB2
        have HI1 := Lib.hid hI1
        clear ho1 hb hI1 hB2 H36 H37
        go_wp2_with fail
        refine H37'.out.mono ?_
        rintro e w3 ⟨⟨v2, rfl, ho2⟩, hb⟩
        obtain ⟨A2, c2, rfl, hI2⟩ := ho2.form
        have hB3 := then_below HB2.out hb
        have h35 := same_ints w3 A1 A2 c1 c2 (ints hd) (ints hd) (HI1.out.below hb) hI2
        rw [ints_len, eqI_self] at h35
        have H35 := Lib.hid h35
        have HB3 := Lib.hid hB3
        clear ho2 hb hI2 hB3 h35 H37' HI1
        go_wp2_with fail
        refine H35.out.mono ?_
        rintro e w4 ⟨rfl, hd4⟩
        have hB4 := then_below HB3.out (Dr.below hd4)
        have H38' := Lib.hid (H38.out w4 hB4)
        have HB4 := Lib.hid hB4
        clear hd4 hB4 H38
        go_wp2_with fail
        refine H38'.out.mono ?_
        rintro e w5 ⟨rfl, hb⟩
        have hB5 := then_below HB4.out hb
        have H39' := Lib.hid (H39.out w5 hB5)
        have HB5 := Lib.hid hB5
        clear hb hB5 H39 H38'
        go_wp2_with fail
        refine H39'.out.mono ?_
        rintro e w6 ⟨rfl, hd6⟩
        have hB6 := then_below HB5.out (Dr.below hd6)
        have H40' := Lib.hid (H40.out w6 hB6)
        have HB6 := Lib.hid hB6
        clear hd6 hB6 H40
        go_wp2_with fail
        refine H40'.out.mono ?_
        rintro e w7 ⟨rfl, hb⟩
        have hB7 := then_below HB6.out hb
        have H41' := Lib.hid (H41.out w7 hB7)
        have HB7 := Lib.hid hB7
        clear hb hB7 H41 H40'
        go_wp2_with fail
        refine H41'.out.mono ?_
        rintro e w8 ⟨rfl, hd8⟩
        have HWE := Lib.hid (awake_end (then_below HB7.out (Dr.below hd8)))
        clear hd8
        go_wp2_with fail
        refine HWE.out.mono ?_
        rintro e w9 ⟨rfl, hb⟩
        go_wp2_with fail
        go_ret
        exact ⟨rfl, hb⟩
  · have hcs : fa = false ∨ (fa = true ∧ ¬ client.size ≤ 100) := by
      cases fa with
      | false => exact .inl rfl
      | true => exact .inr ⟨rfl, fun h => hc ⟨rfl, h⟩⟩
    clear HFEWA hc
    rcases hcs with rfl | ⟨rfl, h1⟩
    all_goals
      go_wp2_with fail
      refine HW.out.mono ?_
      rintro e w3 ⟨rfl, hb⟩
      go_wp2_with fail
      go_ret
      exact ⟨rfl, hb⟩
theorem z_ne : (⟨#[122]⟩ : ByteArray) ≠ No := by decide
set_option maxRecDepth 100000 in
set_option maxHeartbeats 4000000 in
theorem moves_law (w : World) (A : Option Addr) (la ca : Nat) (l : List Tc.It) (at_ : Int) (client : ByteArray)
    (hA : l.length = la ∧ SliceIs kItem w A l) (ha0 : (Lit.int .i64 at_).wf = true) (hc0 : client.size ≤ 140737488351232) :
    Calls Try.prog 9 #[.slice A la ca, .int .i64 at_, .string client] w fun e w' => e = .returned (.bool true) ∧ Below w.heap.size w w' := by
  obtain ⟨rfl, hA⟩ := hA
  have HA := Lib.hid hA
  have HFA := Lib.hid (few_any w A ca l hA)
  have H38 := Lib.hid (fun w2 (h : Below w.heap.size w w2) => may_any w2 A ca l at_ client (HA.out.below h))
  clear hA ha0
  go_enter Try.func9, Try.ntmps9
  go_wp2_with fail
  refine HFA.out.mono ?_
  rintro e w1 ⟨⟨fa, rfl, hfa⟩, hb⟩
  have HFEWA := Lib.hid hfa
  have HB1 := Lib.hid hb
  have HW := Lib.hid (awake_end hb)
  have H38' := Lib.hid (H38.out w1 hb)
  clear hfa HFA hb H38
  by_cases hc : fa = true ∧ client.size ≤ 100
  · obtain ⟨rfl, hcs⟩ := hc
    obtain ⟨h20, -⟩ := HFEWA.out rfl
    clear HFEWA
    cases hm : may (pr l) at_ client with
    | false =>
      rw [hm] at H38'
      clear hm HW
      go_wp2_with fail
      refine H38'.out.mono ?_
      rintro e w2 ⟨rfl, hb⟩
      have HW := Lib.hid (awake_end (then_below HB1.out hb))
      clear hb
      go_wp2_with fail
      refine HW.out.mono ?_
      rintro e w3 ⟨rfl, hb⟩
      go_wp2_with fail
      go_ret
      exact ⟨rfl, hb⟩
    | true =>
      rw [hm] at H38'
      obtain ⟨k, rfl, hk⟩ := may_cast hm
      rw [pr_len] at hk
      obtain ⟨x, hx⟩ : ∃ x, l[k]? = some x := ⟨_, List.getElem?_eq_getElem hk⟩
      have hp : (pr l)[k]? = some (x.msg.topic, x.at_) := by rw [pr_get, hx]; rfl
      have HOWN := Lib.hid (fun s => @may_owner (pr l) k client hm _ hp s)
      have hmz : may (pr (wl l k ⟨#[122]⟩ l.length)) k client = false := by rw [wl_pr]; exact put_may z_ne
      have HMZ := Lib.hid hmz
      have HO := Lib.hid (fun w2 (h : Below w.heap.size w w2) => owner_any w2 A ca l x.msg.topic (HA.out.below h))
      have H42 := Lib.hid (fun w2 (h : Below w.heap.size w w2) => with_any w2 A ca l k ⟨#[122]⟩ (HA.out.below h) h20 (by decide))
      have HIT := Lib.hid (fun w2 (h : Below w.heap.size w w2) => item_cells (HA.out.below h) hx)
      have hd0 : decide ((k : Int) < 0) = false := decide_eq_false (by omega)
      have hd1 : decide (l.length ≤ k) = false := decide_eq_false (by omega)
      clear hm hx hp hmz HW
      go_wp2_with fail
      refine H38'.out.mono ?_
      rintro e w2 ⟨rfl, hb⟩
      have hB2 := then_below HB1.out hb
      obtain ⟨b, off, rfl, -, hcx, -, -, -⟩ := HIT.out w2 hB2
      have c0 := hcx.c0
      have HO2 := Lib.hid (HO.out w2 hB2)
      have HB2 := Lib.hid hB2
      clear hb hB2 hcx HIT HO H38'
      unfold ownP at HO2
      cases ho : owner (pr l) x.msg.topic with
      | none =>
        rw [ho] at HO2
        clear ho
        go_wp2_with fail
        refine HO2.out.mono ?_
        rintro e w3 ⟨rfl, hb⟩
        have hB3 := then_below HB2.out hb
        have H42' := Lib.hid (H42.out w3 hB3)
        have HB3 := Lib.hid hB3
        clear c0 hb hB3 HO2 H42
        go_wp2_with fail
        refine H42'.out.mono ?_
        rintro e w4 ⟨⟨A', c', rfl, hs⟩, hb⟩
        have h38 := may_any w4 A' c' _ k client hs
        rw [wl_len l k _ _ (Nat.le_refl _), HMZ.out] at h38
        have H38 := Lib.hid h38
        have HB4 := Lib.hid (then_below HB3.out hb)
        clear hs hb h38 H42'
        go_wp2_with fail
        refine H38.out.mono ?_
        rintro e w5 ⟨rfl, hb⟩
        have HW := Lib.hid (awake_end (then_below HB4.out hb))
        clear hb
        go_wp2_with fail
        refine HW.out.mono ?_
        rintro e w6 ⟨rfl, hb⟩
        go_wp2_with fail
        go_ret
        exact ⟨rfl, hb⟩
      | some s =>
        rw [ho] at HO2
        have hsc := HOWN.out s ho
        subst hsc
        clear ho
        go_wp2_with fail
        refine HO2.out.mono ?_
        rintro e w3 ⟨rfl, hb⟩
        have hB3 := then_below HB2.out hb
        have H42' := Lib.hid (H42.out w3 hB3)
        have HB3 := Lib.hid hB3
        clear c0 hb hB3 HO2 H42
        go_wp2_with fail
        refine H42'.out.mono ?_
        rintro e w4 ⟨⟨A', c', rfl, hs⟩, hb⟩
        have h38 := may_any w4 A' c' _ k s hs
        rw [wl_len l k _ _ (Nat.le_refl _), HMZ.out] at h38
        have H38 := Lib.hid h38
        have HB4 := Lib.hid (then_below HB3.out hb)
        clear hs hb h38 H42'
        go_wp2_with fail
        refine H38.out.mono ?_
        rintro e w5 ⟨rfl, hb⟩
        have HW := Lib.hid (awake_end (then_below HB4.out hb))
        clear hb
        go_wp2_with fail
        refine HW.out.mono ?_
        rintro e w6 ⟨rfl, hb⟩
        go_wp2_with fail
        go_ret
        exact ⟨rfl, hb⟩
  · have hcs : fa = false ∨ (fa = true ∧ ¬ client.size ≤ 100) := by
      cases fa with
      | false => exact .inl rfl
      | true => exact .inr ⟨rfl, fun h => hc ⟨rfl, h⟩⟩
    clear HFEWA hc
    rcases hcs with rfl | ⟨rfl, h1⟩
    all_goals
      go_wp2_with fail
      refine HW.out.mono ?_
      rintro e w3 ⟨rfl, hb⟩
      go_wp2_with fail
      go_ret
      exact ⟨rfl, hb⟩
end Go.Proofs.Ytclhgnlhejohgaa.LaneW
