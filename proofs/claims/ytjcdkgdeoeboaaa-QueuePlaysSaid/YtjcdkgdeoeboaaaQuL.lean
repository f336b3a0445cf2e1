/- QueueOrder: what is pushed is popped in its order. -/
import Derived.Test.YtjcdkgdeoeboaaaQuK
set_option linter.unusedVariables false
set_option linter.unusedSimpArgs false
namespace Go.Proofs.Ytjcdkgdeoeboaaa.QuW
open Go.RowKit Go.Proofs.Ytjcdkgdeoeboaaa.Tc

theorem msgs_open {H : Type} {enc : TypeId × Value → H} {w : World} {base : Nat} {sp : Nat → Bool} {held : Bool} {A : Option Addr} {len cap : Nat} {d : DataW H} {ps : List MemPlace}
    (h : DataW.Trod enc Try.prog w base sp held 31 (.slice A len cap) d ps) : ∃ xs : List Mg, xs.length = len ∧ SliceIs kMsg w A xs := by
  obtain ⟨fuel, hf⟩ := h
  obtain ⟨A', c', xs, hcs, hx⟩ := slice_opens Try.underlying31 (by rw [cellsMsg]; decide) kMsg hf
  simp [Value.cells] at hcs
  obtain ⟨rfl, rfl, rfl⟩ := hcs
  exact ⟨xs, rfl, hx⟩
theorem rd_msgs {w : World} {A : Option Addr} {l : List Mg} (h : SliceIs kMsg w A l) : Rd w A (l.flatMap Mg.vals) := by
  intro h0
  rw [fl_len msg_len] at h0
  obtain ⟨b, off, hA, -, hc⟩ := h.at_ (by omega)
  refine ⟨b, off, hA, fun j u hu => ?_⟩
  have e1 : j = j / 9 * 9 + j % 9 := by omega
  rw [e1, fl_get msg_len l _ _ (by omega)] at hu
  cases hx : l[j / 9]? with
  | none => rw [hx] at hu; cases hu
  | some x =>
    rw [hx] at hu
    obtain ⟨cs, hr, hcell⟩ := hc _ x hx
    obtain ⟨rfl, _⟩ := (kMsg_rel _ _ _).1 hr
    have := hcell _ u hu
    rw [cellsMsg] at this
    rw [show off + j = off + j / 9 * 9 + j % 9 by omega]
    exact this
theorem msgs_ok {w : World} {A : Option Addr} {l : List Mg} (h : SliceIs kMsg w A l) {k : Nat} {m : Mg} (hm : l[k]? = some m) : m.wf ∧ SliceIs kProp w m.pA m.props := by
  have hlt := (List.getElem?_eq_some_iff.1 hm).1
  obtain ⟨b, off, hA, -, hc⟩ := h.at_ (by omega)
  obtain ⟨cs, hr, hcell⟩ := hc k m hm
  exact ((kMsg_rel _ _ _).1 hr).2
theorem ok_of {w : World} {m : Mg} (h : m.wf ∧ SliceIs kProp w m.pA m.props) (h70 : m.props.length ≤ 70) : Ok w.heap.size w m := by
  refine ⟨rd_slice h.2, fun ad hA h0 => ?_, h.1.2.2.2.2.1, h70⟩
  obtain ⟨b, off, hb, hlt, -⟩ := h.2.at_ h0
  rw [hA] at hb
  injection hb with hb
  subst hb
  exact .inl hlt
theorem drop_cons {l : List Mg} {k : Nat} {m : Mg} (h : l[k]? = some m) : l.drop k = m :: l.drop (k + 1) := by
  obtain ⟨hk, rfl⟩ := List.getElem?_eq_some_iff.1 h
  exact List.drop_eq_getElem_cons hk
theorem take_snoc {l : List Mg} {k : Nat} {m : Mg} (h : l[k]? = some m) : l.take (k + 1) = l.take k ++ [m] := by
  rw [List.take_add_one, h]; rfl
/-- What the queue has is what is left of the list, as far as its time has not come. -/
def Left (L l : List Mg) (now : Int) : Prop := (L.map bare).dropWhile (fun m => come m now) = (l.map bare).dropWhile fun m => come m now
theorem Left.skip {L l : List Mg} {now : Int} {k : Nat} {m : Mg} (h : Left L (l.drop k) now) (hm : l[k]? = some m) (hc : come m now = true) : Left L (l.drop (k + 1)) now := by
  unfold Left at *
  rw [drop_cons hm, List.map_cons, List.dropWhile_cons, come_bare, if_pos hc] at h
  exact h
theorem Left.hit {L l : List Mg} {now : Int} {k : Nat} {m : Mg} (h : Left L (l.drop k) now) (hm : l[k]? = some m) (hc : ¬ come m now = true) : ∃ x R, (L.dropWhile fun m => come m now) = x :: R ∧ bare x = bare m ∧ Left R (l.drop (k + 1)) now := by
  unfold Left at *
  rw [drop_cons hm, List.map_cons, List.dropWhile_cons, come_bare, if_neg hc, ← drop_map] at h
  cases hd : L.dropWhile fun m => come m now with
  | nil => rw [hd] at h; cases h
  | cons x R =>
    rw [hd, List.map_cons] at h
    injection h with h1 h2
    exact ⟨x, R, rfl, h1, by rw [h2]⟩
theorem Left.done {L l : List Mg} {now : Int} (h : Left L (l.drop l.length) now) : (L.dropWhile fun m => come m now) = [] := by
  unfold Left at h
  rw [List.drop_length, ← drop_map] at h
  cases hd : L.dropWhile fun m => come m now with
  | nil => rfl
  | cons x R => rw [hd] at h; cases h
set_option maxRecDepth 100000 in
set_option maxHeartbeats 4000000 in
theorem order_law (w : World) (A : Option Addr) (len cap : Nat) (l : List Mg) (now : Int) (hl : l.length = len ∧ SliceIs kMsg w A l) (hnow : (Lit.int .i64 now).wf = true) :
    Calls Try.prog 4 #[.slice A len cap, .int .i64 now] w fun e w' => e = .returned (.bool true) ∧ Below w.heap.size w w' := by
  obtain ⟨rfl, hS⟩ := hl
  have hlen := hS.len
  unfold maxLen at hlen
  have HR := Lib.hid (rd_msgs hS)
  have HO := Lib.hid (fun k m (hm : l[k]? = some m) => msgs_ok hS hm)
  have HREF := Lib.hid (Below.refl w.heap.size w)
  clear hS hnow
  by_cases h40 : 40 < l.length
  · have h41 : (40 : Int) < l.length := by omega
    go_enter Try.func4, Try.ntmps4
    go_wp2_with fail
    refine (awake_any _).mono ?_
    rintro e wz ⟨rfl, hb⟩
    have HBZ := Lib.hid (HREF.out.trans (hb.mono HREF.out.size))
    clear hb
    go_wp2_with fail
    go_ret
    exact ⟨rfl, HBZ.out⟩
  have h41 : ¬ (40 : Int) < l.length := by omega
  go_enter Try.func4, Try.ntmps4
  go_wp2_with fail
  refine (new_any w 40 w.heap.size (Nat.le_refl _)).mono ?_
  rintro e w1 ⟨rfl, hq, hb⟩
  have HQ1 := Lib.hid hq
  have HB1 := Lib.hid (Stp.of_below (B := w.heap.size) hb)
  clear hq hb
  go_wp2_with fail
  go_loopw [6] (fun x wr => ∃ (k : Nat) (v : Value) (L : List Mg), k ≤ l.length ∧ x = .int .i64 k ∧ Q 43 w.heap.size wr w.heap.size 40 v L ∧ L.map bare = (l.take k).map bare ∧ (∀ (j : Nat) (m : Mg), j < k → l[j]? = some m → m.props.length ≤ 70) ∧ Stp w.heap.size w wr) (fun x _ => l.length - (intOf x).toNat)
  case atStart => exact ⟨0, _, [], by omega, rfl, HQ1.out, rfl, by intro j m h; omega, HB1.out⟩
  case round =>
    obtain ⟨k, v, L, hk, rfl, hq, hL, h70, hst⟩ := hrel
    have hbw := hst.below (Nat.le_refl _)
    have hLl : L.length = k := by have := congrArg List.length hL; simp at this; omega
    by_cases hlt : k < l.length
    · obtain ⟨x, hx⟩ : ∃ x, l[k]? = some x := ⟨_, List.getElem?_eq_getElem hlt⟩
      obtain ⟨b, off, rfl, c0, c1, c2, c3, c4, c5, c6, c7, c8⟩ := rd_msg (HR.out.below hbw) hx
      have hxo := HO.out k x hx
      have hxl := hxo.2.len
      unfold maxLen at hxl
      have HSM := Lib.hid (small_any x wr ((rd_slice hxo.2).below hbw) (by omega))
      have HQ := Lib.hid hq
      have HL := Lib.hid hL
      have H70 := Lib.hid h70
      have HST := Lib.hid hst
      have HBW := Lib.hid hbw
      have HX := Lib.hid hx
      have HXO := Lib.hid hxo
      unfold Mg.val at HSM
      clear hq hL h70 hst hbw hx hxo hxl
      go_wp2_with fail
      refine HSM.out.mono ?_
      rintro e w2 ⟨⟨bb, rfl, hbb⟩, hb⟩
      have HB2 := Lib.hid (HBW.out.trans (hb.mono HBW.out.size))
      cases bb with
      | false =>
        clear hbb hb c0 c1 c2 c3 c4 c5 c6 c7 c8
        go_wp2_with fail
        refine (awake_any _).mono ?_
        rintro e wz ⟨rfl, hb⟩
        have HBZ := Lib.hid (HB2.out.trans (hb.mono HB2.out.size))
        clear hb
        go_wp2_with fail
        go_ret
        exact ⟨rfl, HBZ.out⟩
      | true =>
        have hx70 := hbb rfl
        have HXOK := Lib.hid ((ok_of HXO.out hx70).stp (HST.out.trans (Stp.of_below hb)))
        have HPU := Lib.hid (push_room (HQ.out.below hb) (by omega) x HXOK.out (by omega))
        have HST2 := Lib.hid (HST.out.trans (Stp.of_below hb))
        unfold Mg.val at HPU
        have d0 := (Same.of_below hb).cell c0
        have d1 := (Same.of_below hb).cell c1
        have d2 := (Same.of_below hb).cell c2
        have d3 := (Same.of_below hb).cell c3
        have d4 := (Same.of_below hb).cell c4
        have d5 := (Same.of_below hb).cell c5
        have d6 := (Same.of_below hb).cell c6
        have d7 := (Same.of_below hb).cell c7
        have d8 := (Same.of_below hb).cell c8
        clear hbb hb c0 c1 c2 c3 c4 c5 c6 c7 c8
        go_wp2_with fail
        refine HPU.out.mono ?_
        rintro e w3 ⟨rfl, v', L', hs, hL'⟩
        have HE := Lib.hid (show Q 43 w.heap.size w3 w.heap.size 40 v' L' ∧ L'.map bare = (l.take (k + 1)).map bare ∧ (∀ (j : Nat) (m : Mg), j < k + 1 → l[j]? = some m → m.props.length ≤ 70) ∧ Stp w.heap.size w w3 by
          refine ⟨hs.q, by rw [hL', HL.out, take_snoc HX.out, List.map_append]; rfl, ?_, HST2.out.trans hs.stp⟩
          intro j m hj hm
          by_cases e2 : j = k
          · subst e2
            have := HX.out
            rw [hm] at this
            injection this with this
            rw [this]; exact hx70
          · exact H70.out j m (by omega) hm)
        clear hs hL' d0 d1 d2 d3 d4 d5 d6 d7 d8
        go_wp2_with fail
        go_roundw
        case rel => exact ⟨k + 1, v', L', by omega, by go_num, HE.out.1, HE.out.2.1, HE.out.2.2.1, HE.out.2.2.2⟩
        case measure => simp [intOf]; omega
    · obtain rfl : k = l.length := by omega
      rw [List.take_length] at hL
      have HQ := Lib.hid hq
      have HST := Lib.hid hst
      have HLF := Lib.hid (show Left L (l.drop 0) now by unfold Left; rw [List.drop_zero, hL])
      have HLL := Lib.hid hLl
      have H70 := Lib.hid h70
      clear hq hL h70 hst hbw hLl
      go_wp2_with fail
      go_loopw [7] (fun y wr => ∃ (k : Nat) (v : Value) (L : List Mg), k ≤ l.length ∧ y = .int .i64 k ∧ Q 43 w.heap.size wr w.heap.size 40 v L ∧ L.length ≤ 40 ∧ Left L (l.drop k) now ∧ Stp w.heap.size w wr) (fun y _ => l.length - (intOf y).toNat)
      case atStart => exact ⟨0, _, L, by omega, rfl, HQ.out, by have := HLL.out; omega, HLF.out, HST.out⟩
      case round =>
        clear HQ HST HLF HLL
        obtain ⟨k, v, L, hk, rfl, hq, hL40, hlf, hst⟩ := hrel
        have hbw := hst.below (Nat.le_refl _)
        by_cases hlt : k < l.length
        · obtain ⟨x, hx⟩ : ∃ x, l[k]? = some x := ⟨_, List.getElem?_eq_getElem hlt⟩
          obtain ⟨b, off, rfl, c0, c1, c2, c3, c4, c5, c6, c7, c8⟩ := rd_msg (HR.out.below hbw) hx
          have HQ := Lib.hid hq
          have HST := Lib.hid hst
          have HX := Lib.hid hx
          by_cases h1 : 0 < x.until_
          · by_cases h2 : x.until_ ≤ now
            · have HLF := Lib.hid (hlf.skip hx (by unfold come; rw [decide_eq_true h1, decide_eq_true h2]; rfl))
              clear hq hst hx hlf hbw
              go_wp2_with fail
              go_roundw
              case rel => exact ⟨k + 1, v, L, by omega, by go_num, HQ.out, hL40, HLF.out, HST.out⟩
              case measure => simp [intOf]; omega
            · obtain ⟨y, R, hd, hby, hlf2⟩ := hlf.hit hx (by unfold come; rw [decide_eq_true h1, decide_eq_false h2]; exact Bool.false_ne_true)
              have HD := Lib.hid hd
              have HBY := Lib.hid hby
              have HLF := Lib.hid hlf2
              have HPO := Lib.hid (pop_any hq (by omega) now)
              have hRl : R.length + 1 ≤ 40 := by
                have h9 := congrArg List.length hd
                have h8 := (List.dropWhile_suffix (l := L) fun m => come m now).length_le
                rw [h9] at h8
                simp at h8
                omega
              have HXO := Lib.hid (HO.out k x hx)
              clear hq hst hx hlf hlf2 hd hby
              go_wp2_with fail
              refine HPO.out.mono ?_
              rintro e w2 ⟨-, hcc, v', hs⟩
              obtain ⟨m', rfl, hb', hok⟩ := hcc y R HD.out
              rw [HD.out] at hs
              have hsim := sim_of (hb'.trans HBY.out)
              have hb3 := alloc_below w2 (.cells #[.string m'.topic, .string m'.payload, .int .i64 m'.qos, .bool m'.retain, .slice m'.pA m'.props.length m'.pc, .string m'.from_, .int .i64 m'.until_, .int .i64 m'.seq, .string m'.group] 24)
              have hx3 := heap_alloc_new w2 (.cells #[.string m'.topic, .string m'.payload, .int .i64 m'.qos, .bool m'.retain, .slice m'.pA m'.props.length m'.pc, .string m'.from_, .int .i64 m'.until_, .int .i64 m'.seq, .string m'.group] 24)
              obtain ⟨w3, hw3⟩ : ∃ w3, w3 = w2.alloc (.cells #[.string m'.topic, .string m'.payload, .int .i64 m'.qos, .bool m'.retain, .slice m'.pA m'.props.length m'.pc, .string m'.from_, .int .i64 m'.until_, .int .i64 m'.seq, .string m'.group] 24) := ⟨_, rfl⟩
              have HW3 := Lib.hid hw3
              rw [← hw3] at hb3 hx3
              have hst3 := (HST.out.trans hs.stp).trans (Stp.of_below hb3)
              have hbw3 := hst3.below (Nat.le_refl _)
              have HQ3 := Lib.hid (hs.q.below hb3)
              have HST3 := Lib.hid hst3
              have HSAM := Lib.hid (fun n : Wd (Gr w3) => samem_any m' x hsim n.w ((hok.rd.below hb3).below n.ok) (((rd_slice HXO.out.2).below hbw3).below n.ok) (by have := hok.few; omega))
              obtain ⟨b2, off2, hA2, e0, e1, e2, e3, e4, e5, e6, e7, e8⟩ := rd_msg (HR.out.below hbw3) HX.out
              injection hA2 with hA2
              injection hA2 with hA3 hA4
              subst hA3 hA4
              have x0 := fun n : Wd (Gr w3) => n.cell (cell_of hx3 (o := 0) (v := .string m'.topic) rfl)
              have x1 := fun n : Wd (Gr w3) => n.cell (cell_of hx3 (o := 1) (v := .string m'.payload) rfl)
              have x2 := fun n : Wd (Gr w3) => n.cell (cell_of hx3 (o := 2) (v := .int .i64 m'.qos) rfl)
              have x3 := fun n : Wd (Gr w3) => n.cell (cell_of hx3 (o := 3) (v := .bool m'.retain) rfl)
              have x4 := fun n : Wd (Gr w3) => n.cell (cell_of hx3 (o := 4) (v := .slice m'.pA m'.props.length m'.pc) rfl)
              have x5 := fun n : Wd (Gr w3) => n.cell (cell_of hx3 (o := 5) (v := .string m'.from_) rfl)
              have x6 := fun n : Wd (Gr w3) => n.cell (cell_of hx3 (o := 6) (v := .int .i64 m'.until_) rfl)
              have x7 := fun n : Wd (Gr w3) => n.cell (cell_of hx3 (o := 7) (v := .int .i64 m'.seq) rfl)
              have x8 := fun n : Wd (Gr w3) => n.cell (cell_of hx3 (o := 8) (v := .string m'.group) rfl)
              have y0 := fun n : Wd (Gr w3) => n.cell e0
              have y1 := fun n : Wd (Gr w3) => n.cell e1
              have y2 := fun n : Wd (Gr w3) => n.cell e2
              have y3 := fun n : Wd (Gr w3) => n.cell e3
              have y4 := fun n : Wd (Gr w3) => n.cell e4
              have y5 := fun n : Wd (Gr w3) => n.cell e5
              have y6 := fun n : Wd (Gr w3) => n.cell e6
              have y7 := fun n : Wd (Gr w3) => n.cell e7
              have y8 := fun n : Wd (Gr w3) => n.cell e8
              have hk1 : (k : Int) < l.length := by omega
              unfold Mg.val at HSAM
              unfold Mg.val
              clear hcc hs hb' hok hsim hb3 hx3 hw3 hst3 hbw3 hbw c0 c1 c2 c3 c4 c5 c6 c7 c8 e0 e1 e2 e3 e4 e5 e6 e7 e8
              go_upto_region 16 with (fail)
              rw [← HW3.out]
              clear HW3
              refine wp_region_cls (Gr _) (gr_drew _) (by kernel_rfl) (by kernel_rfl) ?_
              repeat (go_big_quiet_step ((go_at_call 11; exact cls_call (HSAM.out _))))
              refine wpQuiet_nil ?_
              rintro wq ⟨nq, hnq⟩
              have hq := nq.ok
              rw [← hnq] at hq
              have HE := Lib.hid (show Q 43 w.heap.size wq w.heap.size 40 v' R ∧ Stp w.heap.size w wq from ⟨HQ3.out.below hq, HST3.out.trans (Stp.of_below hq)⟩)
              clear hnq nq hq x0 y0 x1 y1 x2 y2 x3 y3 x4 y4 x5 y5 x6 y6 x7 y7 x8 y8
              go_wp2_with fail
              go_roundw
              case rel => exact ⟨k + 1, v', R, by omega, by go_num, HE.out.1, by omega, HLF.out, HE.out.2⟩
              case measure => simp [intOf]; omega
          · obtain ⟨y, R, hd, hby, hlf2⟩ := hlf.hit hx (by unfold come; rw [decide_eq_false h1]; exact Bool.false_ne_true)
            have HD := Lib.hid hd
            have HBY := Lib.hid hby
            have HLF := Lib.hid hlf2
            have HPO := Lib.hid (pop_any hq (by omega) now)
            have hRl : R.length + 1 ≤ 40 := by
              have h9 := congrArg List.length hd
              have h8 := (List.dropWhile_suffix (l := L) fun m => come m now).length_le
              rw [h9] at h8
              simp at h8
              omega
            have HXO := Lib.hid (HO.out k x hx)
            clear hq hst hx hlf hlf2 hd hby
            go_wp2_with fail
            refine HPO.out.mono ?_
            rintro e w2 ⟨-, hcc, v', hs⟩
            obtain ⟨m', rfl, hb', hok⟩ := hcc y R HD.out
            rw [HD.out] at hs
            have hsim := sim_of (hb'.trans HBY.out)
            have hb3 := alloc_below w2 (.cells #[.string m'.topic, .string m'.payload, .int .i64 m'.qos, .bool m'.retain, .slice m'.pA m'.props.length m'.pc, .string m'.from_, .int .i64 m'.until_, .int .i64 m'.seq, .string m'.group] 24)
            have hx3 := heap_alloc_new w2 (.cells #[.string m'.topic, .string m'.payload, .int .i64 m'.qos, .bool m'.retain, .slice m'.pA m'.props.length m'.pc, .string m'.from_, .int .i64 m'.until_, .int .i64 m'.seq, .string m'.group] 24)
            obtain ⟨w3, hw3⟩ : ∃ w3, w3 = w2.alloc (.cells #[.string m'.topic, .string m'.payload, .int .i64 m'.qos, .bool m'.retain, .slice m'.pA m'.props.length m'.pc, .string m'.from_, .int .i64 m'.until_, .int .i64 m'.seq, .string m'.group] 24) := ⟨_, rfl⟩
            have HW3 := Lib.hid hw3
            rw [← hw3] at hb3 hx3
            have hst3 := (HST.out.trans hs.stp).trans (Stp.of_below hb3)
            have hbw3 := hst3.below (Nat.le_refl _)
            have HQ3 := Lib.hid (hs.q.below hb3)
            have HST3 := Lib.hid hst3
            have HSAM := Lib.hid (fun n : Wd (Gr w3) => samem_any m' x hsim n.w ((hok.rd.below hb3).below n.ok) (((rd_slice HXO.out.2).below hbw3).below n.ok) (by have := hok.few; omega))
            obtain ⟨b2, off2, hA2, e0, e1, e2, e3, e4, e5, e6, e7, e8⟩ := rd_msg (HR.out.below hbw3) HX.out
            injection hA2 with hA2
            injection hA2 with hA3 hA4
            subst hA3 hA4
            have x0 := fun n : Wd (Gr w3) => n.cell (cell_of hx3 (o := 0) (v := .string m'.topic) rfl)
            have x1 := fun n : Wd (Gr w3) => n.cell (cell_of hx3 (o := 1) (v := .string m'.payload) rfl)
            have x2 := fun n : Wd (Gr w3) => n.cell (cell_of hx3 (o := 2) (v := .int .i64 m'.qos) rfl)
            have x3 := fun n : Wd (Gr w3) => n.cell (cell_of hx3 (o := 3) (v := .bool m'.retain) rfl)
            have x4 := fun n : Wd (Gr w3) => n.cell (cell_of hx3 (o := 4) (v := .slice m'.pA m'.props.length m'.pc) rfl)
            have x5 := fun n : Wd (Gr w3) => n.cell (cell_of hx3 (o := 5) (v := .string m'.from_) rfl)
            have x6 := fun n : Wd (Gr w3) => n.cell (cell_of hx3 (o := 6) (v := .int .i64 m'.until_) rfl)
            have x7 := fun n : Wd (Gr w3) => n.cell (cell_of hx3 (o := 7) (v := .int .i64 m'.seq) rfl)
            have x8 := fun n : Wd (Gr w3) => n.cell (cell_of hx3 (o := 8) (v := .string m'.group) rfl)
            have y0 := fun n : Wd (Gr w3) => n.cell e0
            have y1 := fun n : Wd (Gr w3) => n.cell e1
            have y2 := fun n : Wd (Gr w3) => n.cell e2
            have y3 := fun n : Wd (Gr w3) => n.cell e3
            have y4 := fun n : Wd (Gr w3) => n.cell e4
            have y5 := fun n : Wd (Gr w3) => n.cell e5
            have y6 := fun n : Wd (Gr w3) => n.cell e6
            have y7 := fun n : Wd (Gr w3) => n.cell e7
            have y8 := fun n : Wd (Gr w3) => n.cell e8
            have hk1 : (k : Int) < l.length := by omega
            unfold Mg.val at HSAM
            unfold Mg.val
            clear hcc hs hb' hok hsim hb3 hx3 hw3 hst3 hbw3 hbw c0 c1 c2 c3 c4 c5 c6 c7 c8 e0 e1 e2 e3 e4 e5 e6 e7 e8
            go_upto_region 16 with (fail)
            rw [← HW3.out]
            clear HW3
            refine wp_region_cls (Gr _) (gr_drew _) (by kernel_rfl) (by kernel_rfl) ?_
            repeat (go_big_quiet_step ((go_at_call 11; exact cls_call (HSAM.out _))))
            refine wpQuiet_nil ?_
            rintro wq ⟨nq, hnq⟩
            have hq := nq.ok
            rw [← hnq] at hq
            have HE := Lib.hid (show Q 43 w.heap.size wq w.heap.size 40 v' R ∧ Stp w.heap.size w wq from ⟨HQ3.out.below hq, HST3.out.trans (Stp.of_below hq)⟩)
            clear hnq nq hq x0 y0 x1 y1 x2 y2 x3 y3 x4 y4 x5 y5 x6 y6 x7 y7 x8 y8
            go_wp2_with fail
            go_roundw
            case rel => exact ⟨k + 1, v', R, by omega, by go_num, HE.out.1, by omega, HLF.out, HE.out.2⟩
            case measure => simp [intOf]; omega
        · obtain rfl : k = l.length := by omega
          have hd := hlf.done
          have HD := Lib.hid hd
          have HPO := Lib.hid (pop_any hq (by omega) now)
          have HST := Lib.hid hst
          clear hq hst hlf hbw hd
          go_wp2_with fail
          refine HPO.out.mono ?_
          rintro e w2 ⟨hn, -, v', hs⟩
          obtain rfl := hn HD.out
          rw [HD.out] at hs
          have HS2 := Lib.hid (show Q 43 w.heap.size (w2.alloc (.cells #[.string ⟨#[]⟩, .string ⟨#[]⟩, .int .i64 0, .bool false, .slice none 0 0, .string ⟨#[]⟩, .int .i64 0, .int .i64 0, .string ⟨#[]⟩] 24)) w.heap.size 40 v' [] from hs.q.below (alloc_below w2 _))
          have HST2 := Lib.hid ((HST.out.trans hs.stp).trans (Stp.of_below (alloc_below w2 (.cells #[.string ⟨#[]⟩, .string ⟨#[]⟩, .int .i64 0, .bool false, .slice none 0 0, .string ⟨#[]⟩, .int .i64 0, .int .i64 0, .string ⟨#[]⟩] 24))))
          have HLN := Lib.hid (len_any HS2.out)
          unfold Mg.val mg0
          clear hn hs
          go_wp2_with fail
          refine HLN.out.mono ?_
          rintro e w4 ⟨rfl, rfl⟩
          have HBW := Lib.hid (HST2.out.below (Nat.le_refl _))
          go_wp2_with fail
          refine (awake_any _).mono ?_
          rintro e wz ⟨rfl, hb⟩
          have HBZ := Lib.hid (HBW.out.trans (hb.mono HBW.out.size))
          clear hb
          go_wp2_with fail
          go_ret
          exact ⟨rfl, HBZ.out⟩
end Go.Proofs.Ytjcdkgdeoeboaaa.QuW
