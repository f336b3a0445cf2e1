/- Queues: what must come; QueueLeft. -/
import Derived.Test.YtjcdkgdeoeboaaaQuJ
set_option linter.unusedVariables false
set_option linter.unusedSimpArgs false
namespace Go.Proofs.Ytjcdkgdeoeboaaa.QuW
open Go.RowKit Go.Proofs.Ytjcdkgdeoeboaaa.Tc

theorem push_room {B : Nat} {w : World} {s : Nat} {most : Int} {v : Value} {L : List Mg} (h : Q 43 B w s most v L) (hl : L.length < 100000) (m : Mg) (hm : Ok B w m) (hr : (L.length : Int) < most) :
    Calls Try.prog 13 #[.pointer (some ⟨s, 0, none⟩), m.val] w fun e w' => e = .returned (.bool true) ∧ ∃ v' L', Step 43 B w s most v L' w' v' ∧ L'.map bare = L.map bare ++ [bare m] := by
  refine (push_any h hl m hm).mono ?_
  rintro e w' ⟨v', L', rfl, hs, hL⟩
  rw [if_pos hr] at hL
  exact ⟨by rw [decide_eq_true hr], v', L', hs, hL⟩
theorem push_full {B : Nat} {w : World} {s : Nat} {most : Int} {v : Value} {L : List Mg} (h : Q 43 B w s most v L) (hl : L.length < 100000) (m : Mg) (hm : Ok B w m) (hr : ¬ (L.length : Int) < most) :
    Calls Try.prog 13 #[.pointer (some ⟨s, 0, none⟩), m.val] w fun e w' => e = .returned (.bool false) ∧ ∃ v' L', Step 43 B w s most v L' w' v' ∧ L'.map bare = L.map bare := by
  refine (push_any h hl m hm).mono ?_
  rintro e w' ⟨v', L', rfl, hs, hL⟩
  rw [if_neg hr] at hL
  exact ⟨by rw [decide_eq_false hr], v', L', hs, hL⟩
/-- A message of the code's own: a topic and a time. -/
def mt (t : ByteArray) (u : Int) : Mg := ⟨t, ⟨#[]⟩, 0, false, none, 0, [], ⟨#[]⟩, u, 0, ⟨#[]⟩⟩
theorem mt_ok (B : Nat) (w : World) (t : ByteArray) {u : Int} (hu : (Lit.int .i64 u).wf = true) : Ok B w (mt t u) := ⟨Rd.nil _ _, (fun ad h => by cases h), hu, by show 0 ≤ 70; omega⟩
theorem mt_val (t : ByteArray) (u : Int) : (mt t u).val = .agg #[.string t, .string ⟨#[]⟩, .int .i64 0, .bool false, .slice none 0 0, .string ⟨#[]⟩, .int .i64 u, .int .i64 0, .string ⟨#[]⟩] := rfl
set_option maxRecDepth 100000 in
set_option maxHeartbeats 4000000 in
theorem awake_any (w : World) : Calls Try.prog 8 #[] w fun e w' => e = .returned (.bool true) ∧ Below w.heap.size w w' := by
  have HN := Lib.hid (new_any w 2 w.heap.size (Nat.le_refl _))
  go_enter Try.func8, Try.ntmps8
  go_wp2_with fail
  refine HN.out.mono ?_
  rintro e w1 ⟨rfl, hq, hb⟩
  have HP1 := Lib.hid (push_room hq (by simp) (mt ⟨#[97]⟩ 5) (mt_ok _ _ _ (by decide)) (by simp))
  rw [mt_val] at HP1
  have HB1 := Lib.hid (Stp.of_below (B := w.heap.size) hb)
  clear hq hb HN
  go_wp2_with fail
  refine HP1.out.mono ?_
  rintro e w2 ⟨rfl, v2, L2, hs, hL⟩
  have hl2 : L2.length = 1 := by have := congrArg List.length hL; simpa using this
  have HP2 := Lib.hid (push_room hs.q (by omega) (mt ⟨#[98]⟩ 0) (mt_ok _ _ _ (by decide)) (by rw [hl2]; decide))
  rw [mt_val] at HP2
  have HB2 := Lib.hid (HB1.out.trans hs.stp)
  have HL2 := Lib.hid hL
  clear hs hL hl2 HP1
  go_wp2_with fail
  refine HP2.out.mono ?_
  rintro e w3 ⟨rfl, v3, L3, hs, hL⟩
  rw [HL2.out] at hL
  have hl3 : L3.length = 2 := by have := congrArg List.length hL; simpa using this
  have HP3 := Lib.hid (push_full hs.q (by omega) (mt ⟨#[99]⟩ 0) (mt_ok _ _ _ (by decide)) (by rw [hl3]; decide))
  rw [mt_val] at HP3
  have HB3 := Lib.hid (HB2.out.trans hs.stp)
  have HL3 := Lib.hid hL
  clear hs hL hl3 HP2 HL2
  go_wp2_with fail
  refine HP3.out.mono ?_
  rintro e w4 ⟨rfl, v4, L4, hs, hL⟩
  rw [HL3.out] at hL
  have hl4 : L4.length = 2 := by have := congrArg List.length hL; simpa using this
  have HPO := Lib.hid (pop_any hs.q (by omega) 5)
  have HB4 := Lib.hid (HB3.out.trans hs.stp)
  have hd : (L4.dropWhile fun m => come m 5).map bare = [bare (mt ⟨#[98]⟩ 0)] := by rw [drop_map, hL]; rfl
  obtain ⟨m0, hm0, hbm⟩ : ∃ m0, (L4.dropWhile fun m => come m 5) = [m0] ∧ bare m0 = bare (mt ⟨#[98]⟩ 0) := by
    cases hx : L4.dropWhile fun m => come m 5 with
    | nil => rw [hx] at hd; cases hd
    | cons m0 R =>
      rw [hx] at hd
      cases R with
      | nil => exact ⟨m0, rfl, by simpa using hd⟩
      | cons m1 R => simp at hd
  have HM0 := Lib.hid hm0
  have HBM := Lib.hid hbm
  clear hs hL hl4 HP3 HL3 hd hm0 hbm
  go_wp2_with fail
  refine HPO.out.mono ?_
  rintro e w5 ⟨-, hc, v5, hs⟩
  obtain ⟨m', rfl, hbm', -⟩ := hc m0 [] HM0.out
  rw [HM0.out] at hs
  have htop : m'.topic = ⟨#[98]⟩ := congrArg Mg.topic (hbm'.trans HBM.out)
  have HTOP := Lib.hid htop
  have hb6 := alloc_below w5 (.cells #[.string m'.topic, .string m'.payload, .int .i64 m'.qos, .bool m'.retain, .slice m'.pA m'.props.length m'.pc, .string m'.from_, .int .i64 m'.until_, .int .i64 m'.seq, .string m'.group] 24)
  have hx6 := heap_alloc_new w5 (.cells #[.string m'.topic, .string m'.payload, .int .i64 m'.qos, .bool m'.retain, .slice m'.pA m'.props.length m'.pc, .string m'.from_, .int .i64 m'.until_, .int .i64 m'.seq, .string m'.group] 24)
  obtain ⟨w6, hw6⟩ : ∃ w6, w6 = w5.alloc (.cells #[.string m'.topic, .string m'.payload, .int .i64 m'.qos, .bool m'.retain, .slice m'.pA m'.props.length m'.pc, .string m'.from_, .int .i64 m'.until_, .int .i64 m'.seq, .string m'.group] 24) := ⟨_, rfl⟩
  have HW6 := Lib.hid hw6
  rw [← hw6] at hb6 hx6
  have HQ6 := Lib.hid (hs.q.below hb6)
  have HB6 := Lib.hid ((HB4.out.trans hs.stp).trans (Stp.of_below hb6))
  have HX6 := Lib.hid hx6
  have HLF := Lib.hid (left_any (mt ⟨#[]⟩ 9) 5 w6 (Rd.nil _ _) (by show 0 < 100000; omega) (by decide) (by decide))
  rw [mt_val] at HLF
  unfold Mg.val
  clear hc hs hbm' htop hb6 hx6 hw6 HPO HM0 HBM
  go_upto_region 4 with (fail)
  rw [← HW6.out]
  clear HW6
  go_wp2_with fail
  refine HLF.out.mono ?_
  rintro e w7 ⟨-, hc, hb7⟩
  obtain ⟨m2, rfl, hsim, hrd⟩ := hc rfl
  have hpr : m2.props = [⟨2, 4, ⟨#[]⟩, ⟨#[]⟩⟩] := hsim.props
  rw [hpr] at hrd
  have hb8 := alloc_below w7 (.cells #[.string m2.topic, .string m2.payload, .int .i64 m2.qos, .bool m2.retain, .slice m2.pA m2.props.length m2.pc, .string m2.from_, .int .i64 m2.until_, .int .i64 m2.seq, .string m2.group] 24)
  have hx8 := heap_alloc_new w7 (.cells #[.string m2.topic, .string m2.payload, .int .i64 m2.qos, .bool m2.retain, .slice m2.pA m2.props.length m2.pc, .string m2.from_, .int .i64 m2.until_, .int .i64 m2.seq, .string m2.group] 24)
  have hval : m2.val = .agg #[.string m2.topic, .string m2.payload, .int .i64 m2.qos, .bool m2.retain, .slice m2.pA m2.props.length m2.pc, .string m2.from_, .int .i64 m2.until_, .int .i64 m2.seq, .string m2.group] := rfl
  rw [hpr] at hb8 hx8 hval
  rw [hval]
  simp only [List.length_cons, List.length_nil, Nat.zero_add] at hb8 hx8 ⊢
  obtain ⟨w8, hw8⟩ : ∃ w8, w8 = w7.alloc (.cells #[.string m2.topic, .string m2.payload, .int .i64 m2.qos, .bool m2.retain, .slice m2.pA 1 m2.pc, .string m2.from_, .int .i64 m2.until_, .int .i64 m2.seq, .string m2.group] 24) := ⟨_, rfl⟩
  have HW8 := Lib.hid hw8
  rw [← hw8] at hb8 hx8
  have hb68 := hb7.trans (hb8.mono hb7.size)
  have HLN := Lib.hid (len_any (HQ6.out.below hb68))
  have HNU := Lib.hid (fun W (hb : Below w8.heap.size w8 W) => number_first ⟨2, 4, ⟨#[]⟩, ⟨#[]⟩⟩ [] 0 W m2.pA m2.pc ((hrd.below hb8).below hb) (by simp))
  have d0 : w8.cell? ⟨w5.heap.size, 0, none⟩ = some (.string m'.topic) := cell_of ((hb68.block _ (lt_of_block HX6.out)).trans HX6.out) rfl
  have d4 : w8.cell? ⟨w7.heap.size, 4, none⟩ = some (.slice m2.pA 1 m2.pc) := cell_of hx8 rfl
  have hto : (m'.topic.toList == [98]) = true := by rw [HTOP.out, ByteArray.toList_eq]; rfl
  have HB8 := Lib.hid (HB6.out.trans (Stp.of_below hb68))
  simp only [List.tail_cons, List.length_nil, if_true] at HLN
  have HNU2 := HNU.out w8 (Below.refl _ _)
  simp only [List.length_nil, Nat.zero_add] at HNU2
  have HNUM := Lib.hid HNU2
  clear hc hb7 hsim hpr hrd hb8 hx8 hval hw8 hb68 HNU HNU2 HLF
  go_upto_region 5 with (fail)
  rw [← HW8.out]
  clear HW8
  go_wp2_with fail
  refine HLN.out.mono ?_
  rintro e w9 ⟨rfl, rfl⟩
  go_wp2_with fail
  refine HNUM.out.mono ?_
  rintro e w9 ⟨rfl, hb⟩
  have HE := Lib.hid ((HB8.out.trans (Stp.of_below hb)).below (Nat.le_refl _))
  clear hb
  go_wp2_with fail
  go_ret
  exact ⟨rfl, HE.out⟩
theorem msg_open {H : Type} {enc : TypeId × Value → H} {w : World} {base : Nat} {sp : Nat → Bool} {held : Bool} {v : Value} {d : DataW H} {ps : List MemPlace} {P : Prop} (hv : P)
    (h : DataW.Trod enc Try.prog w base sp held 24 v d ps) : ∃ m : Mg, v = m.val ∧ (m.wf ∧ SliceIs kProp w m.pA m.props) := by
  obtain ⟨fuel, hf⟩ := h
  obtain ⟨m, hx⟩ := kMsg.opens hf
  obtain ⟨hc, hw, hs⟩ := (kMsg_rel _ _ _).1 hx
  refine ⟨m, ?_, hw, hs⟩
  unfold Mg.vals at hc
  unfold Mg.val
  cases v <;> first | (simp [Value.cells] at hc; done) | (simp only [Value.cells] at hc; rw [Value.agg.injEq]; apply Array.ext'; exact hc)
set_option maxRecDepth 100000 in
set_option maxHeartbeats 4000000 in
theorem left_law (w : World) (m : Mg) (now : Int) (hm : m.wf ∧ SliceIs kProp w m.pA m.props) (hnow : (Lit.int .i64 now).wf = true) :
    Calls Try.prog 3 #[m.val, .int .i64 now] w fun e w' => e = .returned (.bool true) ∧ Below w.heap.size w w' := by
  have hb0 := alloc_below w (.cells #[.string m.topic, .string m.payload, .int .i64 m.qos, .bool m.retain, .slice m.pA m.props.length m.pc, .string m.from_, .int .i64 m.until_, .int .i64 m.seq, .string m.group] 24)
  have hz0 := heap_alloc_new w (.cells #[.string m.topic, .string m.payload, .int .i64 m.qos, .bool m.retain, .slice m.pA m.props.length m.pc, .string m.from_, .int .i64 m.until_, .int .i64 m.seq, .string m.group] 24)
  obtain ⟨W, hW⟩ : ∃ W, W = w.alloc (.cells #[.string m.topic, .string m.payload, .int .i64 m.qos, .bool m.retain, .slice m.pA m.props.length m.pc, .string m.from_, .int .i64 m.until_, .int .i64 m.seq, .string m.group] 24) := ⟨_, rfl⟩
  have HW := Lib.hid hW
  rw [← hW] at hb0 hz0
  have hrd := (rd_slice hm.2).below hb0
  have hlen := hm.2.len
  unfold maxLen at hlen
  have HSM := Lib.hid (small_any m W hrd (by omega))
  have HUW := Lib.hid hm.1.2.2.2.2.1
  have HB0 := Lib.hid hb0
  have HZ0 := Lib.hid hz0
  have HRD := Lib.hid hrd
  have HNW := Lib.hid hnow
  unfold Mg.val at HSM
  unfold Mg.val
  have a0 : W.cell? ⟨w.heap.size, 0, none⟩ = some (.string m.topic) := cell_of HZ0.out rfl
  have a1 : W.cell? ⟨w.heap.size, 1, none⟩ = some (.string m.payload) := cell_of HZ0.out rfl
  have a2 : W.cell? ⟨w.heap.size, 2, none⟩ = some (.int .i64 m.qos) := cell_of HZ0.out rfl
  have a3 : W.cell? ⟨w.heap.size, 3, none⟩ = some (.bool m.retain) := cell_of HZ0.out rfl
  have a4 : W.cell? ⟨w.heap.size, 4, none⟩ = some (.slice m.pA m.props.length m.pc) := cell_of HZ0.out rfl
  have a5 : W.cell? ⟨w.heap.size, 5, none⟩ = some (.string m.from_) := cell_of HZ0.out rfl
  have a6 : W.cell? ⟨w.heap.size, 6, none⟩ = some (.int .i64 m.until_) := cell_of HZ0.out rfl
  have a7 : W.cell? ⟨w.heap.size, 7, none⟩ = some (.int .i64 m.seq) := cell_of HZ0.out rfl
  have a8 : W.cell? ⟨w.heap.size, 8, none⟩ = some (.string m.group) := cell_of HZ0.out rfl
  clear hm hb0 hz0 hW hrd hlen hnow
  go_enter Try.func3, Try.ntmps3
  go_upto_region 1 with (fail)
  rw [← HW.out]
  clear HW
  go_wp2_with fail
  refine HSM.out.mono ?_
  rintro e w1 ⟨⟨b, rfl, hbb⟩, hb⟩
  have HB1 := Lib.hid (HB0.out.trans (hb.mono HB0.out.size))
  cases b with
  | false =>
    clear hbb hb a0 a1 a2 a3 a4 a5 a6 a7 a8
    go_wp2_with fail
    refine (awake_any _).mono ?_
    rintro e w2 ⟨rfl, hb⟩
    have HB2 := Lib.hid (HB1.out.trans (hb.mono HB1.out.size))
    clear hb
    go_wp2_with fail
    go_ret
    exact ⟨rfl, HB2.out⟩
  | true =>
    have h70 := hbb rfl
    have HZ1 := Lib.hid ((hb.block _ (lt_of_block HZ0.out)).trans HZ0.out)
    have HRD1 := Lib.hid (HRD.out.below hb)
    have HL := Lib.hid (left_any m now w1 (HRD.out.below hb) (by omega) HUW.out HNW.out)
    unfold Mg.val at HL
    clear hbb hb a0 a1 a2 a3 a4 a5 a6 a7 a8
    have b0 : w1.cell? ⟨w.heap.size, 0, none⟩ = some (.string m.topic) := cell_of HZ1.out rfl
    have b1 : w1.cell? ⟨w.heap.size, 1, none⟩ = some (.string m.payload) := cell_of HZ1.out rfl
    have b2 : w1.cell? ⟨w.heap.size, 2, none⟩ = some (.int .i64 m.qos) := cell_of HZ1.out rfl
    have b3 : w1.cell? ⟨w.heap.size, 3, none⟩ = some (.bool m.retain) := cell_of HZ1.out rfl
    have b4 : w1.cell? ⟨w.heap.size, 4, none⟩ = some (.slice m.pA m.props.length m.pc) := cell_of HZ1.out rfl
    have b5 : w1.cell? ⟨w.heap.size, 5, none⟩ = some (.string m.from_) := cell_of HZ1.out rfl
    have b6 : w1.cell? ⟨w.heap.size, 6, none⟩ = some (.int .i64 m.until_) := cell_of HZ1.out rfl
    have b7 : w1.cell? ⟨w.heap.size, 7, none⟩ = some (.int .i64 m.seq) := cell_of HZ1.out rfl
    have b8 : w1.cell? ⟨w.heap.size, 8, none⟩ = some (.string m.group) := cell_of HZ1.out rfl
    go_wp2_with fail
    refine HL.out.mono ?_
    rintro e w2 ⟨h1, h2, hb2⟩
    have HRD2 := Lib.hid (HRD1.out.below hb2)
    have HZ2 := Lib.hid ((hb2.block _ (lt_of_block HZ1.out)).trans HZ1.out)
    have HB2 := Lib.hid (HB1.out.trans (hb2.mono HB1.out.size))
    clear b0 b1 b2 b3 b4 b5 b6 b7 b8 hb2 HL
    obtain ⟨a, ok, rfl, HA⟩ : ∃ a ok, e = .returned (.tuple #[Mg.val a, .bool ok]) ∧ Hid (ok = !come m now ∧ (ok = false → a = mg0) ∧ (ok = true → Sim a { m with props := leftP m now }) ∧ Rd w2 a.pA (a.props.flatMap Prp.cells)) := by
      cases hc : come m now with
      | true => exact ⟨mg0, false, h1 hc, Lib.hid ⟨rfl, fun _ => rfl, (fun h => by cases h), Rd.nil _ _⟩⟩
      | false =>
        obtain ⟨m', he, hs, hr⟩ := h2 hc
        exact ⟨m', true, he, Lib.hid ⟨rfl, (fun h => by cases h), fun _ => hs, hr⟩⟩
    clear h1 h2
    unfold Mg.val
    have hbw3 := alloc_below w2 (.cells #[.string a.topic, .string a.payload, .int .i64 a.qos, .bool a.retain, .slice a.pA a.props.length a.pc, .string a.from_, .int .i64 a.until_, .int .i64 a.seq, .string a.group] 24)
    have hxw3 := heap_alloc_new w2 (.cells #[.string a.topic, .string a.payload, .int .i64 a.qos, .bool a.retain, .slice a.pA a.props.length a.pc, .string a.from_, .int .i64 a.until_, .int .i64 a.seq, .string a.group] 24)
    obtain ⟨w3, hw3⟩ : ∃ w3, w3 = w2.alloc (.cells #[.string a.topic, .string a.payload, .int .i64 a.qos, .bool a.retain, .slice a.pA a.props.length a.pc, .string a.from_, .int .i64 a.until_, .int .i64 a.seq, .string a.group] 24) := ⟨_, rfl⟩
    have HWw3 := Lib.hid hw3
    rw [← hw3] at hbw3 hxw3
    have HBw3 := Lib.hid hbw3
    have HXw3 := Lib.hid hxw3
    clear hw3 hbw3 hxw3
    have HZ3 := Lib.hid ((HBw3.out.block _ (lt_of_block HZ2.out)).trans HZ2.out)
    have HL2 := Lib.hid (rleft_any m now w3 (HRD2.out.below HBw3.out) (by omega) HUW.out HNW.out)
    unfold Mg.val at HL2
    have b0 : w3.cell? ⟨w.heap.size, 0, none⟩ = some (.string m.topic) := cell_of HZ3.out rfl
    have b1 : w3.cell? ⟨w.heap.size, 1, none⟩ = some (.string m.payload) := cell_of HZ3.out rfl
    have b2 : w3.cell? ⟨w.heap.size, 2, none⟩ = some (.int .i64 m.qos) := cell_of HZ3.out rfl
    have b3 : w3.cell? ⟨w.heap.size, 3, none⟩ = some (.bool m.retain) := cell_of HZ3.out rfl
    have b4 : w3.cell? ⟨w.heap.size, 4, none⟩ = some (.slice m.pA m.props.length m.pc) := cell_of HZ3.out rfl
    have b5 : w3.cell? ⟨w.heap.size, 5, none⟩ = some (.string m.from_) := cell_of HZ3.out rfl
    have b6 : w3.cell? ⟨w.heap.size, 6, none⟩ = some (.int .i64 m.until_) := cell_of HZ3.out rfl
    have b7 : w3.cell? ⟨w.heap.size, 7, none⟩ = some (.int .i64 m.seq) := cell_of HZ3.out rfl
    have b8 : w3.cell? ⟨w.heap.size, 8, none⟩ = some (.string m.group) := cell_of HZ3.out rfl
    go_upto_region 4 with (fail)
    rw [← HWw3.out]
    clear HWw3
    go_wp2_with fail
    refine HL2.out.mono ?_
    rintro e w4 ⟨h1, h2, hb4⟩
    have HX4 := Lib.hid ((hb4.block _ (lt_of_block HXw3.out)).trans HXw3.out)
    have HB4 := Lib.hid hb4
    clear b0 b1 b2 b3 b4 b5 b6 b7 b8 hb4 HL2
    obtain ⟨b, ok2, rfl, HBB⟩ : ∃ b ok2, e = .returned (.tuple #[Mg.val b, .bool ok2]) ∧ Hid (ok2 = !come m now ∧ (ok2 = false → b = mg0) ∧ (ok2 = true → Sim b { m with props := leftP m now }) ∧ Rd w4 b.pA (b.props.flatMap Prp.cells)) := by
      cases hc : come m now with
      | true => exact ⟨mg0, false, h1 hc, Lib.hid ⟨rfl, fun _ => rfl, (fun h => by cases h), Rd.nil _ _⟩⟩
      | false =>
        obtain ⟨m', he, hs, hr⟩ := h2 hc
        exact ⟨m', true, he, Lib.hid ⟨rfl, (fun h => by cases h), fun _ => hs, hr⟩⟩
    clear h1 h2
    obtain rfl : ok2 = ok := HBB.out.1.trans HA.out.1.symm
    have hsim : Sim a b := by
      cases ok2 with
      | false => rw [HA.out.2.1 rfl, HBB.out.2.1 rfl]; exact Sim.refl _
      | true => exact (HA.out.2.2.1 rfl).trans (HBB.out.2.2.1 rfl).symm
    have hlen : a.props.length ≤ 1000000 := by
      cases ok2 with
      | false => rw [HA.out.2.1 rfl]; show 0 ≤ 1000000; omega
      | true =>
        rw [(HA.out.2.2.1 rfl).props]
        show (leftP m now).length ≤ 1000000
        unfold leftP
        have := wo_le m.props 2
        split
        · rw [List.length_append]; simp; omega
        · omega
    unfold Mg.val
    have hbw5 := alloc_below w4 (.cells #[.string b.topic, .string b.payload, .int .i64 b.qos, .bool b.retain, .slice b.pA b.props.length b.pc, .string b.from_, .int .i64 b.until_, .int .i64 b.seq, .string b.group] 24)
    have hxw5 := heap_alloc_new w4 (.cells #[.string b.topic, .string b.payload, .int .i64 b.qos, .bool b.retain, .slice b.pA b.props.length b.pc, .string b.from_, .int .i64 b.until_, .int .i64 b.seq, .string b.group] 24)
    obtain ⟨w5, hw5⟩ : ∃ w5, w5 = w4.alloc (.cells #[.string b.topic, .string b.payload, .int .i64 b.qos, .bool b.retain, .slice b.pA b.props.length b.pc, .string b.from_, .int .i64 b.until_, .int .i64 b.seq, .string b.group] 24) := ⟨_, rfl⟩
    have HWw5 := Lib.hid hw5
    rw [← hw5] at hbw5 hxw5
    have HBw5 := Lib.hid hbw5
    have HXw5 := Lib.hid hxw5
    clear hw5 hbw5 hxw5
    have HXA := Lib.hid ((HBw5.out.block _ (lt_of_block HX4.out)).trans HX4.out)
    have HSME := Lib.hid (samem_any a b hsim w5 (((HA.out.2.2.2.below HBw3.out).below HB4.out).below HBw5.out) (HBB.out.2.2.2.below HBw5.out) hlen)
    unfold Mg.val at HSME
    have HB5 := Lib.hid (HB2.out.trans (((HBw3.out.trans (HB4.out.mono HBw3.out.size)).trans (HBw5.out.mono (HBw3.out.trans (HB4.out.mono HBw3.out.size)).size)).mono HB2.out.size))
    clear hsim hlen
    have x0 : w5.cell? ⟨w2.heap.size, 0, none⟩ = some (.string a.topic) := cell_of HXA.out rfl
    have x1 : w5.cell? ⟨w2.heap.size, 1, none⟩ = some (.string a.payload) := cell_of HXA.out rfl
    have x2 : w5.cell? ⟨w2.heap.size, 2, none⟩ = some (.int .i64 a.qos) := cell_of HXA.out rfl
    have x3 : w5.cell? ⟨w2.heap.size, 3, none⟩ = some (.bool a.retain) := cell_of HXA.out rfl
    have x4 : w5.cell? ⟨w2.heap.size, 4, none⟩ = some (.slice a.pA a.props.length a.pc) := cell_of HXA.out rfl
    have x5 : w5.cell? ⟨w2.heap.size, 5, none⟩ = some (.string a.from_) := cell_of HXA.out rfl
    have x6 : w5.cell? ⟨w2.heap.size, 6, none⟩ = some (.int .i64 a.until_) := cell_of HXA.out rfl
    have x7 : w5.cell? ⟨w2.heap.size, 7, none⟩ = some (.int .i64 a.seq) := cell_of HXA.out rfl
    have x8 : w5.cell? ⟨w2.heap.size, 8, none⟩ = some (.string a.group) := cell_of HXA.out rfl
    have y0 : w5.cell? ⟨w4.heap.size, 0, none⟩ = some (.string b.topic) := cell_of HXw5.out rfl
    have y1 : w5.cell? ⟨w4.heap.size, 1, none⟩ = some (.string b.payload) := cell_of HXw5.out rfl
    have y2 : w5.cell? ⟨w4.heap.size, 2, none⟩ = some (.int .i64 b.qos) := cell_of HXw5.out rfl
    have y3 : w5.cell? ⟨w4.heap.size, 3, none⟩ = some (.bool b.retain) := cell_of HXw5.out rfl
    have y4 : w5.cell? ⟨w4.heap.size, 4, none⟩ = some (.slice b.pA b.props.length b.pc) := cell_of HXw5.out rfl
    have y5 : w5.cell? ⟨w4.heap.size, 5, none⟩ = some (.string b.from_) := cell_of HXw5.out rfl
    have y6 : w5.cell? ⟨w4.heap.size, 6, none⟩ = some (.int .i64 b.until_) := cell_of HXw5.out rfl
    have y7 : w5.cell? ⟨w4.heap.size, 7, none⟩ = some (.int .i64 b.seq) := cell_of HXw5.out rfl
    have y8 : w5.cell? ⟨w4.heap.size, 8, none⟩ = some (.string b.group) := cell_of HXw5.out rfl
    go_upto_region 5 with (fail)
    rw [← HWw5.out]
    clear HWw5
    go_wp2_with fail
    refine HSME.out.mono ?_
    rintro e w6 ⟨rfl, hb⟩
    have HB6 := Lib.hid (HB5.out.trans (hb.mono HB5.out.size))
    clear hb x0 x1 x2 x3 x4 x5 x6 x7 x8 y0 y1 y2 y3 y4 y5 y6 y7 y8
    go_wp2_with fail
    refine (awake_any _).mono ?_
    rintro e w7 ⟨rfl, hb⟩
    have HB7 := Lib.hid (HB6.out.trans (hb.mono HB6.out.size))
    clear hb
    go_wp2_with fail
    go_ret
    exact ⟨rfl, HB7.out⟩
end Go.Proofs.Ytjcdkgdeoeboaaa.QuW
