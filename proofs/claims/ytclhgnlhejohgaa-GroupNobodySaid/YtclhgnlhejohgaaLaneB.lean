/- Lanes: the reference's Owner; whether an item may go. -/
import Derived.Test.YtclhgnlhejohgaaLaneA
set_option linter.unusedVariables false
set_option linter.unusedSimpArgs false
namespace Go.Proofs.Ytclhgnlhejohgaa.LaneW
open Go.RowKit Go.Proofs.Ytclhgnlhejohgaa.Tc Go.Proofs.Ytclhgnlhejohgaa.LaneP

set_option maxRecDepth 100000 in
set_option maxHeartbeats 4000000 in
theorem rowner_any (w : World) (A : Option Addr) (cap : Nat) (l : List Tc.It) (key : ByteArray) (hS : SliceIs kItem w A l) :
    Calls Try.prog 33 #[.slice A l.length cap, .string key] w fun e w' => e = .returned (.tuple #[.string (ownP (pr l) key).1, .bool (ownP (pr l) key).2]) ∧ w = w' := by
  have hlen := hS.len
  unfold maxLen at hlen
  have HS := Lib.hid hS
  clear hS
  have hat := fun k x => @own_at (pr l) key k x
  have hend := @own_end (pr l) key
  have HAT := Lib.hid hat
  have HEND := Lib.hid hend
  clear hat hend
  go_enter Try.func33, Try.ntmps33
  go_wp2
  go_loop [6] (fun x => ∃ k : Nat, k ≤ l.length ∧ x = .int .i64 k ∧ ∀ (j : Nat) (y : LaneP.It), j < k → (pr l)[j]? = some y → isOwn y key = false) (fun x => l.length - (intOf x).toNat)
  case atStart => exact ⟨0, by omega, rfl, by intro j y h; omega⟩
  case round =>
    obtain ⟨k, hk, rfl, h0⟩ := hrel
    have H0 := Lib.hid h0
    clear h0
    by_cases hlt : k < l.length
    · obtain ⟨x, hx⟩ : ∃ x, l[k]? = some x := ⟨_, List.getElem?_eq_getElem hlt⟩
      obtain ⟨b, off, rfl, hb, hc, -, -, -⟩ := item_cells HS.out hx
      have c0 := hc.c0
      have c9 := hc.c9
      have hp : (pr l)[k]? = some (x.msg.topic, x.at_) := by rw [pr_get, hx]; rfl
      have HP := Lib.hid hp
      have hnext : isOwn (x.msg.topic, x.at_) key = false → ∀ (j : Nat) (y : LaneP.It), j < k + 1 → (pr l)[j]? = some y → isOwn y key = false := by
        intro hi j y hj hy
        by_cases e : j = k
        · subst e
          rw [HP.out] at hy
          injection hy with hy
          subst hy; exact hi
        · exact H0.out j y (by omega) hy
      have HN := Lib.hid hnext
      have HIO := Lib.hid (fun b c => @isOwn_of (x.msg.topic, x.at_) key b c)
      have HATK := Lib.hid (HAT.out k _ HP.out H0.out)
      clear hx hp hnext hb hc
      by_cases ht : x.msg.topic = key
      · have t1 := str_eq ht
        have HT := Lib.hid (show decide ((x.msg.topic, x.at_).1 = key) = true by simp [ht])
        clear ht
        by_cases hw : x.at_ = ByteArray.empty
        · have HN1 := Lib.hid (HN.out (by rw [HIO.out _ true HT.out (by simp [hw])]; rfl))
          have t2 : x.at_.toList.isEmpty = true := by rw [wts_emp]; simp [hw]
          clear hw
          go_wp2
          go_round
          case rel => exact ⟨k + 1, by omega, by go_num, HN1.out⟩
          case measure => simp [intOf]; omega
        · have HE := Lib.hid (HATK.out (by rw [HIO.out _ false HT.out (by simp [hw])]; rfl))
          have t2 := (ne_empty hw).1
          have t3 := (ne_empty hw).2
          clear hw
          go_wp2
          go_ret2
          exact ⟨by rw [HE.out]; rfl, rfl⟩
      · have t1 := str_ne ht
        have HN1 := Lib.hid (HN.out (by rw [HIO.out false _ (by simp [ht]) rfl]; rfl))
        clear ht
        go_wp2
        go_round
        case rel => exact ⟨k + 1, by omega, by go_num, HN1.out⟩
        case measure => simp [intOf]; omega
    · obtain rfl : k = l.length := by omega
      have HE := Lib.hid (HEND.out (fun j y hy => H0.out j y (by have := (List.getElem?_eq_some_iff.1 hy).1; rw [pr_len] at this; exact this) hy))
      go_wp2
      go_ret2
      exact ⟨by rw [HE.out]; rfl, rfl⟩

/-! ### May -/
theorem may_out {l : List LaneP.It} {a : Int} {c : ByteArray} (h : ¬ (0 ≤ a ∧ a.toNat < l.length)) : may l a c = false := by
  rw [Bool.eq_false_iff]
  intro hm
  exact h (may_neg l a c hm)
theorem may_busy {l : List LaneP.It} {a : Nat} {c : ByteArray} {y : LaneP.It} (hy : l[a]? = some y) (h : y.2 ≠ No) : may l a c = false := by
  unfold may
  rw [if_pos (by omega), Int.toNat_natCast, hy]
  simp [h]
theorem may_stop {l : List LaneP.It} {a k : Nat} {c : ByteArray} {y x : LaneP.It} (hy : l[a]? = some y) (hx : l[k]? = some x) (h : lets l a y.1 c k x = false) : may l a c = false := by
  unfold may
  rw [if_pos (by omega), Int.toNat_natCast, hy]
  simp only [Bool.and_eq_false_iff]
  right
  rw [List.all_eq_false]
  refine ⟨k, by simpa using (List.getElem?_eq_some_iff.1 hx).1, ?_⟩
  rw [hx]
  simp [h]
theorem may_go {l : List LaneP.It} {a : Nat} {c : ByteArray} {y : LaneP.It} (hy : l[a]? = some y) (hn : y.2 = No) (h : ∀ (k : Nat) (x : LaneP.It), l[k]? = some x → lets l a y.1 c k x = true) : may l a c = true := by
  unfold may
  rw [if_pos (by omega), Int.toNat_natCast, hy]
  simp only [Bool.and_eq_true, decide_eq_true_eq, List.all_eq_true, List.mem_range]
  refine ⟨hn, fun k hk => ?_⟩
  rw [List.getElem?_eq_getElem hk]
  exact h k _ (List.getElem?_eq_getElem hk)
theorem lets_other {l : List LaneP.It} {a k : Nat} {t c : ByteArray} {x : LaneP.It} (h : x.1 ≠ t) : lets l a t c k x = true := by simp [lets, h]
theorem lets_wait {l : List LaneP.It} {a k : Nat} {t c : ByteArray} {x : LaneP.It} (h : x.1 = t) (hw : x.2 = No) : lets l a t c k x = !decide (k < a) := by simp [lets, h, hw]
theorem lets_busy {l : List LaneP.It} {a k : Nat} {t c : ByteArray} {x : LaneP.It} (h : x.1 = t) (hw : x.2 ≠ No) : lets l a t c k x = decide (x.2 = c) := by simp [lets, h, hw]
set_option maxRecDepth 100000 in
set_option maxHeartbeats 8000000 in
theorem may_any (w : World) (A : Option Addr) (cap : Nat) (l : List Tc.It) (at_ : Int) (client : ByteArray) (hS : SliceIs kItem w A l) :
    Calls Try.prog 38 #[.slice A l.length cap, .int .i64 at_, .string client] w fun e w' => e = .returned (.bool (may (pr l) at_ client)) ∧ Below w.heap.size w w' := by
  have hlen := hS.len
  unfold maxLen at hlen
  by_cases hr : 0 ≤ at_ ∧ at_.toNat < l.length
  · obtain ⟨a, rfl⟩ : ∃ a : Nat, at_ = a := ⟨at_.toNat, by omega⟩
    have hal : a < l.length := by simpa using hr.2
    clear hr
    obtain ⟨y, hy⟩ : ∃ y, l[a]? = some y := ⟨_, List.getElem?_eq_getElem hal⟩
    have hpy : (pr l)[a]? = some (y.msg.topic, y.at_) := by rw [pr_get, hy]; rfl
    obtain ⟨b, off, rfl, hb, hcy, -, -, -⟩ := item_cells hS hy
    have HCY := Lib.hid hcy
    obtain ⟨c0, c1, c2, c3, c4, c5, c6, c7, c8, c9, c10, c11⟩ := hcy
    have HS := Lib.hid hS
    have HW := Lib.hid (fun w1 => waits_any y w1)
    unfold It.val at HW
    clear hS hb hy
    cases hw : wts y with
    | false =>
      rw [hw] at HW
      have HE := Lib.hid (may_busy (c := client) hpy (by have := hw; unfold wts at this; simpa using this))
      clear hw hpy
      go_enter Try.func38, Try.ntmps38
      go_wp2_with fail
      refine (HW.out _).mono ?_
      rintro e w1 ⟨rfl, hb⟩
      go_wp2_with fail
      go_ret
      exact ⟨by rw [HE.out]; rfl, hb⟩
    | true =>
      rw [hw] at HW
      have hyw : (y.msg.topic, y.at_).2 = No := by have := hw; unfold wts at this; simpa using this
      have HGO := Lib.hid (may_go (c := client) hpy hyw)
      have HSTOP := Lib.hid (fun k x => @may_stop (pr l) a k client _ x hpy)
      clear hw hpy hyw
      have hd0 : decide ((a : Int) < 0) = false := decide_eq_false (by omega)
      have hd1 : decide (l.length ≤ a) = false := decide_eq_false (by omega)
      go_enter Try.func38, Try.ntmps38
      go_wp2_with fail
      refine (HW.out _).mono ?_
      rintro e w1 ⟨rfl, hb1⟩
      have HB1 := Lib.hid hb1
      clear c0 c1 c2 c3 c4 c5 c6 c7 c8 c9 c10 c11 hb1 HW
      go_wp2_with fail
      go_loopw [29] (fun x wr => ∃ k : Nat, k ≤ l.length ∧ x = .int .i64 k ∧ Below w.heap.size w wr ∧ ∀ (j : Nat) (z : LaneP.It), j < k → (pr l)[j]? = some z → lets (pr l) a y.msg.topic client j z = true) (fun x _ => l.length - (intOf x).toNat)
      case atStart => exact ⟨0, by omega, rfl, HB1.out, by intro j z h; omega⟩
      case round =>
        obtain ⟨k, hk, rfl, hB, h0⟩ := hrel
        have H0 := Lib.hid h0
        have HB := Lib.hid hB
        clear h0
        by_cases hlt : k < l.length
        · obtain ⟨x, hx⟩ : ∃ x, l[k]? = some x := ⟨_, List.getElem?_eq_getElem hlt⟩
          obtain ⟨b', off', hAA, hb, ⟨c0, c1, c2, c3, c4, c5, c6, c7, c8, c9, c10, c11⟩, -, -, -⟩ := item_cells (HS.out.below hB) hx
          injection hAA with hAA
          injection hAA with hA1 hA2
          subst hA1
          subst hA2
          have hp : (pr l)[k]? = some (x.msg.topic, x.at_) := by rw [pr_get, hx]; rfl
          have HP := Lib.hid hp
          have hnext : lets (pr l) a y.msg.topic client k (x.msg.topic, x.at_) = true → ∀ (j : Nat) (z : LaneP.It), j < k + 1 → (pr l)[j]? = some z → lets (pr l) a y.msg.topic client j z = true := by
            intro hi j z hj hz
            by_cases e : j = k
            · subst e
              rw [HP.out] at hz
              injection hz with hz
              subst hz; exact hi
            · exact H0.out j z (by omega) hz
          have HN := Lib.hid hnext
          have HST := Lib.hid (HSTOP.out k _ HP.out)
          obtain ⟨w2, hw2⟩ : ∃ w2, w2 = wr.alloc (.cells x.vals.toArray 45) := ⟨_, rfl⟩
          have hcp : CpAt w2 wr.heap.size x := by rw [hw2]; exact CpAt.new wr x
          have hB2 : Below w.heap.size w w2 := by rw [hw2]; exact copy_below hB (.cells x.vals.toArray 45)
          have hy2 := HCY.out.below hB2
          have HCP := Lib.hid hcp
          have HB2 := Lib.hid hB2
          have HW2 := Lib.hid hw2
          have HKX := Lib.hid (fun w' => key_any x.msg w')
          have HKY := Lib.hid (fun w' => key_any y.msg w')
          have HWX := Lib.hid (fun w' => waits_any x w')
          obtain ⟨g0, g1, g2, g3, g4, g5, g6, g7, g8, -, -, -⟩ := hy2
          obtain ⟨f0, f1, f2, f3, f4, f5, f6, f7, f8, -, -, -⟩ := hcp
          have d0 := fun n : Wd (Gr w2) => n.cell f0
          have d1 := fun n : Wd (Gr w2) => n.cell f1
          have d2 := fun n : Wd (Gr w2) => n.cell f2
          have d3 := fun n : Wd (Gr w2) => n.cell f3
          have d4 := fun n : Wd (Gr w2) => n.cell f4
          have d5 := fun n : Wd (Gr w2) => n.cell f5
          have d6 := fun n : Wd (Gr w2) => n.cell f6
          have d7 := fun n : Wd (Gr w2) => n.cell f7
          have d8 := fun n : Wd (Gr w2) => n.cell f8
          have q0 := fun n : Wd (Gr w2) => n.cell g0
          have q1 := fun n : Wd (Gr w2) => n.cell g1
          have q2 := fun n : Wd (Gr w2) => n.cell g2
          have q3 := fun n : Wd (Gr w2) => n.cell g3
          have q4 := fun n : Wd (Gr w2) => n.cell g4
          have q5 := fun n : Wd (Gr w2) => n.cell g5
          have q6 := fun n : Wd (Gr w2) => n.cell g6
          have q7 := fun n : Wd (Gr w2) => n.cell g7
          have q8 := fun n : Wd (Gr w2) => n.cell g8
          have HD := Lib.hid (And.intro d0 (And.intro d1 (And.intro d2 (And.intro d3 (And.intro d4 (And.intro d5 (And.intro d6 (And.intro d7 d8))))))))
          have HQ := Lib.hid (And.intro q0 (And.intro q1 (And.intro q2 (And.intro q3 (And.intro q4 (And.intro q5 (And.intro q6 (And.intro q7 q8))))))))
          unfold It.vals at HW2
          unfold It.val at HWX
          unfold Mg.val at HKX HKY
          clear hx hp hnext hB hb hB2 hw2 f0 f1 f2 f3 f4 f5 f6 f7 f8 g0 g1 g2 g3 g4 g5 g6 g7 g8 d0 d1 d2 d3 d4 d5 d6 d7 d8 q0 q1 q2 q3 q4 q5 q6 q7 q8
          go_upto_region 6 with (fail)
          rw [← HW2.out]
          obtain ⟨d0, d1, d2, d3, d4, d5, d6, d7, d8⟩ := HD.out
          obtain ⟨q0, q1, q2, q3, q4, q5, q6, q7, q8⟩ := HQ.out
          clear c0 c1 c2 c3 c4 c5 c6 c7 c8 c9 c10 c11 HW2 HD HQ
          have hcase : ∀ b : Bool, ((x.msg.topic.toList == y.msg.topic.toList) = b) → True := fun _ _ => trivial
          by_cases ht : x.msg.topic = y.msg.topic
          · have t1 := str_eq ht
            have HT := Lib.hid ht
            clear ht hcase
            refine wp_region_cls (Gr w2) (gr_drew w2) (by kernel_rfl) (by kernel_rfl) ?_
            repeat (go_big_quiet_step ((first | (go_at_call_of 34 (Value.string x.msg.payload); exact cls_call (HKX.out _)) | (go_at_call_of 34 (Value.string y.msg.payload); exact cls_call (HKY.out _)))))
            refine wpQuiet_nil ?_
            rintro _ ⟨⟨wq, hq⟩, rfl⟩
            obtain ⟨f0, f1, f2, f3, f4, f5, f6, f7, f8, f9, f10, f11⟩ := HCP.out.below hq
            have HBQ := Lib.hid (then_below HB2.out hq)
            clear hq d0 d1 d2 d3 d4 d5 d6 d7 d8 q0 q1 q2 q3 q4 q5 q6 q7 q8
            cases hw : wts x with
            | true =>
              rw [hw] at HWX
              have hxw : x.at_ = ByteArray.empty := by have := hw; unfold wts at this; simpa using this
              have hlw := lets_wait (l := pr l) (a := a) (k := k) (c := client) (x := (x.msg.topic, x.at_)) HT.out hxw
              have HLW := Lib.hid hlw
              clear hw hxw hlw
              by_cases hka : k < a
              · have HE := Lib.hid (HST.out (by rw [HLW.out]; simp [hka]))
                go_wp2_with fail
                refine (HWX.out _).mono ?_
                rintro e w3 ⟨rfl, hb⟩
                have HB3 := Lib.hid (then_below HBQ.out hb)
                have hs := Same.of_below hb
                have f0 := hs.cell f0; have f1 := hs.cell f1; have f2 := hs.cell f2; have f3 := hs.cell f3; have f4 := hs.cell f4; have f5 := hs.cell f5
                have f6 := hs.cell f6; have f7 := hs.cell f7; have f8 := hs.cell f8; have f9 := hs.cell f9; have f10 := hs.cell f10; have f11 := hs.cell f11
                clear hb hs
                go_wp2_with fail
                refine (HWX.out _).mono ?_
                rintro e w4 ⟨rfl, hb⟩
                have HB4 := Lib.hid (then_below HB3.out hb)
                clear hb
                go_wp2_with fail
                go_ret
                exact ⟨by rw [HE.out]; rfl, HB4.out⟩
              · have HN1 := Lib.hid (HN.out (by rw [HLW.out]; simp [hka]))
                go_wp2_with fail
                refine (HWX.out _).mono ?_
                rintro e w4 ⟨rfl, hb⟩
                have HB4 := Lib.hid (then_below HBQ.out hb)
                clear hb
                go_wp2_with fail
                go_roundw
                case rel => exact ⟨k + 1, by omega, by go_num, HB4.out, HN1.out⟩
                case measure => simp [intOf]; omega
            | false =>
              rw [hw] at HWX
              have hxw : x.at_ ≠ ByteArray.empty := by have := hw; unfold wts at this; simpa using this
              have hlb := lets_busy (l := pr l) (a := a) (k := k) (c := client) (x := (x.msg.topic, x.at_)) HT.out hxw
              have HLB := Lib.hid hlb
              clear hw hxw hlb
              have htwo : ∀ (b : Bool), (x.at_.toList == client.toList) = b → True := fun _ _ => trivial
              clear htwo
              by_cases hc : x.at_ = client
              · have HN1 := Lib.hid (HN.out (by rw [HLB.out]; simp [hc]))
                have t2 := str_eq hc
                clear hc
                by_cases hka : k < a
                · go_wp2_with fail
                  refine (HWX.out _).mono ?_
                  rintro e w3 ⟨rfl, hb⟩
                  have HB3 := Lib.hid (then_below HBQ.out hb)
                  have hs := Same.of_below hb
                  have f0 := hs.cell f0; have f1 := hs.cell f1; have f2 := hs.cell f2; have f3 := hs.cell f3; have f4 := hs.cell f4; have f5 := hs.cell f5
                  have f6 := hs.cell f6; have f7 := hs.cell f7; have f8 := hs.cell f8; have f9 := hs.cell f9; have f10 := hs.cell f10; have f11 := hs.cell f11
                  clear hb hs
                  go_wp2_with fail
                  refine (HWX.out _).mono ?_
                  rintro e w4 ⟨rfl, hb⟩
                  have HB4 := Lib.hid (then_below HB3.out hb)
                  have f9 := (Same.of_below hb).cell f9
                  clear hb
                  go_wp2_with fail
                  go_roundw
                  case rel => exact ⟨k + 1, by omega, by go_num, HB4.out, HN1.out⟩
                  case measure => simp [intOf]; omega
                · go_wp2_with fail
                  refine (HWX.out _).mono ?_
                  rintro e w4 ⟨rfl, hb⟩
                  have HB4 := Lib.hid (then_below HBQ.out hb)
                  have f9 := (Same.of_below hb).cell f9
                  clear hb
                  go_wp2_with fail
                  go_roundw
                  case rel => exact ⟨k + 1, by omega, by go_num, HB4.out, HN1.out⟩
                  case measure => simp [intOf]; omega
              · have HE := Lib.hid (HST.out (by rw [HLB.out]; simp [hc]))
                have t2 := str_ne hc
                clear hc
                by_cases hka : k < a
                · go_wp2_with fail
                  refine (HWX.out _).mono ?_
                  rintro e w3 ⟨rfl, hb⟩
                  have HB3 := Lib.hid (then_below HBQ.out hb)
                  have hs := Same.of_below hb
                  have f0 := hs.cell f0; have f1 := hs.cell f1; have f2 := hs.cell f2; have f3 := hs.cell f3; have f4 := hs.cell f4; have f5 := hs.cell f5
                  have f6 := hs.cell f6; have f7 := hs.cell f7; have f8 := hs.cell f8; have f9 := hs.cell f9; have f10 := hs.cell f10; have f11 := hs.cell f11
                  clear hb hs
                  go_wp2_with fail
                  refine (HWX.out _).mono ?_
                  rintro e w4 ⟨rfl, hb⟩
                  have HB4 := Lib.hid (then_below HB3.out hb)
                  have f9 := (Same.of_below hb).cell f9
                  clear hb
                  go_wp2_with fail
                  go_ret
                  exact ⟨by rw [HE.out]; rfl, HB4.out⟩
                · go_wp2_with fail
                  refine (HWX.out _).mono ?_
                  rintro e w4 ⟨rfl, hb⟩
                  have HB4 := Lib.hid (then_below HBQ.out hb)
                  have f9 := (Same.of_below hb).cell f9
                  clear hb
                  go_wp2_with fail
                  go_ret
                  exact ⟨by rw [HE.out]; rfl, HB4.out⟩
          · have t1 := str_ne ht
            have HN1 := Lib.hid (HN.out (lets_other ht))
            clear ht hcase
            refine wp_region_cls (Gr w2) (gr_drew w2) (by kernel_rfl) (by kernel_rfl) ?_
            repeat (go_big_quiet_step ((first | (go_at_call_of 34 (Value.string x.msg.payload); exact cls_call (HKX.out _)) | (go_at_call_of 34 (Value.string y.msg.payload); exact cls_call (HKY.out _)))))
            refine wpQuiet_nil ?_
            rintro _ ⟨⟨wq, hq⟩, rfl⟩
            have HBQ := Lib.hid (then_below HB2.out hq)
            clear hq d0 d1 d2 d3 d4 d5 d6 d7 d8 q0 q1 q2 q3 q4 q5 q6 q7 q8
            go_wp2_with fail
            go_roundw
            case rel => exact ⟨k + 1, by omega, by go_num, HBQ.out, HN1.out⟩
            case measure => simp [intOf]; omega
        · obtain rfl : k = l.length := by omega
          have HE := Lib.hid (HGO.out (fun j z hz => H0.out j z (by have := (List.getElem?_eq_some_iff.1 hz).1; rw [pr_len] at this; exact this) hz))
          clear hB
          go_wp2
          go_ret
          exact ⟨by rw [HE.out]; rfl, HB.out⟩
  · have HE := Lib.hid (may_out (l := pr l) (a := at_) (c := client) (by rw [pr_len]; exact hr))
    have hcs : at_ < 0 ∨ (¬ at_ < 0 ∧ (l.length : Int) ≤ at_) := by omega
    clear hS hr
    rcases hcs with h1 | ⟨h1, h2⟩
    · go_enter Try.func38, Try.ntmps38
      go_wp2_with fail
      go_ret
      exact ⟨by rw [HE.out]; rfl, Below.refl _ _⟩
    · go_enter Try.func38, Try.ntmps38
      go_wp2_with fail
      go_ret
      exact ⟨by rw [HE.out]; rfl, Below.refl _ _⟩
end Go.Proofs.Ytclhgnlhejohgaa.LaneW
