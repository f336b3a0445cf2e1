/- Whether lanes are sound, by a map. -/
import Derived.Test.YtclhgnlhejohgaaLaneD
set_option linter.unusedVariables false
set_option linter.unusedSimpArgs false
namespace Go.Proofs.Ytclhgnlhejohgaa.LaneW
open Go.RowKit Go.Proofs.Ytclhgnlhejohgaa.Tc Go.Proofs.Ytclhgnlhejohgaa.LaneP

theorem below_new {w wr w' : World} {mb : Nat} (hB : Below w.heap.size w wr) (hm : w.heap.size ≤ mb) (hg : wr.grownBy w' (some mb)) : Below w.heap.size w w' :=
  hB.trans ((Tch.grownBy hg).below hB.size (by intro i hi; have : i = mb := by simpa using hi
                                               omega))
theorem map_kept {w w' : World} {mb : Nat} {L : List (ByteArray × Value)} (h : MapIs TS w mb L) (hb : Below w.heap.size w w') : MapIs TS w' mb L := h.of_block (hb.block mb h.lt)
set_option maxRecDepth 100000 in
set_option maxHeartbeats 8000000 in
theorem sound_any (w : World) (A : Option Addr) (cap : Nat) (l : List Tc.It) (hS : SliceIs kItem w A l) (hl : l.length ≤ 1000000) :
    Calls Try.prog 40 #[.slice A l.length cap] w fun e w' => e = .returned (.bool (sound (pr l))) ∧ Below w.heap.size w w' := by
  have HS := Lib.hid hS
  clear hS
  have HALL := Lib.hid (fun h => @Snd.all (pr l) h)
  have HNOT := Lib.hid (fun i j x y => @sound_not (pr l) i j x y)
  have hmm := @run_makeMap Try.prog
  have HM0 := Lib.hid (MapIs.made TS w)
  have HB0 := Lib.hid (alloc_below w (.map #[] 0))
  go_enter Try.func40, Try.ntmps40
  go_wp2
  clear hmm
  go_loopw [11] (fun x wr => ∃ (k : Nat) (L : List (ByteArray × Value)), k ≤ l.length ∧ x = .int .i64 k ∧ Below w.heap.size w wr ∧ MapIs TS wr w.heap.size L ∧ L.length ≤ k ∧ Snd (pr l) k ∧ Wth (pr l) L k) (fun x _ => l.length - (intOf x).toNat)
  case atStart => exact ⟨0, [], by omega, rfl, HB0.out, HM0.out, Nat.le_refl _, Snd.zero _, Wth.zero _⟩
  case round =>
    obtain ⟨k, L, hk, rfl, hB, hM, hLk, hsn, hwth⟩ := hrel
    have HSN := Lib.hid hsn
    have HWT := Lib.hid hwth
    have HB := Lib.hid hB
    have HM := Lib.hid hM
    clear hsn hwth
    by_cases hlt : k < l.length
    · obtain ⟨x, hx⟩ : ∃ x, l[k]? = some x := ⟨_, List.getElem?_eq_getElem hlt⟩
      have hp : (pr l)[k]? = some (x.msg.topic, x.at_) := by rw [pr_get, hx]; rfl
      have HP := Lib.hid hp
      obtain ⟨b, off, rfl, hb, ⟨c0, c1, c2, c3, c4, c5, c6, c7, c8, c9, c10, c11⟩, hwf, -, -⟩ := item_cells (HS.out.below hB) hx
      have hok : TS.ok x.msg.topic := hwf.1.1
      obtain ⟨w2, hw2⟩ : ∃ w2, w2 = wr.alloc (.cells x.vals.toArray 45) := ⟨_, rfl⟩
      have hcp : CpAt w2 wr.heap.size x := by rw [hw2]; exact CpAt.new wr x
      have hB2 : Below w.heap.size w w2 := by rw [hw2]; exact copy_below hB (.cells x.vals.toArray 45)
      have hM2 : MapIs TS w2 w.heap.size L := by rw [hw2]; exact map_kept hM (alloc_below _ _)
      have HCP := Lib.hid hcp
      have HB2 := Lib.hid hB2
      have HM2 := Lib.hid hM2
      have HW2 := Lib.hid hw2
      have HKX := Lib.hid (fun w' => key_any x.msg w')
      have HWX := Lib.hid (fun w' => waits_any x w')
      have HOK := Lib.hid hok
      unfold It.vals at HW2
      unfold It.val at HWX
      unfold Mg.val at HKX
      clear hx hp hB hM hb hwf hok hcp hB2 hM2 hw2
      go_upto_region 5 with (fail)
      rw [← HW2.out]
      obtain ⟨f0, f1, f2, f3, f4, f5, f6, f7, f8, f9, f10, f11⟩ := HCP.out
      clear c0 c1 c2 c3 c4 c5 c6 c7 c8 c9 c10 c11 HW2 HB HM
      go_wp2_with fail
      refine (HWX.out _).mono ?_
      rintro e w3 ⟨rfl, hb⟩
      have HCP3 := Lib.hid (HCP.out.below hb)
      have HB3 := Lib.hid (then_below HB2.out hb)
      have HM3 := Lib.hid (map_kept HM2.out hb)
      clear hb f0 f1 f2 f3 f4 f5 f6 f7 f8 f9 f10 f11 HCP HB2 HM2
      cases hw : wts x with
      | true =>
        have hxw : x.at_ = ByteArray.empty := by have := hw; unfold wts at this; simpa using this
        have HS1 := Lib.hid (HSN.out.succ HP.out (fun j y _ _ h => h.2.1 hxw))
        have HW1 := Lib.hid (HWT.out.skip HP.out hxw)
        clear hw hxw
        go_wp2_with fail
        go_roundw
        case rel => exact ⟨k + 1, L, by omega, by go_num, HB3.out, HM3.out, by omega, HS1.out, HW1.out⟩
        case measure => simp [intOf]; omega
      | false =>
        have hxw : x.at_ ≠ ByteArray.empty := by have := hw; unfold wts at this; simpa using this
        have HXW := Lib.hid hxw
        clear hw hxw
        obtain ⟨f0, f1, f2, f3, f4, f5, f6, f7, f8, f9, f10, f11⟩ := HCP3.out
        go_wp2_with fail
        refine (HKX.out _).mono ?_
        rintro e w4 ⟨rfl, hb⟩
        have HCP4 := Lib.hid (HCP3.out.below hb)
        have HB4 := Lib.hid (then_below HB3.out hb)
        have HM4 := Lib.hid (map_kept HM3.out hb)
        clear hb f0 f1 f2 f3 f4 f5 f6 f7 f8 f9 f10 f11 HCP3 HB3 HM3
        obtain ⟨f0, f1, f2, f3, f4, f5, f6, f7, f8, f9, f10, f11⟩ := HCP4.out
        have hlk : (Instr.lookup 103 (.map (some w.heap.size)) (.string x.msg.topic) true).run Try.prog w4 = .ok (.tuple #[(getL L x.msg.topic).getD (.string ByteArray.empty), .bool (hasL L x.msg.topic)]) w4 :=
          HM4.out.look_ok Try.underlying103 (zero9 w4) x.msg.topic HOK.out
        have hhas := getL_isSome L x.msg.topic
        by_cases hcl : ∃ v, getL L x.msg.topic = some v ∧ v ≠ .string x.at_
        · obtain ⟨v, hg, hne⟩ := hcl
          obtain ⟨j, y, hj, hy, h1, h2, rfl⟩ := HWT.out.of _ _ hg
          have hyx : y.2 ≠ x.at_ := fun e => hne (by rw [e])
          have HE := Lib.hid (HNOT.out k j _ _ HP.out hy ⟨h1.symm, HXW.out, h2, fun e => hyx e.symm⟩)
          rw [hg] at hlk hhas
          rw [← hhas] at hlk
          have t1 := str_ne hyx
          simp only [Option.isSome_some, Option.getD_some] at hlk
          clear hg hne hj hy h1 h2 hyx hhas
          go_wp2_with fail
          go_ret
          exact ⟨by rw [HE.out]; rfl, HB4.out⟩
        · have hsame : ∀ v, getL L x.msg.topic = some v → v = .string x.at_ := by
            intro v hv
            by_cases e : v = .string x.at_
            · exact e
            · exact absurd ⟨v, hv, e⟩ hcl
          have HSM := Lib.hid hsame
          have HS1 := Lib.hid (HSN.out.succ HP.out (HWT.out.clear hsame))
          have HW1 := Lib.hid (HWT.out.put HP.out HXW.out hsame)
          clear hcl
          have hpost : ∀ (vv : Value) (bb : Bool), (getL L x.msg.topic).getD (.string ByteArray.empty) = vv → hasL L x.msg.topic = bb → (bb = false ∨ (vv = .string x.at_)) := by
            intro vv bb h1 h2
            cases hg : getL L x.msg.topic with
            | none => left; rw [← h2, ← hhas, hg]; rfl
            | some v => right; rw [← h1, hg]; exact hsame v hg
          have hstr : ∃ s, (getL L x.msg.topic).getD (.string ByteArray.empty) = .string s := by
            cases hg : getL L x.msg.topic with
            | none => exact ⟨_, rfl⟩
            | some v => exact ⟨x.at_, hsame v hg⟩
          obtain ⟨s, hs⟩ := hstr
          have hor := hpost _ _ hs rfl
          rw [hs] at hlk
          have hput : (putL L x.msg.topic (.string x.at_)).length ≤ k + 1 := by rw [length_put]; split <;> omega
          clear hpost hs hhas hsame
          generalize hasL L x.msg.topic = bb at *
          have HOR := Lib.hid hor
          clear hor
          have hreg : ∀ (n : Wd (Gr w4)), ∃ w', (Instr.mapUpdate 103 (.map (some w.heap.size)) (.string x.msg.topic) (.string x.at_)).run Try.prog n.w = .ok () w' ∧ MapIs TS w' w.heap.size (putL L x.msg.topic (.string x.at_)) ∧ Below w.heap.size w w' := by
            intro n
            obtain ⟨w', hr, hM', hg, _⟩ := (map_kept HM4.out n.ok).store Try.underlying103 (by unfold maxLen; omega) x.msg.topic HOK.out (.string x.at_)
            exact ⟨w', hr, hM', below_new (then_below HB4.out n.ok) (Nat.le_refl _) hg⟩
          have HREG := Lib.hid hreg
          clear hreg
          have d0 := fun n : Wd (Gr w4) => n.cell f0
          have d1 := fun n : Wd (Gr w4) => n.cell f1
          have d2 := fun n : Wd (Gr w4) => n.cell f2
          have d3 := fun n : Wd (Gr w4) => n.cell f3
          have d4 := fun n : Wd (Gr w4) => n.cell f4
          have d5 := fun n : Wd (Gr w4) => n.cell f5
          have d6 := fun n : Wd (Gr w4) => n.cell f6
          have d7 := fun n : Wd (Gr w4) => n.cell f7
          have d8 := fun n : Wd (Gr w4) => n.cell f8
          have d9 := fun n : Wd (Gr w4) => n.cell f9
          have HD := Lib.hid (And.intro d0 (And.intro d1 (And.intro d2 (And.intro d3 (And.intro d4 (And.intro d5 (And.intro d6 (And.intro d7 (And.intro d8 d9)))))))))
          have hcs : bb = false ∨ (bb = true ∧ s = x.at_) := by
            cases bb with
            | false => exact .inl rfl
            | true =>
              rcases HOR.out with h | h
              · exact absurd h (by decide)
              · injection h with h; exact .inr ⟨rfl, h⟩
          clear d0 d1 d2 d3 d4 d5 d6 d7 d8 d9 HOR
          rcases hcs with rfl | ⟨rfl, h1⟩
          · go_upto_region 9 with (fail)
            obtain ⟨d0, d1, d2, d3, d4, d5, d6, d7, d8, d9⟩ := HD.out
            refine wp_region_tail (Gr w4) 6 (gr_drew w4) (by kernel_rfl) (by kernel_rfl) ?_
            simp only [List.take_succ_cons, List.take_zero, List.drop_succ_cons, List.drop_zero]
            repeat (go_big_quiet_step ((go_at_call 34; exact cls_call (HKX.out _))))
            refine wpQuiet_nil ?_
            intro wq
            obtain ⟨w5, hr5, hM5, hB5⟩ := HREG.out wq
            have HM5 := Lib.hid hM5
            have HB5 := Lib.hid hB5
            clear hM5 hB5 HREG
            go_wp2
            go_roundw
            case rel => exact ⟨k + 1, _, by omega, by go_num, HB5.out, HM5.out, hput, HS1.out, HW1.out⟩
            case measure => simp [intOf]; omega
          · have t1 := str_eq h1
            clear h1
            go_upto_region 9 with (fail)
            obtain ⟨d0, d1, d2, d3, d4, d5, d6, d7, d8, d9⟩ := HD.out
            refine wp_region_tail (Gr w4) 6 (gr_drew w4) (by kernel_rfl) (by kernel_rfl) ?_
            simp only [List.take_succ_cons, List.take_zero, List.drop_succ_cons, List.drop_zero]
            repeat (go_big_quiet_step ((go_at_call 34; exact cls_call (HKX.out _))))
            refine wpQuiet_nil ?_
            intro wq
            obtain ⟨w5, hr5, hM5, hB5⟩ := HREG.out wq
            have HM5 := Lib.hid hM5
            have HB5 := Lib.hid hB5
            clear hM5 hB5 HREG
            go_wp2
            go_roundw
            case rel => exact ⟨k + 1, _, by omega, by go_num, HB5.out, HM5.out, hput, HS1.out, HW1.out⟩
            case measure => simp [intOf]; omega
    · obtain rfl : k = l.length := by omega
      have HE := Lib.hid (HALL.out (by rw [pr_len]; exact HSN.out))
      clear hB hM
      go_wp2
      go_ret
      exact ⟨by rw [HE.out]; rfl, HB.out⟩
end Go.Proofs.Ytclhgnlhejohgaa.LaneW
