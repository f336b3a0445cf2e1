/- Queues by the document: pushed to, the first one, rid of what came. -/
import Derived.Test.YtjcdkgdeoeboaaaQuJ
set_option linter.unusedVariables false
set_option linter.unusedSimpArgs false
namespace Go.Proofs.Ytjcdkgdeoeboaaa.QuW
open Go.RowKit Go.Proofs.Ytjcdkgdeoeboaaa.Tc

set_option maxRecDepth 100000 in
set_option maxHeartbeats 4000000 in
theorem rpush_any {B : Nat} {w : World} {s : Nat} {most : Int} {v : Value} {L : List Mg} (h : Q 41 B w s most v L) (hl : L.length < 100000) (m : Mg) (hm : Ok B w m) :
    Calls Try.prog 17 #[.pointer (some ⟨s, 0, none⟩), m.val] w (PushPost 41 B w s most v L m) := by
  generalize hP : PushPost 41 B w s most v L m = PP
  have HPP := Lib.hid (show ∀ e w', PushPost 41 B w s most v L m e w' → PP e w' by intro e w' h; rw [← hP]; exact h)
  clear hP
  have hb0 := alloc_below w (.cells #[.string m.topic, .string m.payload, .int .i64 m.qos, .bool m.retain, .slice m.pA m.props.length m.pc, .string m.from_, .int .i64 m.until_, .int .i64 m.seq, .string m.group] 24)
  have hz0 := heap_alloc_new w (.cells #[.string m.topic, .string m.payload, .int .i64 m.qos, .bool m.retain, .slice m.pA m.props.length m.pc, .string m.from_, .int .i64 m.until_, .int .i64 m.seq, .string m.group] 24)
  have hs0 : (w.alloc (.cells #[.string m.topic, .string m.payload, .int .i64 m.qos, .bool m.retain, .slice m.pA m.props.length m.pc, .string m.from_, .int .i64 m.until_, .int .i64 m.seq, .string m.group] 24)).heap.size = w.heap.size + 1 := by simp
  obtain ⟨W, hW⟩ : ∃ W, W = w.alloc (.cells #[.string m.topic, .string m.payload, .int .i64 m.qos, .bool m.retain, .slice m.pA m.props.length m.pc, .string m.from_, .int .i64 m.until_, .int .i64 m.seq, .string m.group] 24) := ⟨_, rfl⟩
  have HW := Lib.hid hW
  rw [← hW] at hb0 hz0 hs0
  have HB0 := Lib.hid hb0
  have HZ0 := Lib.hid hz0
  have HQ := Lib.hid (h.below hb0)
  have HQ0 := Lib.hid h
  have HM := Lib.hid hm
  obtain ⟨A, c, rfl, -⟩ := h.win.rd
  have q0 := fun n : Wd (Dr W) => n.cellD (cell_of HQ.out.st (o := 0) (v := .int .i64 most) rfl)
  have q1 := fun n : Wd (Dr W) => n.cellD (cell_of HQ.out.st (o := 1) (v := .slice A L.length c) rfl)
  clear hb0 hz0 hs0 hm h hW
  unfold Mg.val
  by_cases hf : (L.length : Int) < most
  case neg =>
    have hf2 : most ≤ (L.length : Int) := by omega
    have HF := Lib.hid hf
    clear hf
    go_enter Try.func17, Try.ntmps17
    go_upto_region 1 with (fail)
    rw [← HW.out]
    clear HW
    refine wp_region_cls (Dr _) (dr_drew _) (by kernel_rfl) (by kernel_rfl) ?_
    repeat (go_big_quiet_step (fail))
    refine wpQuiet_nil ?_
    rintro wq ⟨nq, hnq⟩
    have hq := nq.ok
    rw [← hnq] at hq
    clear hnq nq
    have HE := Lib.hid (HPP.out (.returned (.bool false)) wq ⟨_, L, by rw [decide_eq_false HF.out], Step.of_below HQ0.out (HB0.out.trans ((Dr.below hq).mono HB0.out.size)), by rw [if_neg HF.out]⟩)
    clear hq q0 q1
    go_wp2_with fail
    exact HE.out
  case pos =>
    have hf2 : ¬ most ≤ (L.length : Int) := by omega
    have HF := Lib.hid hf
    clear hf
    go_enter Try.func17, Try.ntmps17
    go_upto_region 1 with (fail)
    rw [← HW.out]
    clear HW
    refine wp_region_cls (Dr _) (dr_drew _) (by kernel_rfl) (by kernel_rfl) ?_
    repeat (go_big_quiet_step (fail))
    refine wpQuiet_nil ?_
    rintro wq ⟨nq, hnq⟩
    have hq := nq.ok
    rw [← hnq] at hq
    clear hnq nq
    have hbq := Dr.below hq
    have hz5 := (hbq.block _ (lt_of_block HZ0.out)).trans HZ0.out
    have hbA := HB0.out.trans (hbq.mono HB0.out.size)
    obtain ⟨wA, hwA⟩ : ∃ wA, wA = wq := ⟨_, rfl⟩
    rw [← hwA] at hz5 hbA
    have hok : Ok B wA m := HM.out.below hbA
    have hqA := HQ0.out.below hbA
    have hdr : Below wA.heap.size wA wA.drew := below_drewN (Below.refl _ _) 1
    obtain ⟨v', w4, hr, hwin, htch, hloc⟩ := (hqA.below hdr).win.snoc (by omega) m
    have hal : Below wA.heap.size wA (wA.alloc (.cells #[.string m.topic, .string m.payload, .int .i64 m.qos, .bool m.retain, .slice m.pA m.props.length m.pc, .string m.from_, .int .i64 m.until_, .int .i64 m.seq, .string m.group] 24)).drew := (alloc_below wA (.cells #[.string m.topic, .string m.payload, .int .i64 m.qos, .bool m.retain, .slice m.pA m.props.length m.pc, .string m.from_, .int .i64 m.until_, .int .i64 m.seq, .string m.group] 24)).trans (below_drewN (Below.refl _ _) 1)
    have ht4 : Tch (Value.slice A L.length c).ownBlock.toList wA w4 := (Tch.of_below hdr).trans htch
    have hnf := hqA.notfix (by decide)
    have hst4 : Stp B wA w4 := Stp.of_tch ht4 (fun i hi => hnf i (List.mem_cons_of_mem _ hi))
    have hsA := hbA.size
    have hput := hqA.put (by decide) (by decide) ht4 (fun i hi => hnf i (List.mem_cons_of_mem _ hi)) (by
      intro hs
      exact hqA.ne (by decide) s (by simpa using hs) rfl) hwin (by
      intro y hy
      rcases List.mem_append.1 hy with hy | hy
      · exact (hqA.ok y hy).stp hst4
      · rw [List.mem_singleton.1 hy]; exact hok.stp hst4) (by
      intro g hg
      rcases hloc g hg with h | h
      · exact hqA.nv g h
      · have := hqA.bB
        have h2 : wA.drew.heap.size = wA.heap.size := rfl
        omega)
    have HE := Lib.hid (HPP.out (.returned (.bool true)) _ ⟨v', _, by rw [decide_eq_true HF.out], ⟨hput.1, (Tch.of_below hbA).trans hput.2.1, (Stp.of_below hbA).trans hput.2.2, by
      intro g hg
      rcases hloc g hg with h | h
      · exact .inl h
      · have h2 : wA.drew.heap.size = wA.heap.size := rfl
        right
        omega⟩, by rw [if_pos HF.out, List.map_append]; rfl⟩)
    have hs4 := (ht4.block s (lt_of_block hqA.st) (by
      intro hs
      exact hqA.ne (by decide) s (by simpa using hs) rfl)).trans hqA.st
    have HRUN := Lib.hid (show (Builtin.append_ #[31, 31] 31 #[.slice A L.length c, .slice (some ⟨wA.heap.size, 0, none⟩) 1 1]).run Try.prog (wA.alloc (.cells #[.string m.topic, .string m.payload, .int .i64 m.qos, .bool m.retain, .slice m.pA m.props.length m.pc, .string m.from_, .int .i64 m.until_, .int .i64 m.seq, .string m.group] 24)).drew = .ok v' w4 from hr)
    obtain ⟨S, hSdef⟩ : ∃ S, S = Hold s w.heap.size (.cells #[.int .i64 most, .slice A L.length c] 41 (0, 0)) (.cells #[.string m.topic, .string m.payload, .int .i64 m.qos, .bool m.retain, .slice m.pA m.props.length m.pc, .string m.from_, .int .i64 m.until_, .int .i64 m.seq, .string m.group] 24 (0, 0)) := ⟨_, rfl⟩
    have hS1 : S wA.drew := by rw [hSdef]; exact ⟨hqA.st, hz5⟩
    have HS2 := Lib.hid (show S (wA.alloc (.cells #[.string m.topic, .string m.payload, .int .i64 m.qos, .bool m.retain, .slice m.pA m.props.length m.pc, .string m.from_, .int .i64 m.until_, .int .i64 m.seq, .string m.group] 24)).drew by rw [hSdef]; exact ⟨(hal.block _ (lt_of_block hqA.st)).trans hqA.st, (hal.block _ (lt_of_block hz5)).trans hz5⟩)
    have HS3 := Lib.hid (show S w4 by
      rw [hSdef]
      refine ⟨hs4, (ht4.block _ (lt_of_block hz5) ?_).trans hz5⟩
      intro hs
      have hg : (Value.slice A L.length c).ownBlock = some w.heap.size := by simpa using hs
      have := HQ0.out.win.lt hg
      omega)
    have r1 := fun n : Wd S => (show n.w.cell? ⟨s, 1, none⟩ = some (.slice A L.length c) by
      obtain ⟨u, hu⟩ := n
      rw [hSdef] at hu
      exact cell_of hu.1 rfl)
    have hbx := fun n : Wd S => (show n.w.heap[w.heap.size]? = some (.cells #[.string m.topic, .string m.payload, .int .i64 m.qos, .bool m.retain, .slice m.pA m.props.length m.pc, .string m.from_, .int .i64 m.until_, .int .i64 m.seq, .string m.group] 24 (0, 0)) by
      obtain ⟨u, hu⟩ := n
      rw [hSdef] at hu
      exact hu.2)
    have b0 := fun n : Wd S => cell_of (hbx n) (o := 0) (v := .string m.topic) rfl
    have b1 := fun n : Wd S => cell_of (hbx n) (o := 1) (v := .string m.payload) rfl
    have b2 := fun n : Wd S => cell_of (hbx n) (o := 2) (v := .int .i64 m.qos) rfl
    have b3 := fun n : Wd S => cell_of (hbx n) (o := 3) (v := .bool m.retain) rfl
    have b4 := fun n : Wd S => cell_of (hbx n) (o := 4) (v := .slice m.pA m.props.length m.pc) rfl
    have b5 := fun n : Wd S => cell_of (hbx n) (o := 5) (v := .string m.from_) rfl
    have b6 := fun n : Wd S => cell_of (hbx n) (o := 6) (v := .int .i64 m.until_) rfl
    have b7 := fun n : Wd S => cell_of (hbx n) (o := 7) (v := .int .i64 m.seq) rfl
    have b8 := fun n : Wd S => cell_of (hbx n) (o := 8) (v := .string m.group) rfl
    clear hSdef hbx
    have e1 := cell_of hs4 (o := 1) (v := .slice A L.length c) rfl
    have ef := free_of hs4 1
    have HVF := Lib.hid (show ∃ A' n' c', v' = .slice A' n' c' by
      obtain ⟨A', c', hv, -⟩ := hwin.rd
      exact ⟨A', _, c', hv⟩)
    subst hwA
    clear hq hbq hz5 hbA hok hqA hdr hr hwin htch hloc hal ht4 hnf hst4 hsA hput hs4 q0 q1
    go_upto_region 3 with (fail)
    have hNS : Nonempty (Wd S) := ⟨⟨_, hS1⟩⟩
    refine wp_region_G (n := 11) S rfl (by kernel_rfl) hS1 (fun hS => ?_)
    refine wpAnyG_seg (fuel := 5) [0, 1, 2, 3, 4, 5] rfl rfl (by kernel_rfl) (fun _ _ d _ _ h => by cases d <;> exact h) hS ?_
    repeat (go_big_quiet_step (fail))
    refine wpQuiet_nil ?_
    clear r1 b0 b1 b2 b3 b4 b5 b6 b7 b8
    refine wpAnyG_alone (fuel := 4) 6 (by kernel_rfl) rfl hS (fun K hK => ?_)
    go_simp
    refine hK.out S _ _ (fun _ h => h) HS2.out (fun hS => ?_)
    clear hK K
    refine wpAnyG_alone (fuel := 3) 7 (by kernel_rfl) rfl hS (fun K hK => ?_)
    refine step_append_eq (by rfl) _ _ _ (by rfl) (by rfl) (by rfl) HRUN.out ?_
    go_simp
    refine hK.out S _ _ (fun _ h => h) HS3.out (fun hS => ?_)
    clear hK K
    obtain ⟨A', n', c', rfl⟩ := HVF.out
    refine wpAnyG_seg (fuel := 1) [8, 9] rfl rfl (by kernel_rfl) (fun _ _ d _ _ h => by cases d <;> exact h) hS ?_
    repeat (go_big_quiet_step (fail))
    refine wpQuiet_nil ?_
    refine wpAnyG_sealed (fuel := 0) 10 (by kernel_rfl) (by kernel_rfl) rfl (fun K hK => ?_)
    go_simp
    refine hK.out (fun _ => True) _ _ trivial (fun hS => ?_)
    clear hK K hS e1 ef
    refine wpAnyG_end (by kernel_rfl) ?_
    go_wp2_with fail
    exact HE.out
set_option maxRecDepth 100000 in
set_option maxHeartbeats 4000000 in
theorem rfirst_any {B : Nat} {w : World} {s : Nat} {most : Int} {v : Value} {L : List Mg} (h : Q 41 B w s most v L) (hl : L.length < 100000) (now : Int) :
    Calls Try.prog 20 #[.pointer (some ⟨s, 0, none⟩), .int .i64 now] w (FirstPost 41 B w s most v L now false) := by
  generalize hP : FirstPost 41 B w s most v L now false = PP
  have HPP := Lib.hid (show ∀ e w', FirstPost 41 B w s most v L now false e w' → PP e w' by intro e w' h; rw [← hP]; exact h)
  clear hP
  have hb0 := alloc_below w (.cells #[.string ⟨#[]⟩, .string ⟨#[]⟩, .int .i64 0, .bool false, .slice none 0 0, .string ⟨#[]⟩, .int .i64 0, .int .i64 0, .string ⟨#[]⟩] 24)
  have hz0 := heap_alloc_new w (.cells #[.string ⟨#[]⟩, .string ⟨#[]⟩, .int .i64 0, .bool false, .slice none 0 0, .string ⟨#[]⟩, .int .i64 0, .int .i64 0, .string ⟨#[]⟩] 24)
  obtain ⟨W, hW⟩ : ∃ W, W = w.alloc (.cells #[.string ⟨#[]⟩, .string ⟨#[]⟩, .int .i64 0, .bool false, .slice none 0 0, .string ⟨#[]⟩, .int .i64 0, .int .i64 0, .string ⟨#[]⟩] 24) := ⟨_, rfl⟩
  have HW := Lib.hid hW
  rw [← hW] at hb0 hz0
  have HB := Lib.hid h.bB
  have HSN := Lib.hid (lt_of_block h.st)
  have HV := Lib.hid (fun g (hg : v.ownBlock = some g) => h.win.lt hg)
  have HST := Lib.hid (Step.of_below h hb0)
  have HZ := Lib.hid hz0
  clear hb0 hz0 hW h
  go_enter Try.func20, Try.ntmps20
  go_upto_region 1 with (fail)
  rw [← HW.out]
  clear HW
  go_loopw [] (fun wr => ∃ (v1 : Value) (R : List Mg), Step 41 B w s most v R wr v1 ∧ (R.dropWhile fun m => come m now) = (L.dropWhile fun m => come m now) ∧ R.length ≤ L.length ∧ (∀ g, v1.ownBlock = some g → v.ownBlock = some g) ∧ wr.heap[w.heap.size]? = some (.cells #[.string ⟨#[]⟩, .string ⟨#[]⟩, .int .i64 0, .bool false, .slice none 0 0, .string ⟨#[]⟩, .int .i64 0, .int .i64 0, .string ⟨#[]⟩] 24 (0, 0))) (fun wr => lenAt wr s)
  case atStart => exact ⟨v, L, HST.out, rfl, Nat.le_refl _, fun g hg => hg, HZ.out⟩
  case round =>
    obtain ⟨v1, R, hst, hd, hle, how, hz⟩ := hrel
    have HOW := Lib.hid how
    clear how
    have HS := Lib.hid hst
    have HD := Lib.hid hd
    have HZ2 := Lib.hid hz
    have hlen := lenAt_q hst.q
    cases R with
    | nil =>
      obtain ⟨A, cc, rfl, -⟩ := hst.q.win.rd
      have k1 : wr.cell? ⟨s, 1, none⟩ = some (.slice A 0 cc) := cell_of hst.q.st rfl
      clear hst hd hz
      have c0 : wr.cell? ⟨w.heap.size, 0, none⟩ = some (.string ⟨#[]⟩) := cell_of HZ2.out rfl
      have c1 : wr.cell? ⟨w.heap.size, 1, none⟩ = some (.string ⟨#[]⟩) := cell_of HZ2.out rfl
      have c2 : wr.cell? ⟨w.heap.size, 2, none⟩ = some (.int .i64 0) := cell_of HZ2.out rfl
      have c3 : wr.cell? ⟨w.heap.size, 3, none⟩ = some (.bool false) := cell_of HZ2.out rfl
      have c4 : wr.cell? ⟨w.heap.size, 4, none⟩ = some (.slice none 0 0) := cell_of HZ2.out rfl
      have c5 : wr.cell? ⟨w.heap.size, 5, none⟩ = some (.string ⟨#[]⟩) := cell_of HZ2.out rfl
      have c6 : wr.cell? ⟨w.heap.size, 6, none⟩ = some (.int .i64 0) := cell_of HZ2.out rfl
      have c7 : wr.cell? ⟨w.heap.size, 7, none⟩ = some (.int .i64 0) := cell_of HZ2.out rfl
      have c8 : wr.cell? ⟨w.heap.size, 8, none⟩ = some (.string ⟨#[]⟩) := cell_of HZ2.out rfl
      have f0 := free_of HZ2.out 0
      have f1 := free_of HZ2.out 1
      have f2 := free_of HZ2.out 2
      have f3 := free_of HZ2.out 3
      have f4 := free_of HZ2.out 4
      have f5 := free_of HZ2.out 5
      have f6 := free_of HZ2.out 6
      have f7 := free_of HZ2.out 7
      have f8 := free_of HZ2.out 8
      have hp := put9 HZ2.out (.string ⟨#[]⟩) (.string ⟨#[]⟩) (.int .i64 0) (.bool false) (.slice none 0 0) (.string ⟨#[]⟩) (.int .i64 0) (.int .i64 0) (.string ⟨#[]⟩)
      have p0 := cell_of hp (o := 0) (v := .string ⟨#[]⟩) rfl
      have p1 := cell_of hp (o := 1) (v := .string ⟨#[]⟩) rfl
      have p2 := cell_of hp (o := 2) (v := .int .i64 0) rfl
      have p3 := cell_of hp (o := 3) (v := .bool false) rfl
      have p4 := cell_of hp (o := 4) (v := .slice none 0 0) rfl
      have p5 := cell_of hp (o := 5) (v := .string ⟨#[]⟩) rfl
      have p6 := cell_of hp (o := 6) (v := .int .i64 0) rfl
      have p7 := cell_of hp (o := 7) (v := .int .i64 0) rfl
      have p8 := cell_of hp (o := 8) (v := .string ⟨#[]⟩) rfl
      have HTE := Lib.hid (put9_tch wr (w.heap.size) (.string ⟨#[]⟩) (.string ⟨#[]⟩) (.int .i64 0) (.bool false) (.slice none 0 0) (.string ⟨#[]⟩) (.int .i64 0) (.int .i64 0) (.string ⟨#[]⟩))
      have HE := Lib.hid (finish (.returned (.tuple #[mg0.val, .bool false])) HPP.out HB.out HSN.out HS.out HZ2.out HTE.out (fun g hg => by have := HV.out g (HOW.out g hg); omega) (by
        intro w6 hst6 hst7
        exact ⟨fun _ => rfl, fun m R' h => (by rw [← HD.out] at h; cases h), _, by rw [← HD.out]; exact hst6⟩))
      clear hp
      go_wp2_with fail
      exact bodyPost_ret (v := .tuple #[.agg #[.string ⟨#[]⟩, .string ⟨#[]⟩, .int .i64 0, .bool false, .slice none 0 0, .string ⟨#[]⟩, .int .i64 0, .int .i64 0, .string ⟨#[]⟩], .bool false]) (by simp [mg0, Mg.val, results, Try.results20, go_sem, *]) rfl HE.out
    | cons m R' =>
      have HC := Lib.hid (rcome_any m now wr)
      have hmok := hst.q.ok m (by simp)
      obtain ⟨g, o, cap, rfl, hcap, hcm, ht1, ht2⟩ := hst.q.win.tail
      have k1 : wr.cell? ⟨s, 1, none⟩ = some (.slice (some ⟨g, o, none⟩) (R'.length + 1) cap) := cell_of hst.q.st rfl
      obtain ⟨A, cc, hv, hrd⟩ := hst.q.win.rd
      injection hv with hv1 hv2 hv3
      subst hv1
      obtain ⟨g', o', hA, c0, c1, c2, c3, c4, c5, c6, c7, c8⟩ := rd_msg hrd (k := 0) rfl
      injection hA with hA
      injection hA with hA1 hA2
      subst hA1 hA2 hv3
      simp only [Nat.zero_mul, Nat.add_zero] at c0 c1 c2 c3 c4 c5 c6 c7 c8
      simp only [List.length_cons] at hlen hle
      have hz1 : (0 : Int) < R'.length + 1 := by omega
      have hc1 : (1 : Int) ≤ R'.length + 1 := by omega
      have hc2 : (R'.length : Int) + 1 ≤ cap := by omega
      have HMOK := Lib.hid hmok
      have HT1 := Lib.hid ht1
      have HT2 := Lib.hid ht2
      unfold Mg.val at HC
      unfold maxLen at hcm
      clear hst hd hz hmok hrd ht1 ht2 hv2
      cases hcome : come m now with
      | true =>
        rw [hcome] at HC
        have HCO := Lib.hid hcome
        clear hcome
        go_wp2_with fail
        refine HC.out.mono ?_
        rintro e w2 ⟨rfl, hb⟩
        have HS2 := Lib.hid (HS.out.below hb)
        have HZ3 := Lib.hid ((hb.block _ (lt_of_block HZ2.out)).trans HZ2.out)
        have HB2 := Lib.hid hb
        clear hb k1 c0 c1 c2 c3 c4 c5 c6 c7 c8
        have k1 : w2.cell? ⟨s, 1, none⟩ = some (.slice (some ⟨g, o, none⟩) (R'.length + 1) cap) := cell_of HS2.out.q.st rfl
        have kf := free_of HS2.out.q.st 1
        have HZ4 := Lib.hid (fun u => (set_other (p := ⟨s, 1, none⟩) (by have := HSN.out; simp; omega) u).trans HZ3.out)
        by_cases hone : cap = 1
        case pos =>
          obtain ⟨hw, rfl⟩ := HT1.out hone
          have HS3 := Lib.hid (HS2.out.put HB.out (by decide) (by decide) (hw.below HB2.out) (by simp) (fun g' hg => .inl hg))
          subst hone
          have hl2 := lenAt_q HS3.out.q
          simp only [List.length_nil] at hl2
          clear hw
          go_wp2_with fail
          go_roundw
          case rel => exact ⟨_, [], HS3.out, by rw [← HD.out, List.dropWhile_cons, if_pos HCO.out], by simp, HOW.out, HZ4.out _⟩
          case measure => rw [hl2, hlen]; omega
        case neg =>
          have HS3 := Lib.hid (HS2.out.put HB.out (by decide) (by decide) ((HT2.out hone).below HB2.out) (fun y hy => HS2.out.q.ok y (by simp [hy])) (fun g' hg => .inl hg))
          have hl2 := lenAt_q HS3.out.q
          go_wp2_with fail
          go_roundw
          case rel => exact ⟨_, R', HS3.out, by rw [← HD.out, List.dropWhile_cons, if_pos HCO.out], by omega, HOW.out, HZ4.out _⟩
          case measure => rw [hl2, hlen]; omega
      | false =>
        rw [hcome] at HC
        have HNE := Lib.hid (show ¬ come m now = true by rw [hcome]; exact Bool.false_ne_true)
        clear hcome
        go_wp2_with fail
        refine HC.out.mono ?_
        rintro e w2 ⟨rfl, hb⟩
        have HS2 := Lib.hid (HS.out.below hb)
        have HZ3 := Lib.hid ((hb.block _ (lt_of_block HZ2.out)).trans HZ2.out)
        have HOK := Lib.hid (HMOK.out.below hb)
        have d0 := (Same.of_below hb).cell c0
        have d1 := (Same.of_below hb).cell c1
        have d2 := (Same.of_below hb).cell c2
        have d3 := (Same.of_below hb).cell c3
        have d4 := (Same.of_below hb).cell c4
        have d5 := (Same.of_below hb).cell c5
        have d6 := (Same.of_below hb).cell c6
        have d7 := (Same.of_below hb).cell c7
        have d8 := (Same.of_below hb).cell c8
        clear hb k1 c0 c1 c2 c3 c4 c5 c6 c7 c8
        have k1 : w2.cell? ⟨s, 1, none⟩ = some (.slice (some ⟨g, o, none⟩) (R'.length + 1) cap) := cell_of HS2.out.q.st rfl
        have hnz : ((R'.length : Int) + 1 == 0) = false := beq_eq_false_iff_ne.2 (by omega)
        have c0 : w2.cell? ⟨w.heap.size, 0, none⟩ = some (.string ⟨#[]⟩) := cell_of HZ3.out rfl
        have c1 : w2.cell? ⟨w.heap.size, 1, none⟩ = some (.string ⟨#[]⟩) := cell_of HZ3.out rfl
        have c2 : w2.cell? ⟨w.heap.size, 2, none⟩ = some (.int .i64 0) := cell_of HZ3.out rfl
        have c3 : w2.cell? ⟨w.heap.size, 3, none⟩ = some (.bool false) := cell_of HZ3.out rfl
        have c4 : w2.cell? ⟨w.heap.size, 4, none⟩ = some (.slice none 0 0) := cell_of HZ3.out rfl
        have c5 : w2.cell? ⟨w.heap.size, 5, none⟩ = some (.string ⟨#[]⟩) := cell_of HZ3.out rfl
        have c6 : w2.cell? ⟨w.heap.size, 6, none⟩ = some (.int .i64 0) := cell_of HZ3.out rfl
        have c7 : w2.cell? ⟨w.heap.size, 7, none⟩ = some (.int .i64 0) := cell_of HZ3.out rfl
        have c8 : w2.cell? ⟨w.heap.size, 8, none⟩ = some (.string ⟨#[]⟩) := cell_of HZ3.out rfl
        have f0 := free_of HZ3.out 0
        have f1 := free_of HZ3.out 1
        have f2 := free_of HZ3.out 2
        have f3 := free_of HZ3.out 3
        have f4 := free_of HZ3.out 4
        have f5 := free_of HZ3.out 5
        have f6 := free_of HZ3.out 6
        have f7 := free_of HZ3.out 7
        have f8 := free_of HZ3.out 8
        have hp := put9 HZ3.out (.string m.topic) (.string m.payload) (.int .i64 m.qos) (.bool m.retain) (.slice m.pA m.props.length m.pc) (.string m.from_) (.int .i64 m.until_) (.int .i64 m.seq) (.string m.group)
        have p0 := cell_of hp (o := 0) (v := .string m.topic) rfl
        have p1 := cell_of hp (o := 1) (v := .string m.payload) rfl
        have p2 := cell_of hp (o := 2) (v := .int .i64 m.qos) rfl
        have p3 := cell_of hp (o := 3) (v := .bool m.retain) rfl
        have p4 := cell_of hp (o := 4) (v := .slice m.pA m.props.length m.pc) rfl
        have p5 := cell_of hp (o := 5) (v := .string m.from_) rfl
        have p6 := cell_of hp (o := 6) (v := .int .i64 m.until_) rfl
        have p7 := cell_of hp (o := 7) (v := .int .i64 m.seq) rfl
        have p8 := cell_of hp (o := 8) (v := .string m.group) rfl
        have HTE := Lib.hid (put9_tch w2 (w.heap.size) (.string m.topic) (.string m.payload) (.int .i64 m.qos) (.bool m.retain) (.slice m.pA m.props.length m.pc) (.string m.from_) (.int .i64 m.until_) (.int .i64 m.seq) (.string m.group))
        have HE := Lib.hid (finish (.returned (.tuple #[.agg #[.string m.topic, .string m.payload, .int .i64 m.qos, .bool m.retain, .slice m.pA m.props.length m.pc, .string m.from_, .int .i64 m.until_, .int .i64 m.seq, .string m.group], .bool true])) HPP.out HB.out HSN.out HS2.out HZ3.out HTE.out (fun g hg => by have := HV.out g (HOW.out g hg); omega) (by
          intro w6 hst6 hst7
          refine ⟨fun h => (by rw [← HD.out, List.dropWhile_cons, if_neg HNE.out] at h; cases h), fun m2 R2 h => ?_, _, by rw [← HD.out, List.dropWhile_cons, if_neg HNE.out]; exact hst6⟩
          rw [← HD.out, List.dropWhile_cons, if_neg HNE.out] at h
          injection h with h1 h2
          subst h1
          exact ⟨m, rfl, rfl, HOK.out.stp hst7⟩))
        clear hp
        go_wp2_with fail
        exact bodyPost_ret (v := .tuple #[.agg #[.string m.topic, .string m.payload, .int .i64 m.qos, .bool m.retain, .slice m.pA m.props.length m.pc, .string m.from_, .int .i64 m.until_, .int .i64 m.seq, .string m.group], .bool true]) (by simp [results, Try.results20, go_sem, *]) rfl HE.out
theorem keep_take {L : List Mg} {now : Int} {k : Nat} {x : Mg} (hx : L[k]? = some x) : ((L.take (k + 1)).filter fun m => !come m now) = if come x now = true then ((L.take k).filter fun m => !come m now) else ((L.take k).filter fun m => !come m now) ++ [x] := by
  rw [List.take_add_one, hx, List.filter_append]
  cases h : come x now <;> simp [h]
set_option maxRecDepth 100000 in
set_option maxHeartbeats 4000000 in
theorem rexpire_any {B : Nat} {w : World} {s : Nat} {most : Int} {v : Value} {L : List Mg} (h : Q 41 B w s most v L) (hl : L.length < 100000) (now : Int) :
    Calls Try.prog 22 #[.pointer (some ⟨s, 0, none⟩), .int .i64 now] w (ExpPost 41 B w s most v L now) := by
  generalize hP : ExpPost 41 B w s most v L now = PP
  have HPP := Lib.hid (show ∀ e w', ExpPost 41 B w s most v L now e w' → PP e w' by intro e w' h; rw [← hP]; exact h)
  clear hP
  have HQ := Lib.hid h
  have HB := Lib.hid h.bB
  obtain ⟨A, c, rfl, -⟩ := h.win.rd
  clear h
  go_enter Try.func22, Try.ntmps22
  go_wp2
  go_loopw [5, 6] (fun v2 x wr => ∃ k : Nat, k ≤ L.length ∧ x = .int .i64 k ∧ wr.ownsRow 0 24 9 v2 ((L.take k).filter fun m => !come m now).length (((L.take k).filter fun m => !come m now).flatMap Mg.vals) ∧ (∀ g, v2.ownBlock = some g → w.heap.size ≤ g) ∧ Below w.heap.size w wr) (fun _ x _ => L.length - (intOf x).toNat)
  case atStart => exact ⟨0, by omega, rfl, own_nil w 24 9, by intro g hg; simp [Value.ownBlock] at hg, Below.refl _ _⟩
  case round =>
    obtain ⟨k, hk, rfl, hown, hN, hbr⟩ := hrel
    have hq := HQ.out.below hbr
    have k1 : wr.cell? ⟨s, 1, none⟩ = some (.slice A L.length c) := cell_of hq.st rfl
    by_cases hlt : k < L.length
    · obtain ⟨x, hx⟩ : ∃ x, L[k]? = some x := ⟨_, List.getElem?_eq_getElem hlt⟩
      obtain ⟨A0, c0', hv, hrd⟩ := hq.win.rd
      injection hv with hv1 hv2 hv3
      subst hv1 hv3
      obtain ⟨b, off, rfl, c0, c1, c2, c3, c4, c5, c6, c7, c8⟩ := rd_msg hrd hx
      have HC := Lib.hid (rcome_any x now wr)
      have HX := Lib.hid (keep_take (now := now) hx)
      have HB1 := Lib.hid hbr
      have HN := Lib.hid hN
      have HO := Lib.hid hown
      have HQ1 := Lib.hid hq
      unfold Mg.val at HC
      clear hx hq hrd hown hN hbr hv2
      cases hcome : come x now with
      | true =>
        rw [hcome] at HC
        rw [hcome, if_pos rfl] at HX
        clear hcome
        go_wp2_with fail
        refine HC.out.mono ?_
        rintro e w2 ⟨rfl, hb⟩
        have HB2 := Lib.hid (HB1.out.trans (hb.mono HB1.out.size))
        have HO2 := Lib.hid (own_kept HO.out (Tch.of_below (S := []) hb) (by simp))
        clear hb k1 c0 c1 c2 c3 c4 c5 c6 c7 c8
        go_wp2_with fail
        go_roundw
        case rel => exact ⟨k + 1, by omega, by go_num, by rw [HX.out]; exact HO2.out, HN.out, HB2.out⟩
        case measure => simp [intOf]; omega
      | false =>
        rw [hcome] at HC
        rw [hcome, if_neg (by decide)] at HX
        clear hcome
        go_wp2_with fail
        refine HC.out.mono ?_
        rintro e w2 ⟨rfl, hb⟩
        have HB2 := Lib.hid (HB1.out.trans (hb.mono HB1.out.size))
        have ho2 := own_kept HO.out (Tch.of_below (S := []) hb) (by simp)
        have hkl := List.length_filter_le (fun m => !come m now) (L.take k)
        rw [List.length_take] at hkl
        obtain ⟨i0, hi, y0, y1, y2⟩ := info_parts info24
        obtain ⟨v', w3, hr, ho, ht, hloc, hsz⟩ := append_one (P := Try.prog) (ty := 31) Try.underlying31 hi y0 y1 y2 rfl (by decide) ho2 (Mg.vals x) rfl (by simpa using msg_one [x]) (by unfold maxLen; omega) (by omega)
        have HRUN := Lib.hid hr
        have HO3 := Lib.hid (show w3.ownsRow 0 24 9 v' ((L.take (k + 1)).filter fun m => !come m now).length (((L.take (k + 1)).filter fun m => !come m now).flatMap Mg.vals) by
          rw [HX.out]; simpa using ho)
        have HN3 := Lib.hid (show ∀ g, v'.ownBlock = some g → w.heap.size ≤ g by
          intro g hg
          rcases hloc g hg with h | h
          · exact HN.out g h
          · have := HB2.out.size
            omega)
        have HB3 := Lib.hid (HB2.out.trans (ht.below HB2.out.size (by
          intro i hi
          exact HN.out i (by simpa using hi))))
        unfold Mg.vals at HRUN
        have d0 := (Same.of_below hb).cell c0
        have d1 := (Same.of_below hb).cell c1
        have d2 := (Same.of_below hb).cell c2
        have d3 := (Same.of_below hb).cell c3
        have d4 := (Same.of_below hb).cell c4
        have d5 := (Same.of_below hb).cell c5
        have d6 := (Same.of_below hb).cell c6
        have d7 := (Same.of_below hb).cell c7
        have d8 := (Same.of_below hb).cell c8
        have k2 := (Same.of_below hb).cell k1
        clear hb k1 c0 c1 c2 c3 c4 c5 c6 c7 c8 ho2 hr ho ht hloc hsz hi y0 y1 y2 hkl
        go_wp2_with (at_builtin; refine wpList_append_eq rfl _ _ _ rfl rfl rfl HRUN.out ?_)
        go_roundw
        case rel => exact ⟨k + 1, by omega, by go_num, HO3.out, HN3.out, HB3.out⟩
        case measure => simp [intOf]; omega
    · obtain rfl : k = L.length := by omega
      rw [List.take_length] at hown
      have hfl := List.length_filter_le (fun m => !come m now) L
      have hS := (Step.of_below HQ.out hbr).put HB.out (by decide) (by decide) (win_own hown) (fun y hy => hq.ok y (List.mem_filter.1 hy).1) (fun g hg => .inr (hN g hg))
      have hE := HPP.out (.returned (.int .i64 ((L.length : Int) - ((L.filter fun m => !come m now).length : Int)))) _ ⟨rfl, _, hS⟩
      have kf := free_of hq.st 1
      generalize (L.filter fun m => !come m now) = K at *
      obtain ⟨A2, c2, rfl⟩ := own_form hown
      have HE := Lib.hid hE
      clear hown hS hE hq hN hbr
      go_wp2_with fail
      exact HE.out
end Go.Proofs.Ytjcdkgdeoeboaaa.QuW
