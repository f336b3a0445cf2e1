/- Queues: made, pushed to, counted, copied. -/
import Derived.Test.YtjcdkgdeoeboaaaQuG
set_option linter.unusedVariables false
set_option linter.unusedSimpArgs false
namespace Go.Proofs.Ytjcdkgdeoeboaaa.QuW
open Go.RowKit Go.Proofs.Ytjcdkgdeoeboaaa.Tc

theorem new_any (w : World) (most : Int) (B : Nat) (hB : B ≤ w.heap.size) : Calls Try.prog 12 #[.int .i64 most] w fun e w' => e = .returned (.pointer (some ⟨w.heap.size, 0, none⟩)) ∧ Q 43 B w' w.heap.size most (.slice none 0 0) [] ∧ Below w.heap.size w w' := by
  have HB := Lib.hid (alloc_below w (.cells #[.int .i64 most, .slice none 0 0] 43))
  have HZ := Lib.hid (heap_alloc_new w (.cells #[.int .i64 most, .slice none 0 0] 43))
  have HQ := Lib.hid (show Q 43 B (w.alloc (.cells #[.int .i64 most, .slice none 0 0] 43)) w.heap.size most (.slice none 0 0) [] from ⟨HZ.out, Win.nil _, by simp, hB, by intro g hg; simp [Value.ownBlock] at hg⟩)
  go_enter Try.func12, Try.ntmps12
  go_wp2
  go_ret
  exact ⟨rfl, HQ.out, HB.out⟩
section
variable {B : Nat} {w : World} {s : Nat} {most : Int} {v : Value} {L : List Mg}
theorem len_any (h : Q 43 B w s most v L) : Calls Try.prog 15 #[.pointer (some ⟨s, 0, none⟩)] w fun e w' => e = .returned (.int .i64 L.length) ∧ w = w' := by
  obtain ⟨A, c, rfl, -⟩ := h.win.rd
  have c1 : w.cell? ⟨s, 1, none⟩ = some (.slice A L.length c) := cell_of h.st rfl
  clear h
  go_enter Try.func15, Try.ntmps15
  go_wp2
  go_ret
  exact ⟨rfl, rfl⟩
theorem all_any (h : Q 43 B w s most v L) (hl : L.length < 1000000) : Calls Try.prog 24 #[.pointer (some ⟨s, 0, none⟩)] w fun e w' => (∃ v', e = .returned v' ∧ w'.ownsRow 0 24 9 v' L.length (L.flatMap Mg.vals) ∧ ∀ g, v'.ownBlock = some g → w.heap.size ≤ g) ∧ Below w.heap.size w w' := by
  generalize hP : (fun (e : Ending) (w' : World) => (∃ v', e = .returned v' ∧ w'.ownsRow 0 24 9 v' L.length (L.flatMap Mg.vals) ∧ ∀ g, v'.ownBlock = some g → w.heap.size ≤ g) ∧ Below w.heap.size w w') = PP
  have HPP := Lib.hid (show ∀ (v' : Value) (w' : World), w'.ownsRow 0 24 9 v' L.length (L.flatMap Mg.vals) → (∀ g, v'.ownBlock = some g → w.heap.size ≤ g) → Below w.heap.size w w' → PP (.returned v') w' by
    intro v' w' h1 h2 h3
    rw [← hP]
    exact ⟨⟨v', rfl, h1, h2⟩, h3⟩)
  clear hP
  obtain ⟨A, c, rfl, hrd⟩ := h.win.rd
  have c1 : w.cell? ⟨s, 1, none⟩ = some (.slice A L.length c) := cell_of h.st rfl
  have HC := Lib.hid (cloneM_any w A c L hrd hl)
  clear h hrd
  go_enter Try.func24, Try.ntmps24
  go_wp2_with fail
  refine HC.out.mono ?_
  rintro e w2 ⟨⟨v', rfl, hR, hN⟩, hb⟩
  have HE := Lib.hid (HPP.out v' w2 hR hN hb)
  clear hR hN hb
  go_wp2_with fail
  exact HE.out
end
/-- What an act does to a queue. -/
structure Step (T B : Nat) (w : World) (s : Nat) (most : Int) (v : Value) (L' : List Mg) (w' : World) (v' : Value) : Prop where
  q : Q T B w' s most v' L'
  tch : Tch (s :: v.ownBlock.toList) w w'
  stp : Stp B w w'
  loc : ∀ g, v'.ownBlock = some g → v.ownBlock = some g ∨ w.heap.size ≤ g
theorem Step.of_below {T B : Nat} {w w' : World} {s : Nat} {most : Int} {v : Value} {L : List Mg} (h : Q T B w s most v L) (hb : Below w.heap.size w w') : Step T B w s most v L w' v :=
  ⟨h.below hb, Tch.of_below hb, Stp.of_below hb, fun g hg => .inl hg⟩
/-- Two blocks hold what they hold. -/
def Hold (a b : Nat) (x y : Obj) : World → Prop := fun u => u.heap[a]? = some x ∧ u.heap[b]? = some y
def PushPost (T B : Nat) (w : World) (s : Nat) (most : Int) (v : Value) (L : List Mg) (m : Mg) (e : Ending) (w' : World) : Prop :=
  ∃ v' L', e = .returned (.bool (decide ((L.length : Int) < most))) ∧ Step T B w s most v L' w' v' ∧ L'.map bare = if (L.length : Int) < most then L.map bare ++ [bare m] else L.map bare
set_option maxRecDepth 100000 in
set_option maxHeartbeats 4000000 in
theorem push_any {B : Nat} {w : World} {s : Nat} {most : Int} {v : Value} {L : List Mg} (h : Q 43 B w s most v L) (hl : L.length < 100000) (m : Mg) (hm : Ok B w m) :
    Calls Try.prog 13 #[.pointer (some ⟨s, 0, none⟩), m.val] w (PushPost 43 B w s most v L m) := by
  generalize hP : PushPost 43 B w s most v L m = PP
  have HPP := Lib.hid (show ∀ e w', PushPost 43 B w s most v L m e w' → PP e w' by intro e w' h; rw [← hP]; exact h)
  clear hP
  have hb0 := alloc_below w (.cells #[.string m.topic, .string m.payload, .int .i64 m.qos, .bool m.retain, .slice m.pA m.props.length m.pc, .string m.from_, .int .i64 m.until_, .int .i64 m.seq, .string m.group] 24)
  have hz0 := heap_alloc_new w (.cells #[.string m.topic, .string m.payload, .int .i64 m.qos, .bool m.retain, .slice m.pA m.props.length m.pc, .string m.from_, .int .i64 m.until_, .int .i64 m.seq, .string m.group] 24)
  have hs0 : (w.alloc (.cells #[.string m.topic, .string m.payload, .int .i64 m.qos, .bool m.retain, .slice m.pA m.props.length m.pc, .string m.from_, .int .i64 m.until_, .int .i64 m.seq, .string m.group] 24)).heap.size = w.heap.size + 1 := by simp
  obtain ⟨W, hW⟩ : ∃ W, W = w.alloc (.cells #[.string m.topic, .string m.payload, .int .i64 m.qos, .bool m.retain, .slice m.pA m.props.length m.pc, .string m.from_, .int .i64 m.until_, .int .i64 m.seq, .string m.group] 24) := ⟨_, rfl⟩
  have HW := Lib.hid hW
  rw [← hW] at hb0 hz0 hs0
  have HB0 := Lib.hid hb0
  have HZ0 := Lib.hid hz0
  have HS0 := Lib.hid hs0
  have HQ := Lib.hid (h.below hb0)
  have HQ0 := Lib.hid h
  have HM := Lib.hid (hm.below hb0)
  have HMW := Lib.hid hm.wf
  have hfew := hm.few
  obtain ⟨A, c, rfl, -⟩ := h.win.rd
  have q0 := fun n : Wd (Dr W) => n.cellD (cell_of HQ.out.st (o := 0) (v := .int .i64 most) rfl)
  have q1 := fun n : Wd (Dr W) => n.cellD (cell_of HQ.out.st (o := 1) (v := .slice A L.length c) rfl)
  clear hb0 hz0 hs0 hm h hW
  unfold Mg.val
  by_cases hf : (L.length : Int) < most
  case neg =>
    have hf2 : most ≤ (L.length : Int) := by omega
    have HF := Lib.hid hf
    clear hf
    go_enter Try.func13, Try.ntmps13
    go_upto_region 1 with (fail)
    rw [← HW.out]
    clear HW
    refine wp_region_cls (Dr _) (dr_drew _) (by kernel_rfl) (by kernel_rfl) ?_
    repeat (go_big_quiet_step (fail))
    refine wpQuiet_nil ?_
    rintro wq ⟨nq, hnq⟩
    have hq := nq.ok
    rw [← hnq] at hq
    clear hnq nq
    have HE := Lib.hid (HPP.out (.returned (.bool false)) wq ⟨_, L, by rw [decide_eq_false HF.out], Step.of_below HQ0.out (HB0.out.trans ((Dr.below hq).mono HB0.out.size)), by rw [if_neg HF.out]⟩)
    clear hq q0 q1
    go_wp2_with fail
    exact HE.out
  case pos =>
    have hf2 : ¬ most ≤ (L.length : Int) := by omega
    have HF := Lib.hid hf
    clear hf
    go_enter Try.func13, Try.ntmps13
    go_upto_region 1 with (fail)
    rw [← HW.out]
    clear HW
    refine wp_region_cls (Dr _) (dr_drew _) (by kernel_rfl) (by kernel_rfl) ?_
    repeat (go_big_quiet_step (fail))
    refine wpQuiet_nil ?_
    rintro wq ⟨nq, hnq⟩
    have hq := nq.ok
    rw [← hnq] at hq
    clear hnq nq
    have hbq := Dr.below hq
    have hz1 := (hbq.block _ (lt_of_block HZ0.out)).trans HZ0.out
    have HCL := Lib.hid (cloneP_any wq m.pA m.pc m.props (HM.out.rd.below hbq) (by omega))
    have HBQ := Lib.hid hbq
    clear hq hbq q0 q1
    have a0 : wq.cell? ⟨w.heap.size, 0, none⟩ = some (.string m.topic) := cell_of hz1 rfl
    have a1 : wq.cell? ⟨w.heap.size, 1, none⟩ = some (.string m.payload) := cell_of hz1 rfl
    have a2 : wq.cell? ⟨w.heap.size, 2, none⟩ = some (.int .i64 m.qos) := cell_of hz1 rfl
    have a3 : wq.cell? ⟨w.heap.size, 3, none⟩ = some (.bool m.retain) := cell_of hz1 rfl
    have a4 : wq.cell? ⟨w.heap.size, 4, none⟩ = some (.slice m.pA m.props.length m.pc) := cell_of hz1 rfl
    have a5 : wq.cell? ⟨w.heap.size, 5, none⟩ = some (.string m.from_) := cell_of hz1 rfl
    have a6 : wq.cell? ⟨w.heap.size, 6, none⟩ = some (.int .i64 m.until_) := cell_of hz1 rfl
    have a7 : wq.cell? ⟨w.heap.size, 7, none⟩ = some (.int .i64 m.seq) := cell_of hz1 rfl
    have a8 : wq.cell? ⟨w.heap.size, 8, none⟩ = some (.string m.group) := cell_of hz1 rfl
    have HZ1 := Lib.hid hz1
    clear hz1
    go_wp2_with fail
    refine HCL.out.mono ?_
    rintro e w3 ⟨⟨v, rfl, hR, hN⟩, hb⟩
    have hty : ∀ ad, v.ownBlock = some ad → ∃ cur, w3.heap[ad]? = some (.cells cur 56 (0, 0)) := fun ad hd => own_type hR hd
    obtain ⟨A1, cA, rfl, hRd⟩ := rd_own hR
    have hz0 := (hb.block _ (lt_of_block HZ1.out)).trans HZ1.out
    have hb3 := HB0.out.trans ((HBQ.out.trans (hb.mono HBQ.out.size)).mono HB0.out.size)
    have HN3 := Lib.hid (show ∀ ad, A1 = some ad → w.heap.size + 1 ≤ ad.block by
      intro ad had
      subst had
      have h1 := hN ad.block rfl
      have h2 := HBQ.out.size
      rw [HS0.out] at h2
      omega)
    have x4 : w3.cell? ⟨w.heap.size, 4, none⟩ = some (.slice m.pA m.props.length m.pc) := cell_of hz0 rfl
    have xf := free_of hz0 4
    have hz5 : (w3.setCell ⟨w.heap.size, 4, none⟩ (.slice A1 m.props.length cA)).heap[w.heap.size]? = some (.cells #[.string m.topic, .string m.payload, .int .i64 m.qos, .bool m.retain, .slice A1 m.props.length cA, .string m.from_, .int .i64 m.until_, .int .i64 m.seq, .string m.group] 24 (0, 0)) := set_of hz0 4 _
    obtain ⟨wA, hwA⟩ : ∃ wA, wA = w3.setCell ⟨w.heap.size, 4, none⟩ (.slice A1 m.props.length cA) := ⟨_, rfl⟩
    have hbA : Below w.heap.size w wA := by
      rw [hwA]
      exact (((Tch.of_below (S := []) hb3).setCell (p := ⟨w.heap.size, 4, none⟩) (.inr (Nat.le_refl _)) _).below (Nat.le_refl _) (by simp))
    have hok : Ok B wA { m with pA := A1, pc := cA } := by
      refine ⟨?_, ?_, HMW.out, hfew⟩
      · rw [hwA]
        refine hRd.block ?_
        intro ad hA _ _
        have h1 := HN3.out ad hA
        exact set_other (p := ⟨w.heap.size, 4, none⟩) (by simp; omega) _
      · intro ad hA _
        have h1 := HN3.out ad hA
        dsimp only at hA
        subst hA
        obtain ⟨cur, hcur⟩ := hty ad.block rfl
        refine .inr ⟨cur, (0, 0), ?_⟩
        rw [hwA]
        exact (set_other (p := ⟨w.heap.size, 4, none⟩) (by simp; omega) _).trans hcur
    rw [← hwA] at hz5
    have hqA := HQ0.out.below hbA
    have hdr : Below wA.heap.size wA wA.drew := below_drewN (Below.refl _ _) 1
    obtain ⟨v', w4, hr, hwin, htch, hloc⟩ := (hqA.below hdr).win.snoc (by omega) { m with pA := A1, pc := cA }
    have hal : Below wA.heap.size wA (wA.alloc (.cells #[.string m.topic, .string m.payload, .int .i64 m.qos, .bool m.retain, .slice A1 m.props.length cA, .string m.from_, .int .i64 m.until_, .int .i64 m.seq, .string m.group] 24)).drew := (alloc_below wA (.cells #[.string m.topic, .string m.payload, .int .i64 m.qos, .bool m.retain, .slice A1 m.props.length cA, .string m.from_, .int .i64 m.until_, .int .i64 m.seq, .string m.group] 24)).trans (below_drewN (Below.refl _ _) 1)
    have ht4 : Tch (Value.slice A L.length c).ownBlock.toList wA w4 := (Tch.of_below hdr).trans htch
    have hnf := hqA.notfix (by decide)
    have hst4 : Stp B wA w4 := Stp.of_tch ht4 (fun i hi => hnf i (List.mem_cons_of_mem _ hi))
    have hsA := hbA.size
    have hput := hqA.put (by decide) (by decide) ht4 (fun i hi => hnf i (List.mem_cons_of_mem _ hi)) (by
      intro hs
      exact hqA.ne (by decide) s (by simpa using hs) rfl) hwin (by
      intro y hy
      rcases List.mem_append.1 hy with hy | hy
      · exact (hqA.ok y hy).stp hst4
      · rw [List.mem_singleton.1 hy]; exact hok.stp hst4) (by
      intro g hg
      rcases hloc g hg with h | h
      · exact hqA.nv g h
      · have := hqA.bB
        have h2 : wA.drew.heap.size = wA.heap.size := rfl
        omega)
    have HE := Lib.hid (HPP.out (.returned (.bool true)) _ ⟨v', _, by rw [decide_eq_true HF.out], ⟨hput.1, (Tch.of_below hbA).trans hput.2.1, (Stp.of_below hbA).trans hput.2.2, by
      intro g hg
      rcases hloc g hg with h | h
      · exact .inl h
      · have h2 : wA.drew.heap.size = wA.heap.size := rfl
        right
        omega⟩, by rw [if_pos HF.out, List.map_append]; rfl⟩)
    have hs4 := (ht4.block s (lt_of_block hqA.st) (by
      intro hs
      exact hqA.ne (by decide) s (by simpa using hs) rfl)).trans hqA.st
    have HS4 := Lib.hid hs4
    have HRUN := Lib.hid (show (Builtin.append_ #[31, 31] 31 #[.slice A L.length c, .slice (some ⟨wA.heap.size, 0, none⟩) 1 1]).run Try.prog (wA.alloc (.cells #[.string m.topic, .string m.payload, .int .i64 m.qos, .bool m.retain, .slice A1 m.props.length cA, .string m.from_, .int .i64 m.until_, .int .i64 m.seq, .string m.group] 24)).drew = .ok v' w4 from hr)
    have HAL := Lib.hid hal
    have HG4 := Lib.hid ht4
    have HWA := Lib.hid hwA.symm
    obtain ⟨S, hSdef⟩ : ∃ S, S = Hold s w.heap.size (.cells #[.int .i64 most, .slice A L.length c] 43 (0, 0)) (.cells #[.string m.topic, .string m.payload, .int .i64 m.qos, .bool m.retain, .slice A1 m.props.length cA, .string m.from_, .int .i64 m.until_, .int .i64 m.seq, .string m.group] 24 (0, 0)) := ⟨_, rfl⟩
    have hS1 : S wA.drew := by rw [hSdef]; exact ⟨hqA.st, hz5⟩
    have HS2 := Lib.hid (show S (wA.alloc (.cells #[.string m.topic, .string m.payload, .int .i64 m.qos, .bool m.retain, .slice A1 m.props.length cA, .string m.from_, .int .i64 m.until_, .int .i64 m.seq, .string m.group] 24)).drew by rw [hSdef]; exact ⟨(hal.block _ (lt_of_block hqA.st)).trans hqA.st, (hal.block _ (lt_of_block hz5)).trans hz5⟩)
    have HS3 := Lib.hid (show S w4 by
      rw [hSdef]
      refine ⟨hs4, (ht4.block _ (lt_of_block hz5) ?_).trans hz5⟩
      intro hs
      have hg : (Value.slice A L.length c).ownBlock = some w.heap.size := by simpa using hs
      have := HQ0.out.win.lt hg
      omega)
    have r1 := fun n : Wd S => (show n.w.cell? ⟨s, 1, none⟩ = some (.slice A L.length c) by
      obtain ⟨u, hu⟩ := n
      rw [hSdef] at hu
      exact cell_of hu.1 rfl)
    have hbx := fun n : Wd S => (show n.w.heap[w.heap.size]? = some (.cells #[.string m.topic, .string m.payload, .int .i64 m.qos, .bool m.retain, .slice A1 m.props.length cA, .string m.from_, .int .i64 m.until_, .int .i64 m.seq, .string m.group] 24 (0, 0)) by
      obtain ⟨u, hu⟩ := n
      rw [hSdef] at hu
      exact hu.2)
    have b0 := fun n : Wd S => cell_of (hbx n) (o := 0) (v := .string m.topic) rfl
    have b1 := fun n : Wd S => cell_of (hbx n) (o := 1) (v := .string m.payload) rfl
    have b2 := fun n : Wd S => cell_of (hbx n) (o := 2) (v := .int .i64 m.qos) rfl
    have b3 := fun n : Wd S => cell_of (hbx n) (o := 3) (v := .bool m.retain) rfl
    have b4 := fun n : Wd S => cell_of (hbx n) (o := 4) (v := .slice A1 m.props.length cA) rfl
    have b5 := fun n : Wd S => cell_of (hbx n) (o := 5) (v := .string m.from_) rfl
    have b6 := fun n : Wd S => cell_of (hbx n) (o := 6) (v := .int .i64 m.until_) rfl
    have b7 := fun n : Wd S => cell_of (hbx n) (o := 7) (v := .int .i64 m.seq) rfl
    have b8 := fun n : Wd S => cell_of (hbx n) (o := 8) (v := .string m.group) rfl
    clear hSdef hbx
    have e1 := cell_of hs4 (o := 1) (v := .slice A L.length c) rfl
    have ef := free_of hs4 1
    have HVF := Lib.hid (show ∃ A' n' c', v' = .slice A' n' c' by
      obtain ⟨A', c', hv, -⟩ := hwin.rd
      exact ⟨A', _, c', hv⟩)
    have HWA' := HWA.out
    clear hty hRd hR hN hb hz0 hb3 hz5 hwA hbA hok hqA hdr hr hwin htch hloc hal ht4 hnf hst4 hsA hput hs4 a0 a1 a2 a3 a4 a5 a6 a7 a8
    go_upto_region 4 with (fail)
    clear HWA' HWA x4 xf
    have hNS : Nonempty (Wd S) := ⟨⟨_, hS1⟩⟩
    refine wp_region_G (n := 11) S rfl (by kernel_rfl) hS1 (fun hS => ?_)
    refine wpAnyG_seg (fuel := 5) [0, 1, 2, 3, 4, 5] rfl rfl (by kernel_rfl) (fun _ _ d _ _ h => by cases d <;> exact h) hS ?_
    repeat (go_big_quiet_step (fail))
    refine wpQuiet_nil ?_
    clear r1 b0 b1 b2 b3 b4 b5 b6 b7 b8
    refine wpAnyG_alone (fuel := 4) 6 (by kernel_rfl) rfl hS (fun K hK => ?_)
    go_simp
    refine hK.out S _ _ (fun _ h => h) HS2.out (fun hS => ?_)
    clear hK K
    refine wpAnyG_alone (fuel := 3) 7 (by kernel_rfl) rfl hS (fun K hK => ?_)
    refine step_append_eq (by rfl) _ _ _ (by rfl) (by rfl) (by rfl) HRUN.out ?_
    go_simp
    refine hK.out S _ _ (fun _ h => h) HS3.out (fun hS => ?_)
    clear hK K
    obtain ⟨A', n', c', rfl⟩ := HVF.out
    refine wpAnyG_seg (fuel := 1) [8, 9] rfl rfl (by kernel_rfl) (fun _ _ d _ _ h => by cases d <;> exact h) hS ?_
    repeat (go_big_quiet_step (fail))
    refine wpQuiet_nil ?_
    refine wpAnyG_sealed (fuel := 0) 10 (by kernel_rfl) (by kernel_rfl) rfl (fun K hK => ?_)
    go_simp
    refine hK.out (fun _ => True) _ _ trivial (fun hS => ?_)
    clear hK K hS e1 ef
    refine wpAnyG_end (by kernel_rfl) ?_
    go_wp2_with fail
    exact HE.out
end Go.Proofs.Ytjcdkgdeoeboaaa.QuW
