/- Queues: for how long a message may wait yet. -/
import Derived.Test.YtjcdkgdeoeboaaaQuD
set_option linter.unusedVariables false
set_option linter.unusedSimpArgs false
namespace Go.Proofs.Ytjcdkgdeoeboaaa.QuW
open Go.RowKit Go.Proofs.Ytjcdkgdeoeboaaa.Tc

/-- What an append comes to, at a step of a region that draws its order. -/
theorem step_append_eq {P : Program} {w w1 : World} {ops : Array Oper} {o : Oper} {a : Act} {K : Act → World → Prop} {Q : Exit → Act → World → Prop} {E : Prop} (hgd : o.guard = none) (s x : Operand) (t : TypeId)
    (ho : o.op = .call { callee := .builtin .append, args := #[s, x], argTypes := #[t, t] }) {v sl v' : Value} (hs : a.eval s = v) (hx : a.eval x = sl)
    (hr : (Builtin.append_ #[t, t] o.type #[v, sl]).run P w = .ok v' w1) (h : K (a.put o.dst v') w1) : if Region.wanted o (yielded ops a.tmps) = true then Oper.wp P o a w K Q else E := by
  have hw : Region.wanted o (yielded ops a.tmps) = true := by simp [Region.wanted, hgd]
  rw [if_pos hw]
  unfold Oper.wp execOp
  simp only [ho, resolve, invoke, builtin, Sem.run_bind, Sem.run_pure, Result.andThen_ok, List.map_toArray, List.map_cons, List.map_nil, hs, hx, hr]
  exact h
set_option maxRecDepth 100000 in
set_option maxHeartbeats 4000000 in
theorem left_come (m : Mg) (now : Int) (w : World) (hS : Rd w m.pA (m.props.flatMap Prp.cells)) (hl : m.props.length < 100000) (hm : (Lit.int .i64 m.until_).wf = true) (hnow : (Lit.int .i64 now).wf = true) (hc : come m now = true) :
    Calls Try.prog 9 #[m.val, .int .i64 now] w (LPost m now w) := by
  generalize hP : LPost m now w = PP
  have HPP := Lib.hid (show ∀ e w', LPost m now w e w' → PP e w' by intro e w' h; rw [← hP]; exact h)
  clear hP
  have hb0 := alloc_below w (.cells #[.string m.topic, .string m.payload, .int .i64 m.qos, .bool m.retain, .slice m.pA m.props.length m.pc, .string m.from_, .int .i64 m.until_, .int .i64 m.seq, .string m.group] 24)
  have hb1 := alloc_below (w.alloc (.cells #[.string m.topic, .string m.payload, .int .i64 m.qos, .bool m.retain, .slice m.pA m.props.length m.pc, .string m.from_, .int .i64 m.until_, .int .i64 m.seq, .string m.group] 24)) (.cells #[.string ⟨#[]⟩, .string ⟨#[]⟩, .int .i64 0, .bool false, .slice none 0 0, .string ⟨#[]⟩, .int .i64 0, .int .i64 0, .string ⟨#[]⟩] 24)
  have hz0 := heap_alloc_new w (.cells #[.string m.topic, .string m.payload, .int .i64 m.qos, .bool m.retain, .slice m.pA m.props.length m.pc, .string m.from_, .int .i64 m.until_, .int .i64 m.seq, .string m.group] 24)
  have hz1 := heap_alloc_new (w.alloc (.cells #[.string m.topic, .string m.payload, .int .i64 m.qos, .bool m.retain, .slice m.pA m.props.length m.pc, .string m.from_, .int .i64 m.until_, .int .i64 m.seq, .string m.group] 24)) (.cells #[.string ⟨#[]⟩, .string ⟨#[]⟩, .int .i64 0, .bool false, .slice none 0 0, .string ⟨#[]⟩, .int .i64 0, .int .i64 0, .string ⟨#[]⟩] 24)
  have hs0 : (w.alloc (.cells #[.string m.topic, .string m.payload, .int .i64 m.qos, .bool m.retain, .slice m.pA m.props.length m.pc, .string m.from_, .int .i64 m.until_, .int .i64 m.seq, .string m.group] 24)).heap.size = w.heap.size + 1 := by simp
  have hs1 : ((w.alloc (.cells #[.string m.topic, .string m.payload, .int .i64 m.qos, .bool m.retain, .slice m.pA m.props.length m.pc, .string m.from_, .int .i64 m.until_, .int .i64 m.seq, .string m.group] 24)).alloc (.cells #[.string ⟨#[]⟩, .string ⟨#[]⟩, .int .i64 0, .bool false, .slice none 0 0, .string ⟨#[]⟩, .int .i64 0, .int .i64 0, .string ⟨#[]⟩] 24)).heap.size = w.heap.size + 1 + 1 := by simp
  have hbW := hb0.trans (hb1.mono hb0.size)
  have hz0' := (hb1.block w.heap.size (by rw [hs0]; omega)).trans hz0
  rw [hs0] at hz1
  have hSW := hS.below hbW
  have HSW0 := Lib.hid hS
  have hC := come_any m now ((w.alloc (.cells #[.string m.topic, .string m.payload, .int .i64 m.qos, .bool m.retain, .slice m.pA m.props.length m.pc, .string m.from_, .int .i64 m.until_, .int .i64 m.seq, .string m.group] 24)).alloc (.cells #[.string ⟨#[]⟩, .string ⟨#[]⟩, .int .i64 0, .bool false, .slice none 0 0, .string ⟨#[]⟩, .int .i64 0, .int .i64 0, .string ⟨#[]⟩] 24))
  obtain ⟨W, hW⟩ : ∃ W, W = (w.alloc (.cells #[.string m.topic, .string m.payload, .int .i64 m.qos, .bool m.retain, .slice m.pA m.props.length m.pc, .string m.from_, .int .i64 m.until_, .int .i64 m.seq, .string m.group] 24)).alloc (.cells #[.string ⟨#[]⟩, .string ⟨#[]⟩, .int .i64 0, .bool false, .slice none 0 0, .string ⟨#[]⟩, .int .i64 0, .int .i64 0, .string ⟨#[]⟩] 24) := ⟨_, rfl⟩
  have HW := Lib.hid hW
  rw [← hW] at hz0' hz1 hs1 hbW hSW hC
  have HB0 := Lib.hid hbW
  have HZ0 := Lib.hid hz0'
  have HZ1 := Lib.hid hz1
  have HS1 := Lib.hid hs1
  have HSW := Lib.hid hSW
  unfold Mg.val at hC
  have HC := Lib.hid hC
  have HX := Lib.hid (show come m now = (decide (0 < m.until_) && decide (m.until_ ≤ now)) from rfl)
  clear hb0 hb1 hz0 hz1 hs0 hs1 hbW hz0' hS hSW hC hW
  obtain ⟨hm0, hm1⟩ := bounds_i64 hm
  obtain ⟨hn0, hn1⟩ := bounds_i64 hnow
  clear hm hnow
  have a0 : W.cell? ⟨w.heap.size, 0, none⟩ = some (.string m.topic) := cell_of HZ0.out rfl
  have a1 : W.cell? ⟨w.heap.size, 1, none⟩ = some (.string m.payload) := cell_of HZ0.out rfl
  have a2 : W.cell? ⟨w.heap.size, 2, none⟩ = some (.int .i64 m.qos) := cell_of HZ0.out rfl
  have a3 : W.cell? ⟨w.heap.size, 3, none⟩ = some (.bool m.retain) := cell_of HZ0.out rfl
  have a4 : W.cell? ⟨w.heap.size, 4, none⟩ = some (.slice m.pA m.props.length m.pc) := cell_of HZ0.out rfl
  have a5 : W.cell? ⟨w.heap.size, 5, none⟩ = some (.string m.from_) := cell_of HZ0.out rfl
  have a6 : W.cell? ⟨w.heap.size, 6, none⟩ = some (.int .i64 m.until_) := cell_of HZ0.out rfl
  have a7 : W.cell? ⟨w.heap.size, 7, none⟩ = some (.int .i64 m.seq) := cell_of HZ0.out rfl
  have a8 : W.cell? ⟨w.heap.size, 8, none⟩ = some (.string m.group) := cell_of HZ0.out rfl
  unfold Mg.val
  case _ =>
    rw [hc] at HC
    go_enter Try.func9, Try.ntmps9
    go_upto_region 1 with (fail)
    rw [← HW.out]
    clear HW
    go_wp2_with fail
    refine HC.out.mono ?_
    rintro e w2 ⟨rfl, hb⟩
    have hz := (hb.block _ (by rw [HS1.out]; omega)).trans HZ1.out
    have HB := Lib.hid (HB0.out.trans (hb.mono HB0.out.size))
    clear hb a0 a1 a2 a3 a4 a5 a6 a7 a8
    have c0 : w2.cell? ⟨w.heap.size + 1, 0, none⟩ = some (.string ⟨#[]⟩) := cell_of hz rfl
    have c1 : w2.cell? ⟨w.heap.size + 1, 1, none⟩ = some (.string ⟨#[]⟩) := cell_of hz rfl
    have c2 : w2.cell? ⟨w.heap.size + 1, 2, none⟩ = some (.int .i64 0) := cell_of hz rfl
    have c3 : w2.cell? ⟨w.heap.size + 1, 3, none⟩ = some (.bool false) := cell_of hz rfl
    have c4 : w2.cell? ⟨w.heap.size + 1, 4, none⟩ = some (.slice none 0 0) := cell_of hz rfl
    have c5 : w2.cell? ⟨w.heap.size + 1, 5, none⟩ = some (.string ⟨#[]⟩) := cell_of hz rfl
    have c6 : w2.cell? ⟨w.heap.size + 1, 6, none⟩ = some (.int .i64 0) := cell_of hz rfl
    have c7 : w2.cell? ⟨w.heap.size + 1, 7, none⟩ = some (.int .i64 0) := cell_of hz rfl
    have c8 : w2.cell? ⟨w.heap.size + 1, 8, none⟩ = some (.string ⟨#[]⟩) := cell_of hz rfl
    have f0 := free_of hz 0
    have f1 := free_of hz 1
    have f2 := free_of hz 2
    have f3 := free_of hz 3
    have f4 := free_of hz 4
    have f5 := free_of hz 5
    have f6 := free_of hz 6
    have f7 := free_of hz 7
    have f8 := free_of hz 8
    have hp := put9 hz (.string ⟨#[]⟩) (.string ⟨#[]⟩) (.int .i64 0) (.bool false) (.slice none 0 0) (.string ⟨#[]⟩) (.int .i64 0) (.int .i64 0) (.string ⟨#[]⟩)
    have p0 := cell_of hp (o := 0) (v := .string ⟨#[]⟩) rfl
    have p1 := cell_of hp (o := 1) (v := .string ⟨#[]⟩) rfl
    have p2 := cell_of hp (o := 2) (v := .int .i64 0) rfl
    have p3 := cell_of hp (o := 3) (v := .bool false) rfl
    have p4 := cell_of hp (o := 4) (v := .slice none 0 0) rfl
    have p5 := cell_of hp (o := 5) (v := .string ⟨#[]⟩) rfl
    have p6 := cell_of hp (o := 6) (v := .int .i64 0) rfl
    have p7 := cell_of hp (o := 7) (v := .int .i64 0) rfl
    have p8 := cell_of hp (o := 8) (v := .string ⟨#[]⟩) rfl
    have HTE := Lib.hid (put9_tch w2 (w.heap.size + 1) (.string ⟨#[]⟩) (.string ⟨#[]⟩) (.int .i64 0) (.bool false) (.slice none 0 0) (.string ⟨#[]⟩) (.int .i64 0) (.int .i64 0) (.string ⟨#[]⟩))
    have HE := Lib.hid (HPP.out (.returned (.tuple #[mg0.val, .bool false])) _ ⟨fun _ => rfl, fun h => (by rw [hc] at h; cases h), HB.out.trans (HTE.out.below HB.out.size (by intro i hi; simp at hi; omega))⟩)
    clear hz hp hc
    go_wp2_with fail
    exact bodyPost_ret (v := .tuple #[.agg #[.string ⟨#[]⟩, .string ⟨#[]⟩, .int .i64 0, .bool false, .slice none 0 0, .string ⟨#[]⟩, .int .i64 0, .int .i64 0, .string ⟨#[]⟩], .bool false]) (by simp [mg0, Mg.val, results, Try.results9, go_sem, *]) rfl HE.out
set_option maxRecDepth 100000 in
set_option maxHeartbeats 4000000 in
theorem left_stay (m : Mg) (now : Int) (w : World) (hS : Rd w m.pA (m.props.flatMap Prp.cells)) (hl : m.props.length < 100000) (hm : (Lit.int .i64 m.until_).wf = true) (hnow : (Lit.int .i64 now).wf = true) (hc : come m now = false) (hu : ¬ 0 < m.until_) :
    Calls Try.prog 9 #[m.val, .int .i64 now] w (LPost m now w) := by
  generalize hP : LPost m now w = PP
  have HPP := Lib.hid (show ∀ e w', LPost m now w e w' → PP e w' by intro e w' h; rw [← hP]; exact h)
  clear hP
  have hb0 := alloc_below w (.cells #[.string m.topic, .string m.payload, .int .i64 m.qos, .bool m.retain, .slice m.pA m.props.length m.pc, .string m.from_, .int .i64 m.until_, .int .i64 m.seq, .string m.group] 24)
  have hb1 := alloc_below (w.alloc (.cells #[.string m.topic, .string m.payload, .int .i64 m.qos, .bool m.retain, .slice m.pA m.props.length m.pc, .string m.from_, .int .i64 m.until_, .int .i64 m.seq, .string m.group] 24)) (.cells #[.string ⟨#[]⟩, .string ⟨#[]⟩, .int .i64 0, .bool false, .slice none 0 0, .string ⟨#[]⟩, .int .i64 0, .int .i64 0, .string ⟨#[]⟩] 24)
  have hz0 := heap_alloc_new w (.cells #[.string m.topic, .string m.payload, .int .i64 m.qos, .bool m.retain, .slice m.pA m.props.length m.pc, .string m.from_, .int .i64 m.until_, .int .i64 m.seq, .string m.group] 24)
  have hz1 := heap_alloc_new (w.alloc (.cells #[.string m.topic, .string m.payload, .int .i64 m.qos, .bool m.retain, .slice m.pA m.props.length m.pc, .string m.from_, .int .i64 m.until_, .int .i64 m.seq, .string m.group] 24)) (.cells #[.string ⟨#[]⟩, .string ⟨#[]⟩, .int .i64 0, .bool false, .slice none 0 0, .string ⟨#[]⟩, .int .i64 0, .int .i64 0, .string ⟨#[]⟩] 24)
  have hs0 : (w.alloc (.cells #[.string m.topic, .string m.payload, .int .i64 m.qos, .bool m.retain, .slice m.pA m.props.length m.pc, .string m.from_, .int .i64 m.until_, .int .i64 m.seq, .string m.group] 24)).heap.size = w.heap.size + 1 := by simp
  have hs1 : ((w.alloc (.cells #[.string m.topic, .string m.payload, .int .i64 m.qos, .bool m.retain, .slice m.pA m.props.length m.pc, .string m.from_, .int .i64 m.until_, .int .i64 m.seq, .string m.group] 24)).alloc (.cells #[.string ⟨#[]⟩, .string ⟨#[]⟩, .int .i64 0, .bool false, .slice none 0 0, .string ⟨#[]⟩, .int .i64 0, .int .i64 0, .string ⟨#[]⟩] 24)).heap.size = w.heap.size + 1 + 1 := by simp
  have hbW := hb0.trans (hb1.mono hb0.size)
  have hz0' := (hb1.block w.heap.size (by rw [hs0]; omega)).trans hz0
  rw [hs0] at hz1
  have hSW := hS.below hbW
  have HSW0 := Lib.hid hS
  have hC := come_any m now ((w.alloc (.cells #[.string m.topic, .string m.payload, .int .i64 m.qos, .bool m.retain, .slice m.pA m.props.length m.pc, .string m.from_, .int .i64 m.until_, .int .i64 m.seq, .string m.group] 24)).alloc (.cells #[.string ⟨#[]⟩, .string ⟨#[]⟩, .int .i64 0, .bool false, .slice none 0 0, .string ⟨#[]⟩, .int .i64 0, .int .i64 0, .string ⟨#[]⟩] 24))
  obtain ⟨W, hW⟩ : ∃ W, W = (w.alloc (.cells #[.string m.topic, .string m.payload, .int .i64 m.qos, .bool m.retain, .slice m.pA m.props.length m.pc, .string m.from_, .int .i64 m.until_, .int .i64 m.seq, .string m.group] 24)).alloc (.cells #[.string ⟨#[]⟩, .string ⟨#[]⟩, .int .i64 0, .bool false, .slice none 0 0, .string ⟨#[]⟩, .int .i64 0, .int .i64 0, .string ⟨#[]⟩] 24) := ⟨_, rfl⟩
  have HW := Lib.hid hW
  rw [← hW] at hz0' hz1 hs1 hbW hSW hC
  have HB0 := Lib.hid hbW
  have HZ0 := Lib.hid hz0'
  have HZ1 := Lib.hid hz1
  have HS1 := Lib.hid hs1
  have HSW := Lib.hid hSW
  unfold Mg.val at hC
  have HC := Lib.hid hC
  have HX := Lib.hid (show come m now = (decide (0 < m.until_) && decide (m.until_ ≤ now)) from rfl)
  clear hb0 hb1 hz0 hz1 hs0 hs1 hbW hz0' hS hSW hC hW
  obtain ⟨hm0, hm1⟩ := bounds_i64 hm
  obtain ⟨hn0, hn1⟩ := bounds_i64 hnow
  clear hm hnow
  have a0 : W.cell? ⟨w.heap.size, 0, none⟩ = some (.string m.topic) := cell_of HZ0.out rfl
  have a1 : W.cell? ⟨w.heap.size, 1, none⟩ = some (.string m.payload) := cell_of HZ0.out rfl
  have a2 : W.cell? ⟨w.heap.size, 2, none⟩ = some (.int .i64 m.qos) := cell_of HZ0.out rfl
  have a3 : W.cell? ⟨w.heap.size, 3, none⟩ = some (.bool m.retain) := cell_of HZ0.out rfl
  have a4 : W.cell? ⟨w.heap.size, 4, none⟩ = some (.slice m.pA m.props.length m.pc) := cell_of HZ0.out rfl
  have a5 : W.cell? ⟨w.heap.size, 5, none⟩ = some (.string m.from_) := cell_of HZ0.out rfl
  have a6 : W.cell? ⟨w.heap.size, 6, none⟩ = some (.int .i64 m.until_) := cell_of HZ0.out rfl
  have a7 : W.cell? ⟨w.heap.size, 7, none⟩ = some (.int .i64 m.seq) := cell_of HZ0.out rfl
  have a8 : W.cell? ⟨w.heap.size, 8, none⟩ = some (.string m.group) := cell_of HZ0.out rfl
  unfold Mg.val
  case _ =>
      rw [hc] at HC
      have HCF := Lib.hid hc
      have HU := Lib.hid hu
      have hun : come m now = false := hc
      clear hc hun
      go_enter Try.func9, Try.ntmps9
      go_upto_region 1 with (fail)
      rw [← HW.out]
      clear HW
      go_wp2_with fail
      refine HC.out.mono ?_
      rintro e w2 ⟨rfl, hb⟩
      have hz0 := (hb.block _ (by rw [HS1.out]; omega)).trans HZ0.out
      have hz1 := (hb.block _ (by rw [HS1.out]; omega)).trans HZ1.out
      have HB2 := Lib.hid (HB0.out.trans (hb.mono HB0.out.size))
      have HCL := Lib.hid (cloneP_any w2 m.pA m.pc m.props (HSW.out.below hb) (by omega))
      have H20 := Lib.hid hz0
      have H21 := Lib.hid hz1
      have H2S := Lib.hid hb.size
      clear hb a0 a1 a2 a3 a4 a5 a6 a7 a8
      have a0 : w2.cell? ⟨w.heap.size, 0, none⟩ = some (.string m.topic) := cell_of hz0 rfl
      have a1 : w2.cell? ⟨w.heap.size, 1, none⟩ = some (.string m.payload) := cell_of hz0 rfl
      have a2 : w2.cell? ⟨w.heap.size, 2, none⟩ = some (.int .i64 m.qos) := cell_of hz0 rfl
      have a3 : w2.cell? ⟨w.heap.size, 3, none⟩ = some (.bool m.retain) := cell_of hz0 rfl
      have a4 : w2.cell? ⟨w.heap.size, 4, none⟩ = some (.slice m.pA m.props.length m.pc) := cell_of hz0 rfl
      have a5 : w2.cell? ⟨w.heap.size, 5, none⟩ = some (.string m.from_) := cell_of hz0 rfl
      have a6 : w2.cell? ⟨w.heap.size, 6, none⟩ = some (.int .i64 m.until_) := cell_of hz0 rfl
      have a7 : w2.cell? ⟨w.heap.size, 7, none⟩ = some (.int .i64 m.seq) := cell_of hz0 rfl
      have a8 : w2.cell? ⟨w.heap.size, 8, none⟩ = some (.string m.group) := cell_of hz0 rfl
      clear hz0 hz1
      go_wp2_with fail
      refine HCL.out.mono ?_
      rintro e w3 ⟨⟨v, rfl, hR, hN⟩, hb⟩
      obtain ⟨A1, cA, rfl, hRd⟩ := rd_own hR
      have hz0 := (hb.block _ (by have := lt_of_block H20.out; omega)).trans H20.out
      have hz1 := (hb.block _ (by have := lt_of_block H21.out; omega)).trans H21.out
      have hb3 := HB2.out.trans (hb.mono HB2.out.size)
      have HN3 := Lib.hid (show ∀ ad, A1 = some ad → w.heap.size + 1 + 1 ≤ ad.block by
        intro ad had
        subst had
        have h1 := hN ad.block rfl
        have h2 := H2S.out
        rw [HS1.out] at h2
        omega)
      have x4 : w3.cell? ⟨w.heap.size, 4, none⟩ = some (.slice m.pA m.props.length m.pc) := cell_of hz0 rfl
      have xf := free_of hz0 4
      have hz5 : (w3.setCell ⟨w.heap.size, 4, none⟩ (.slice A1 m.props.length cA)).heap[w.heap.size]? = some (.cells #[.string m.topic, .string m.payload, .int .i64 m.qos, .bool m.retain, .slice A1 m.props.length cA, .string m.from_, .int .i64 m.until_, .int .i64 m.seq, .string m.group] 24 (0, 0)) := set_of hz0 4 _
      have hz6 : (w3.setCell ⟨w.heap.size, 4, none⟩ (.slice A1 m.props.length cA)).heap[w.heap.size + 1]? = some (.cells #[.string ⟨#[]⟩, .string ⟨#[]⟩, .int .i64 0, .bool false, .slice none 0 0, .string ⟨#[]⟩, .int .i64 0, .int .i64 0, .string ⟨#[]⟩] 24 (0, 0)) := (set_other (p := ⟨w.heap.size, 4, none⟩) (by simp) _).trans hz1
      obtain ⟨wA, hwA⟩ : ∃ wA, wA = w3.setCell ⟨w.heap.size, 4, none⟩ (.slice A1 m.props.length cA) := ⟨_, rfl⟩
      have hbA : Below w.heap.size w wA := by
        rw [hwA]
        exact (((Tch.of_below (S := []) hb3).setCell (p := ⟨w.heap.size, 4, none⟩) (.inr (Nat.le_refl _)) _).below (Nat.le_refl _) (by simp))
      have hrA : Rd wA A1 (m.props.flatMap Prp.cells) := by
        rw [hwA]
        refine hRd.block ?_
        intro ad hA _ _
        have h1 := HN3.out ad hA
        exact set_other (p := ⟨w.heap.size, 4, none⟩) (by simp; omega) _
      rw [← hwA] at hz5 hz6
      have HA0 := Lib.hid hz5
      have HA1 := Lib.hid hz6
      have HBA := Lib.hid hbA
      have HRA := Lib.hid hrA
      have HWA := Lib.hid hwA.symm
      clear hb hz0 hz1 hb3 hR hN hRd hz5 hz6 hbA hrA hwA a0 a1 a2 a3 a4 a5 a6 a7 a8
      have r0 : wA.cell? ⟨w.heap.size, 0, none⟩ = some (.string m.topic) := cell_of HA0.out rfl
      have r1 : wA.cell? ⟨w.heap.size, 1, none⟩ = some (.string m.payload) := cell_of HA0.out rfl
      have r2 : wA.cell? ⟨w.heap.size, 2, none⟩ = some (.int .i64 m.qos) := cell_of HA0.out rfl
      have r3 : wA.cell? ⟨w.heap.size, 3, none⟩ = some (.bool m.retain) := cell_of HA0.out rfl
      have r4 : wA.cell? ⟨w.heap.size, 4, none⟩ = some (.slice A1 m.props.length cA) := cell_of HA0.out rfl
      have r5 : wA.cell? ⟨w.heap.size, 5, none⟩ = some (.string m.from_) := cell_of HA0.out rfl
      have r6 : wA.cell? ⟨w.heap.size, 6, none⟩ = some (.int .i64 m.until_) := cell_of HA0.out rfl
      have r7 : wA.cell? ⟨w.heap.size, 7, none⟩ = some (.int .i64 m.seq) := cell_of HA0.out rfl
      have r8 : wA.cell? ⟨w.heap.size, 8, none⟩ = some (.string m.group) := cell_of HA0.out rfl
      have c0 : wA.cell? ⟨w.heap.size + 1, 0, none⟩ = some (.string ⟨#[]⟩) := cell_of HA1.out rfl
      have c1 : wA.cell? ⟨w.heap.size + 1, 1, none⟩ = some (.string ⟨#[]⟩) := cell_of HA1.out rfl
      have c2 : wA.cell? ⟨w.heap.size + 1, 2, none⟩ = some (.int .i64 0) := cell_of HA1.out rfl
      have c3 : wA.cell? ⟨w.heap.size + 1, 3, none⟩ = some (.bool false) := cell_of HA1.out rfl
      have c4 : wA.cell? ⟨w.heap.size + 1, 4, none⟩ = some (.slice none 0 0) := cell_of HA1.out rfl
      have c5 : wA.cell? ⟨w.heap.size + 1, 5, none⟩ = some (.string ⟨#[]⟩) := cell_of HA1.out rfl
      have c6 : wA.cell? ⟨w.heap.size + 1, 6, none⟩ = some (.int .i64 0) := cell_of HA1.out rfl
      have c7 : wA.cell? ⟨w.heap.size + 1, 7, none⟩ = some (.int .i64 0) := cell_of HA1.out rfl
      have c8 : wA.cell? ⟨w.heap.size + 1, 8, none⟩ = some (.string ⟨#[]⟩) := cell_of HA1.out rfl
      have f0 := free_of HA1.out 0
      have f1 := free_of HA1.out 1
      have f2 := free_of HA1.out 2
      have f3 := free_of HA1.out 3
      have f4 := free_of HA1.out 4
      have f5 := free_of HA1.out 5
      have f6 := free_of HA1.out 6
      have f7 := free_of HA1.out 7
      have f8 := free_of HA1.out 8
      have hp := put9 HA1.out (.string m.topic) (.string m.payload) (.int .i64 m.qos) (.bool m.retain) (.slice A1 m.props.length cA) (.string m.from_) (.int .i64 m.until_) (.int .i64 m.seq) (.string m.group)
      have p0 := cell_of hp (o := 0) (v := .string m.topic) rfl
      have p1 := cell_of hp (o := 1) (v := .string m.payload) rfl
      have p2 := cell_of hp (o := 2) (v := .int .i64 m.qos) rfl
      have p3 := cell_of hp (o := 3) (v := .bool m.retain) rfl
      have p4 := cell_of hp (o := 4) (v := .slice A1 m.props.length cA) rfl
      have p5 := cell_of hp (o := 5) (v := .string m.from_) rfl
      have p6 := cell_of hp (o := 6) (v := .int .i64 m.until_) rfl
      have p7 := cell_of hp (o := 7) (v := .int .i64 m.seq) rfl
      have p8 := cell_of hp (o := 8) (v := .string m.group) rfl
      have HTE := Lib.hid (put9_tch wA (w.heap.size + 1) (.string m.topic) (.string m.payload) (.int .i64 m.qos) (.bool m.retain) (.slice A1 m.props.length cA) (.string m.from_) (.int .i64 m.until_) (.int .i64 m.seq) (.string m.group))
      have key : ∀ w6, Tch [w.heap.size + 1] wA w6 → PP (.returned (.tuple #[.agg #[.string m.topic, .string m.payload, .int .i64 m.qos, .bool m.retain, .slice A1 m.props.length cA, .string m.from_, .int .i64 m.until_, .int .i64 m.seq, .string m.group], .bool true])) w6 := by
        intro w6 ht6
        refine HPP.out _ _ ⟨fun h => (by rw [HCF.out] at h; cases h), fun _ => ⟨{ m with pA := A1, pc := cA }, rfl, ⟨rfl, rfl, rfl, rfl, ?_, rfl, rfl, rfl, rfl⟩, HRA.out.block ?_⟩, HBA.out.trans (ht6.below HBA.out.size (by intro i hi; simp at hi; omega))⟩
        · unfold leftP
          rw [if_neg (by have := HU.out; omega)]
        · intro ad hA hlen hlt
          refine ht6.block _ hlt ?_
          have h1 := HN3.out ad hA
          simp
          omega
      have HE := Lib.hid (key _ HTE.out)
      clear key hp
      have HWA' := HWA.out
      have hk : decide (0 < m.until_) = false := decide_eq_false (by have := HU.out; omega)
      go_wp2_with fail
      exact bodyPost_ret (v := .tuple #[.agg #[.string m.topic, .string m.payload, .int .i64 m.qos, .bool m.retain, .slice A1 m.props.length cA, .string m.from_, .int .i64 m.until_, .int .i64 m.seq, .string m.group], .bool true]) (by simp [results, Try.results9, go_sem, *]) rfl HE.out
set_option maxRecDepth 100000 in
set_option maxHeartbeats 4000000 in
theorem left_1 (m : Mg) (now : Int) (w : World) (hS : Rd w m.pA (m.props.flatMap Prp.cells)) (hl : m.props.length < 100000) (hm : (Lit.int .i64 m.until_).wf = true) (hnow : (Lit.int .i64 now).wf = true) (hc : come m now = false) (hu : 0 < m.until_) (hn : now < 0) (hd : 4294967295 < m.until_) :
    Calls Try.prog 9 #[m.val, .int .i64 now] w (LPost m now w) := by
  generalize hP : LPost m now w = PP
  have HPP := Lib.hid (show ∀ e w', LPost m now w e w' → PP e w' by intro e w' h; rw [← hP]; exact h)
  clear hP
  have hb0 := alloc_below w (.cells #[.string m.topic, .string m.payload, .int .i64 m.qos, .bool m.retain, .slice m.pA m.props.length m.pc, .string m.from_, .int .i64 m.until_, .int .i64 m.seq, .string m.group] 24)
  have hb1 := alloc_below (w.alloc (.cells #[.string m.topic, .string m.payload, .int .i64 m.qos, .bool m.retain, .slice m.pA m.props.length m.pc, .string m.from_, .int .i64 m.until_, .int .i64 m.seq, .string m.group] 24)) (.cells #[.string ⟨#[]⟩, .string ⟨#[]⟩, .int .i64 0, .bool false, .slice none 0 0, .string ⟨#[]⟩, .int .i64 0, .int .i64 0, .string ⟨#[]⟩] 24)
  have hz0 := heap_alloc_new w (.cells #[.string m.topic, .string m.payload, .int .i64 m.qos, .bool m.retain, .slice m.pA m.props.length m.pc, .string m.from_, .int .i64 m.until_, .int .i64 m.seq, .string m.group] 24)
  have hz1 := heap_alloc_new (w.alloc (.cells #[.string m.topic, .string m.payload, .int .i64 m.qos, .bool m.retain, .slice m.pA m.props.length m.pc, .string m.from_, .int .i64 m.until_, .int .i64 m.seq, .string m.group] 24)) (.cells #[.string ⟨#[]⟩, .string ⟨#[]⟩, .int .i64 0, .bool false, .slice none 0 0, .string ⟨#[]⟩, .int .i64 0, .int .i64 0, .string ⟨#[]⟩] 24)
  have hs0 : (w.alloc (.cells #[.string m.topic, .string m.payload, .int .i64 m.qos, .bool m.retain, .slice m.pA m.props.length m.pc, .string m.from_, .int .i64 m.until_, .int .i64 m.seq, .string m.group] 24)).heap.size = w.heap.size + 1 := by simp
  have hs1 : ((w.alloc (.cells #[.string m.topic, .string m.payload, .int .i64 m.qos, .bool m.retain, .slice m.pA m.props.length m.pc, .string m.from_, .int .i64 m.until_, .int .i64 m.seq, .string m.group] 24)).alloc (.cells #[.string ⟨#[]⟩, .string ⟨#[]⟩, .int .i64 0, .bool false, .slice none 0 0, .string ⟨#[]⟩, .int .i64 0, .int .i64 0, .string ⟨#[]⟩] 24)).heap.size = w.heap.size + 1 + 1 := by simp
  have hbW := hb0.trans (hb1.mono hb0.size)
  have hz0' := (hb1.block w.heap.size (by rw [hs0]; omega)).trans hz0
  rw [hs0] at hz1
  have hSW := hS.below hbW
  have HSW0 := Lib.hid hS
  have hC := come_any m now ((w.alloc (.cells #[.string m.topic, .string m.payload, .int .i64 m.qos, .bool m.retain, .slice m.pA m.props.length m.pc, .string m.from_, .int .i64 m.until_, .int .i64 m.seq, .string m.group] 24)).alloc (.cells #[.string ⟨#[]⟩, .string ⟨#[]⟩, .int .i64 0, .bool false, .slice none 0 0, .string ⟨#[]⟩, .int .i64 0, .int .i64 0, .string ⟨#[]⟩] 24))
  obtain ⟨W, hW⟩ : ∃ W, W = (w.alloc (.cells #[.string m.topic, .string m.payload, .int .i64 m.qos, .bool m.retain, .slice m.pA m.props.length m.pc, .string m.from_, .int .i64 m.until_, .int .i64 m.seq, .string m.group] 24)).alloc (.cells #[.string ⟨#[]⟩, .string ⟨#[]⟩, .int .i64 0, .bool false, .slice none 0 0, .string ⟨#[]⟩, .int .i64 0, .int .i64 0, .string ⟨#[]⟩] 24) := ⟨_, rfl⟩
  have HW := Lib.hid hW
  rw [← hW] at hz0' hz1 hs1 hbW hSW hC
  have HB0 := Lib.hid hbW
  have HZ0 := Lib.hid hz0'
  have HZ1 := Lib.hid hz1
  have HS1 := Lib.hid hs1
  have HSW := Lib.hid hSW
  unfold Mg.val at hC
  have HC := Lib.hid hC
  have HX := Lib.hid (show come m now = (decide (0 < m.until_) && decide (m.until_ ≤ now)) from rfl)
  clear hb0 hb1 hz0 hz1 hs0 hs1 hbW hz0' hS hSW hC hW
  obtain ⟨hm0, hm1⟩ := bounds_i64 hm
  obtain ⟨hn0, hn1⟩ := bounds_i64 hnow
  clear hm hnow
  have a0 : W.cell? ⟨w.heap.size, 0, none⟩ = some (.string m.topic) := cell_of HZ0.out rfl
  have a1 : W.cell? ⟨w.heap.size, 1, none⟩ = some (.string m.payload) := cell_of HZ0.out rfl
  have a2 : W.cell? ⟨w.heap.size, 2, none⟩ = some (.int .i64 m.qos) := cell_of HZ0.out rfl
  have a3 : W.cell? ⟨w.heap.size, 3, none⟩ = some (.bool m.retain) := cell_of HZ0.out rfl
  have a4 : W.cell? ⟨w.heap.size, 4, none⟩ = some (.slice m.pA m.props.length m.pc) := cell_of HZ0.out rfl
  have a5 : W.cell? ⟨w.heap.size, 5, none⟩ = some (.string m.from_) := cell_of HZ0.out rfl
  have a6 : W.cell? ⟨w.heap.size, 6, none⟩ = some (.int .i64 m.until_) := cell_of HZ0.out rfl
  have a7 : W.cell? ⟨w.heap.size, 7, none⟩ = some (.int .i64 m.seq) := cell_of HZ0.out rfl
  have a8 : W.cell? ⟨w.heap.size, 8, none⟩ = some (.string m.group) := cell_of HZ0.out rfl
  unfold Mg.val
  have hto : told m now = 4294967295 := by unfold told; omega
  have HTO := Lib.hid hto
  clear hto
  have hun : ¬ m.until_ ≤ now := by
    intro h
    rw [HX.out, decide_eq_true hu, decide_eq_true h] at hc
    cases hc
  case _ =>
      rw [hc] at HC
      have HCF := Lib.hid hc
      have HU := Lib.hid hu
      have hun : come m now = false := hc
      clear hc hun
      go_enter Try.func9, Try.ntmps9
      go_upto_region 1 with (fail)
      rw [← HW.out]
      clear HW
      go_wp2_with fail
      refine HC.out.mono ?_
      rintro e w2 ⟨rfl, hb⟩
      have hz0 := (hb.block _ (by rw [HS1.out]; omega)).trans HZ0.out
      have hz1 := (hb.block _ (by rw [HS1.out]; omega)).trans HZ1.out
      have HB2 := Lib.hid (HB0.out.trans (hb.mono HB0.out.size))
      have HCL := Lib.hid (cloneP_any w2 m.pA m.pc m.props (HSW.out.below hb) (by omega))
      have H20 := Lib.hid hz0
      have H21 := Lib.hid hz1
      have H2S := Lib.hid hb.size
      clear hb a0 a1 a2 a3 a4 a5 a6 a7 a8
      have a0 : w2.cell? ⟨w.heap.size, 0, none⟩ = some (.string m.topic) := cell_of hz0 rfl
      have a1 : w2.cell? ⟨w.heap.size, 1, none⟩ = some (.string m.payload) := cell_of hz0 rfl
      have a2 : w2.cell? ⟨w.heap.size, 2, none⟩ = some (.int .i64 m.qos) := cell_of hz0 rfl
      have a3 : w2.cell? ⟨w.heap.size, 3, none⟩ = some (.bool m.retain) := cell_of hz0 rfl
      have a4 : w2.cell? ⟨w.heap.size, 4, none⟩ = some (.slice m.pA m.props.length m.pc) := cell_of hz0 rfl
      have a5 : w2.cell? ⟨w.heap.size, 5, none⟩ = some (.string m.from_) := cell_of hz0 rfl
      have a6 : w2.cell? ⟨w.heap.size, 6, none⟩ = some (.int .i64 m.until_) := cell_of hz0 rfl
      have a7 : w2.cell? ⟨w.heap.size, 7, none⟩ = some (.int .i64 m.seq) := cell_of hz0 rfl
      have a8 : w2.cell? ⟨w.heap.size, 8, none⟩ = some (.string m.group) := cell_of hz0 rfl
      clear hz0 hz1
      go_wp2_with fail
      refine HCL.out.mono ?_
      rintro e w3 ⟨⟨v, rfl, hR, hN⟩, hb⟩
      obtain ⟨A1, cA, rfl, hRd⟩ := rd_own hR
      have hz0 := (hb.block _ (by have := lt_of_block H20.out; omega)).trans H20.out
      have hz1 := (hb.block _ (by have := lt_of_block H21.out; omega)).trans H21.out
      have hb3 := HB2.out.trans (hb.mono HB2.out.size)
      have HN3 := Lib.hid (show ∀ ad, A1 = some ad → w.heap.size + 1 + 1 ≤ ad.block by
        intro ad had
        subst had
        have h1 := hN ad.block rfl
        have h2 := H2S.out
        rw [HS1.out] at h2
        omega)
      have x4 : w3.cell? ⟨w.heap.size, 4, none⟩ = some (.slice m.pA m.props.length m.pc) := cell_of hz0 rfl
      have xf := free_of hz0 4
      have hz5 : (w3.setCell ⟨w.heap.size, 4, none⟩ (.slice A1 m.props.length cA)).heap[w.heap.size]? = some (.cells #[.string m.topic, .string m.payload, .int .i64 m.qos, .bool m.retain, .slice A1 m.props.length cA, .string m.from_, .int .i64 m.until_, .int .i64 m.seq, .string m.group] 24 (0, 0)) := set_of hz0 4 _
      have hz6 : (w3.setCell ⟨w.heap.size, 4, none⟩ (.slice A1 m.props.length cA)).heap[w.heap.size + 1]? = some (.cells #[.string ⟨#[]⟩, .string ⟨#[]⟩, .int .i64 0, .bool false, .slice none 0 0, .string ⟨#[]⟩, .int .i64 0, .int .i64 0, .string ⟨#[]⟩] 24 (0, 0)) := (set_other (p := ⟨w.heap.size, 4, none⟩) (by simp) _).trans hz1
      obtain ⟨wA, hwA⟩ : ∃ wA, wA = w3.setCell ⟨w.heap.size, 4, none⟩ (.slice A1 m.props.length cA) := ⟨_, rfl⟩
      have hbA : Below w.heap.size w wA := by
        rw [hwA]
        exact (((Tch.of_below (S := []) hb3).setCell (p := ⟨w.heap.size, 4, none⟩) (.inr (Nat.le_refl _)) _).below (Nat.le_refl _) (by simp))
      have hrA : Rd wA A1 (m.props.flatMap Prp.cells) := by
        rw [hwA]
        refine hRd.block ?_
        intro ad hA _ _
        have h1 := HN3.out ad hA
        exact set_other (p := ⟨w.heap.size, 4, none⟩) (by simp; omega) _
      rw [← hwA] at hz5 hz6
      have HA0 := Lib.hid hz5
      have HA1 := Lib.hid hz6
      have HBA := Lib.hid hbA
      have HRA := Lib.hid hrA
      have HWA := Lib.hid hwA.symm
      clear hb hz0 hz1 hb3 hR hN hRd hz5 hz6 hbA hrA hwA a0 a1 a2 a3 a4 a5 a6 a7 a8
      have HWO := Lib.hid (fun W (hb : Below wA.heap.size wA W) => without_any W A1 cA m.props (HRA.out.below hb) (by omega) 2)
      have HWA' := HWA.out
      have z6 : wA.cell? ⟨w.heap.size, 6, none⟩ = some (.int .i64 m.until_) := cell_of HA0.out rfl
      go_upto_region 5 with (fail)
      clear HWA' HWA x4 xf z6
      have r4 := fun n : Wd (Gr wA) => n.cell (cell_of HA0.out (o := 4) (v := .slice A1 m.props.length cA) rfl)
      have r6 := fun n : Wd (Gr wA) => n.cell (cell_of HA0.out (o := 6) (v := .int .i64 m.until_) rfl)
      refine wp_region_G (n := 14) (Gr wA) rfl (by kernel_rfl) (gr_drew wA) (fun hS => ?_)
      refine wpAnyG_seg (fuel := 5) [0, 1, 3, 4, 5, 6, 7, 8, 9] rfl rfl (by kernel_rfl) (fun _ _ d _ _ h => by cases d <;> exact h) hS ?_
      repeat (go_big_quiet_step (fail))
      refine wpQuiet_nil ?_
      clear r4 r6
      refine wpAnyG_two (fuel := 4) 2 10 (by kernel_rfl) rfl rfl (fun K hK => ?_) (fun K hK => ?_)
      case _ =>
        go_simp
        refine (HWO.out _ hS).mono ?_
        rintro e w4 ⟨⟨v, rfl, hR, hN⟩, hb⟩
        have hs4 := hS.trans (hb.mono hS.size)
        have HS4 := Lib.hid hs4
        have h40 := (hs4.block _ (lt_of_block HA0.out)).trans HA0.out
        have h41 := (hs4.block _ (lt_of_block HA1.out)).trans HA1.out
        have hba := alloc_below w4 (.cells #[.int .i64 2, .int .i64 (4294967295), .string ⟨#[]⟩, .string ⟨#[]⟩] 56)
        have HP0 := Lib.hid ((hba.block _ (lt_of_block h40)).trans h40)
        have HP1 := Lib.hid ((hba.block _ (lt_of_block h41)).trans h41)
        have HBLK := Lib.hid (heap_alloc_new w4 (.cells #[.int .i64 2, .int .i64 (4294967295), .string ⟨#[]⟩, .string ⟨#[]⟩] 56))
        have HSP := Lib.hid (hs4.trans (hba.mono hs4.size))
        have HO := Lib.hid (hR.alloc (.cells #[.int .i64 2, .int .i64 (4294967295), .string ⟨#[]⟩, .string ⟨#[]⟩] 56))
        have HNV := Lib.hid (show ∀ g, v.ownBlock = some g → wA.heap.size ≤ g by
          intro g hg
          have h1 := hN g hg
          have h2 := hS.size
          omega)
        clear hs4 h40 h41 hba hR hN hb
        go_wp2_with fail
        refine hK.out (Gr wA) _ _ (fun _ h => h) HS4.out (fun hS => ?_)
        clear hK K
        refine wpAnyG_alone (fuel := 3) 10 (by kernel_rfl) rfl hS (fun K hK => ?_)
        go_simp
        refine hK.out (Gr wA) _ _ (fun _ h => h) HSP.out (fun hS => ?_)
        clear hK K
        refine wpAnyG_alone (fuel := 2) 11 (by kernel_rfl) rfl hS (fun K hK => ?_)
        
        obtain ⟨i0, hi, y0, y1, y2⟩ := info_parts info56
        have hwl := wo_le m.props 2
        obtain ⟨v', wQ, hr, ho, ht, hloc⟩ := append_list (P := Try.prog) (ty := 22) Try.underlying22 hi y0 y1 y2 rfl (by decide) HO.out (some ⟨w4.heap.size, 0, none⟩) 1 1 (Prp.cells ⟨2, 4294967295, ⟨#[]⟩, ⟨#[]⟩⟩) rfl (fun _ => ⟨_, rfl, fun j u hu => by
          rw [add_plain, Nat.zero_add]
          exact cell_of HBLK.out (by simpa [Prp.cells] using hu)⟩) (by simpa using prp_one [⟨2, 4294967295, ⟨#[]⟩, ⟨#[]⟩⟩]) (by unfold maxLen; omega) (by omega)
        obtain ⟨A', c', rfl, hRd⟩ := rd_own ho
        have hq0 := (ht.block _ (lt_of_block HP0.out) (by intro h; have := HNV.out _ (by simpa using h); have := lt_of_block HA0.out; omega)).trans HP0.out
        have hq1 := (ht.block _ (lt_of_block HP1.out) (by intro h; have := HNV.out _ (by simpa using h); have := lt_of_block HA1.out; omega)).trans HP1.out
        have HQ0 := Lib.hid hq0
        have HQ1 := Lib.hid hq1
        have HRUN := Lib.hid hr
        have hS1 := HSP.out.trans (ht.below HSP.out.size (by intro i hi; exact HNV.out i (by simpa using hi)))
        have HSQ := Lib.hid hS1
        have HBQ := Lib.hid (HBA.out.trans (hS1.mono HBA.out.size))
        have HNQ := Lib.hid (show ∀ ad, A' = some ad → w.heap.size + 1 + 1 ≤ ad.block by
          intro ad had
          subst had
          have h9 := lt_of_block HA1.out
          rcases hloc ad.block rfl with h | h
          · have := HNV.out _ h
            omega
          · have := HSP.out.size
            omega)
        have HRQ := Lib.hid (show Rd wQ A' ((wo m.props 2).flatMap Prp.cells ++ [(⟨2, told m now, ⟨#[]⟩, ⟨#[]⟩⟩ : Prp)].flatMap Prp.cells) by rw [HTO.out]; simpa using hRd)
        clear hi y0 y1 y2 hr ho ht hloc hRd hq0 hq1 hS1
        
        refine step_append_eq (by rfl) _ _ _ (by rfl) (by rfl) (by rfl) HRUN.out ?_
        go_simp
        refine hK.out (Gr wA) _ _ (fun _ h => h) HSQ.out (fun hS => ?_)
        clear hK K
        refine wpAnyG_seg (fuel := 1) [12] rfl rfl (by kernel_rfl) (fun _ _ d _ _ h => by cases d <;> exact h) hS ?_
        repeat (go_big_quiet_step (fail))
        refine wpQuiet_nil ?_
        refine wpAnyG_sealed (fuel := 0) 13 (by kernel_rfl) (by kernel_rfl) rfl (fun K hK => ?_)
        have x4 : wQ.cell? ⟨w.heap.size, 4, none⟩ = some (.slice A1 m.props.length cA) := cell_of HQ0.out rfl
        have xf := free_of HQ0.out 4
        have hz5 : (wQ.setCell ⟨w.heap.size, 4, none⟩ (.slice A' ((wo m.props 2).length + 1) c')).heap[w.heap.size]? = some (.cells #[.string m.topic, .string m.payload, .int .i64 m.qos, .bool m.retain, .slice A' ((wo m.props 2).length + 1) c', .string m.from_, .int .i64 m.until_, .int .i64 m.seq, .string m.group] 24 (0, 0)) := set_of HQ0.out 4 _
        have hz6 : (wQ.setCell ⟨w.heap.size, 4, none⟩ (.slice A' ((wo m.props 2).length + 1) c')).heap[w.heap.size + 1]? = some (.cells #[.string ⟨#[]⟩, .string ⟨#[]⟩, .int .i64 0, .bool false, .slice none 0 0, .string ⟨#[]⟩, .int .i64 0, .int .i64 0, .string ⟨#[]⟩] 24 (0, 0)) := (set_other (p := ⟨w.heap.size, 4, none⟩) (by simp) _).trans HQ1.out
        obtain ⟨w5, hw5⟩ : ∃ w5, w5 = wQ.setCell ⟨w.heap.size, 4, none⟩ (.slice A' ((wo m.props 2).length + 1) c') := ⟨_, rfl⟩
        have hb5 : Below w.heap.size w w5 := by
          rw [hw5]
          exact (((Tch.of_below (S := []) HBQ.out).setCell (p := ⟨w.heap.size, 4, none⟩) (.inr (Nat.le_refl _)) _).below (Nat.le_refl _) (by simp))
        have hr5 : Rd w5 A' ((wo m.props 2 ++ [(⟨2, told m now, ⟨#[]⟩, ⟨#[]⟩⟩ : Prp)]).flatMap Prp.cells) := by
          rw [List.flatMap_append, hw5]
          refine HRQ.out.block ?_
          intro ad hA _ _
          have h1 := HNQ.out ad hA
          exact set_other (p := ⟨w.heap.size, 4, none⟩) (by simp; omega) _
        rw [← hw5] at hz5 hz6
        have H50 := Lib.hid hz5
        have H51 := Lib.hid hz6
        have HB5 := Lib.hid hb5
        have HR5 := Lib.hid hr5
        have HW5 := Lib.hid hw5.symm
        clear hw5 hz5 hz6 hb5 hr5
        go_simp
        refine hK.out (fun _ => True) _ _ trivial (fun hS => ?_)
        clear hK K hS x4 xf
        refine wpAnyG_end (by kernel_rfl) ?_
        rw [HW5.out]
        have r0 : w5.cell? ⟨w.heap.size, 0, none⟩ = some (.string m.topic) := cell_of H50.out rfl
        have r1 : w5.cell? ⟨w.heap.size, 1, none⟩ = some (.string m.payload) := cell_of H50.out rfl
        have r2 : w5.cell? ⟨w.heap.size, 2, none⟩ = some (.int .i64 m.qos) := cell_of H50.out rfl
        have r3 : w5.cell? ⟨w.heap.size, 3, none⟩ = some (.bool m.retain) := cell_of H50.out rfl
        have r4 : w5.cell? ⟨w.heap.size, 4, none⟩ = some (.slice A' ((wo m.props 2).length + 1) c') := cell_of H50.out rfl
        have r5 : w5.cell? ⟨w.heap.size, 5, none⟩ = some (.string m.from_) := cell_of H50.out rfl
        have r6 : w5.cell? ⟨w.heap.size, 6, none⟩ = some (.int .i64 m.until_) := cell_of H50.out rfl
        have r7 : w5.cell? ⟨w.heap.size, 7, none⟩ = some (.int .i64 m.seq) := cell_of H50.out rfl
        have r8 : w5.cell? ⟨w.heap.size, 8, none⟩ = some (.string m.group) := cell_of H50.out rfl
        have c0 : w5.cell? ⟨w.heap.size + 1, 0, none⟩ = some (.string ⟨#[]⟩) := cell_of H51.out rfl
        have c1 : w5.cell? ⟨w.heap.size + 1, 1, none⟩ = some (.string ⟨#[]⟩) := cell_of H51.out rfl
        have c2 : w5.cell? ⟨w.heap.size + 1, 2, none⟩ = some (.int .i64 0) := cell_of H51.out rfl
        have c3 : w5.cell? ⟨w.heap.size + 1, 3, none⟩ = some (.bool false) := cell_of H51.out rfl
        have c4 : w5.cell? ⟨w.heap.size + 1, 4, none⟩ = some (.slice none 0 0) := cell_of H51.out rfl
        have c5 : w5.cell? ⟨w.heap.size + 1, 5, none⟩ = some (.string ⟨#[]⟩) := cell_of H51.out rfl
        have c6 : w5.cell? ⟨w.heap.size + 1, 6, none⟩ = some (.int .i64 0) := cell_of H51.out rfl
        have c7 : w5.cell? ⟨w.heap.size + 1, 7, none⟩ = some (.int .i64 0) := cell_of H51.out rfl
        have c8 : w5.cell? ⟨w.heap.size + 1, 8, none⟩ = some (.string ⟨#[]⟩) := cell_of H51.out rfl
        have f0 := free_of H51.out 0
        have f1 := free_of H51.out 1
        have f2 := free_of H51.out 2
        have f3 := free_of H51.out 3
        have f4 := free_of H51.out 4
        have f5 := free_of H51.out 5
        have f6 := free_of H51.out 6
        have f7 := free_of H51.out 7
        have f8 := free_of H51.out 8
        have hp := put9 H51.out (.string m.topic) (.string m.payload) (.int .i64 m.qos) (.bool m.retain) (.slice A' ((wo m.props 2).length + 1) c') (.string m.from_) (.int .i64 m.until_) (.int .i64 m.seq) (.string m.group)
        have p0 := cell_of hp (o := 0) (v := .string m.topic) rfl
        have p1 := cell_of hp (o := 1) (v := .string m.payload) rfl
        have p2 := cell_of hp (o := 2) (v := .int .i64 m.qos) rfl
        have p3 := cell_of hp (o := 3) (v := .bool m.retain) rfl
        have p4 := cell_of hp (o := 4) (v := .slice A' ((wo m.props 2).length + 1) c') rfl
        have p5 := cell_of hp (o := 5) (v := .string m.from_) rfl
        have p6 := cell_of hp (o := 6) (v := .int .i64 m.until_) rfl
        have p7 := cell_of hp (o := 7) (v := .int .i64 m.seq) rfl
        have p8 := cell_of hp (o := 8) (v := .string m.group) rfl
        have HTE := Lib.hid (put9_tch w5 (w.heap.size + 1) (.string m.topic) (.string m.payload) (.int .i64 m.qos) (.bool m.retain) (.slice A' ((wo m.props 2).length + 1) c') (.string m.from_) (.int .i64 m.until_) (.int .i64 m.seq) (.string m.group))
        have key : ∀ w6, Tch [w.heap.size + 1] w5 w6 → PP (.returned (.tuple #[.agg #[.string m.topic, .string m.payload, .int .i64 m.qos, .bool m.retain, .slice A' ((wo m.props 2).length + 1) c', .string m.from_, .int .i64 m.until_, .int .i64 m.seq, .string m.group], .bool true])) w6 := by
          intro w6 ht6
          refine HPP.out _ _ ⟨fun h => (by rw [HCF.out] at h; cases h), fun _ => ⟨{ m with pA := A', pc := c', props := wo m.props 2 ++ [⟨2, told m now, ⟨#[]⟩, ⟨#[]⟩⟩] }, ?_, ⟨rfl, rfl, rfl, rfl, ?_, rfl, rfl, rfl, rfl⟩, HR5.out.block ?_⟩, HB5.out.trans (ht6.below HB5.out.size (by intro i hi; simp at hi; omega))⟩
          · unfold Mg.val
            rw [List.length_append]
            rfl
          · unfold leftP
            rw [if_pos HU.out]
          · intro ad hA _ hlt
            refine ht6.block _ hlt ?_
            have h1 := HNQ.out ad hA
            simp
            omega
        have HE := Lib.hid (key _ HTE.out)
        clear key hp
        go_wp2_with fail
        exact bodyPost_ret (v := .tuple #[.agg #[.string m.topic, .string m.payload, .int .i64 m.qos, .bool m.retain, .slice A' ((wo m.props 2).length + 1) c', .string m.from_, .int .i64 m.until_, .int .i64 m.seq, .string m.group], .bool true]) (by simp [results, Try.results9, go_sem, *]) rfl HE.out
      case _ =>
        go_simp
        have hd0 : Below wA.heap.size wA (wA.alloc (.cells #[.int .i64 2, .int .i64 (4294967295), .string ⟨#[]⟩, .string ⟨#[]⟩] 56)).drew := (alloc_below wA (.cells #[.int .i64 2, .int .i64 (4294967295), .string ⟨#[]⟩, .string ⟨#[]⟩] 56)).trans (below_drewN (Below.refl _ _) 1)
        refine hK.out (Gr wA) _ _ (fun _ h => h) hd0 (fun hS => ?_)
        clear hK K hd0
        refine wpAnyG_alone (fuel := 3) 2 (by kernel_rfl) rfl hS (fun K hK => ?_)
        go_simp
        refine (HWO.out _ hS).mono ?_
        rintro e w4 ⟨⟨v, rfl, hR, hN⟩, hb⟩
        have hs4 := hS.trans (hb.mono hS.size)
        have HSP := Lib.hid hs4
        have HP0 := Lib.hid ((hs4.block _ (lt_of_block HA0.out)).trans HA0.out)
        have HP1 := Lib.hid ((hs4.block _ (lt_of_block HA1.out)).trans HA1.out)
        have HBLK := Lib.hid (show w4.heap[wA.heap.size]? = some (.cells #[.int .i64 2, .int .i64 (4294967295), .string ⟨#[]⟩, .string ⟨#[]⟩] 56) from (hb.block wA.heap.size (by simp)).trans (heap_alloc_new wA (.cells #[.int .i64 2, .int .i64 (4294967295), .string ⟨#[]⟩, .string ⟨#[]⟩] 56)))
        have HO := Lib.hid hR
        have HNV := Lib.hid (show ∀ g, v.ownBlock = some g → wA.heap.size ≤ g by
          intro g hg
          have h1 := hN g hg
          have h2 := hS.size
          omega)
        clear hs4 hR hN hb
        go_wp2_with fail
        refine hK.out (Gr wA) _ _ (fun _ h => h) HSP.out (fun hS => ?_)
        clear hK K
        refine wpAnyG_alone (fuel := 2) 11 (by kernel_rfl) rfl hS (fun K hK => ?_)
        
        obtain ⟨i0, hi, y0, y1, y2⟩ := info_parts info56
        have hwl := wo_le m.props 2
        obtain ⟨v', wQ, hr, ho, ht, hloc⟩ := append_list (P := Try.prog) (ty := 22) Try.underlying22 hi y0 y1 y2 rfl (by decide) HO.out (some ⟨wA.heap.size, 0, none⟩) 1 1 (Prp.cells ⟨2, 4294967295, ⟨#[]⟩, ⟨#[]⟩⟩) rfl (fun _ => ⟨_, rfl, fun j u hu => by
          rw [add_plain, Nat.zero_add]
          exact cell_of HBLK.out (by simpa [Prp.cells] using hu)⟩) (by simpa using prp_one [⟨2, 4294967295, ⟨#[]⟩, ⟨#[]⟩⟩]) (by unfold maxLen; omega) (by omega)
        obtain ⟨A', c', rfl, hRd⟩ := rd_own ho
        have hq0 := (ht.block _ (lt_of_block HP0.out) (by intro h; have := HNV.out _ (by simpa using h); have := lt_of_block HA0.out; omega)).trans HP0.out
        have hq1 := (ht.block _ (lt_of_block HP1.out) (by intro h; have := HNV.out _ (by simpa using h); have := lt_of_block HA1.out; omega)).trans HP1.out
        have HQ0 := Lib.hid hq0
        have HQ1 := Lib.hid hq1
        have HRUN := Lib.hid hr
        have hS1 := HSP.out.trans (ht.below HSP.out.size (by intro i hi; exact HNV.out i (by simpa using hi)))
        have HSQ := Lib.hid hS1
        have HBQ := Lib.hid (HBA.out.trans (hS1.mono HBA.out.size))
        have HNQ := Lib.hid (show ∀ ad, A' = some ad → w.heap.size + 1 + 1 ≤ ad.block by
          intro ad had
          subst had
          have h9 := lt_of_block HA1.out
          rcases hloc ad.block rfl with h | h
          · have := HNV.out _ h
            omega
          · have := HSP.out.size
            omega)
        have HRQ := Lib.hid (show Rd wQ A' ((wo m.props 2).flatMap Prp.cells ++ [(⟨2, told m now, ⟨#[]⟩, ⟨#[]⟩⟩ : Prp)].flatMap Prp.cells) by rw [HTO.out]; simpa using hRd)
        clear hi y0 y1 y2 hr ho ht hloc hRd hq0 hq1 hS1
        
        refine step_append_eq (by rfl) _ _ _ (by rfl) (by rfl) (by rfl) HRUN.out ?_
        go_simp
        refine hK.out (Gr wA) _ _ (fun _ h => h) HSQ.out (fun hS => ?_)
        clear hK K
        refine wpAnyG_seg (fuel := 1) [12] rfl rfl (by kernel_rfl) (fun _ _ d _ _ h => by cases d <;> exact h) hS ?_
        repeat (go_big_quiet_step (fail))
        refine wpQuiet_nil ?_
        refine wpAnyG_sealed (fuel := 0) 13 (by kernel_rfl) (by kernel_rfl) rfl (fun K hK => ?_)
        have x4 : wQ.cell? ⟨w.heap.size, 4, none⟩ = some (.slice A1 m.props.length cA) := cell_of HQ0.out rfl
        have xf := free_of HQ0.out 4
        have hz5 : (wQ.setCell ⟨w.heap.size, 4, none⟩ (.slice A' ((wo m.props 2).length + 1) c')).heap[w.heap.size]? = some (.cells #[.string m.topic, .string m.payload, .int .i64 m.qos, .bool m.retain, .slice A' ((wo m.props 2).length + 1) c', .string m.from_, .int .i64 m.until_, .int .i64 m.seq, .string m.group] 24 (0, 0)) := set_of HQ0.out 4 _
        have hz6 : (wQ.setCell ⟨w.heap.size, 4, none⟩ (.slice A' ((wo m.props 2).length + 1) c')).heap[w.heap.size + 1]? = some (.cells #[.string ⟨#[]⟩, .string ⟨#[]⟩, .int .i64 0, .bool false, .slice none 0 0, .string ⟨#[]⟩, .int .i64 0, .int .i64 0, .string ⟨#[]⟩] 24 (0, 0)) := (set_other (p := ⟨w.heap.size, 4, none⟩) (by simp) _).trans HQ1.out
        obtain ⟨w5, hw5⟩ : ∃ w5, w5 = wQ.setCell ⟨w.heap.size, 4, none⟩ (.slice A' ((wo m.props 2).length + 1) c') := ⟨_, rfl⟩
        have hb5 : Below w.heap.size w w5 := by
          rw [hw5]
          exact (((Tch.of_below (S := []) HBQ.out).setCell (p := ⟨w.heap.size, 4, none⟩) (.inr (Nat.le_refl _)) _).below (Nat.le_refl _) (by simp))
        have hr5 : Rd w5 A' ((wo m.props 2 ++ [(⟨2, told m now, ⟨#[]⟩, ⟨#[]⟩⟩ : Prp)]).flatMap Prp.cells) := by
          rw [List.flatMap_append, hw5]
          refine HRQ.out.block ?_
          intro ad hA _ _
          have h1 := HNQ.out ad hA
          exact set_other (p := ⟨w.heap.size, 4, none⟩) (by simp; omega) _
        rw [← hw5] at hz5 hz6
        have H50 := Lib.hid hz5
        have H51 := Lib.hid hz6
        have HB5 := Lib.hid hb5
        have HR5 := Lib.hid hr5
        have HW5 := Lib.hid hw5.symm
        clear hw5 hz5 hz6 hb5 hr5
        go_simp
        refine hK.out (fun _ => True) _ _ trivial (fun hS => ?_)
        clear hK K hS x4 xf
        refine wpAnyG_end (by kernel_rfl) ?_
        rw [HW5.out]
        have r0 : w5.cell? ⟨w.heap.size, 0, none⟩ = some (.string m.topic) := cell_of H50.out rfl
        have r1 : w5.cell? ⟨w.heap.size, 1, none⟩ = some (.string m.payload) := cell_of H50.out rfl
        have r2 : w5.cell? ⟨w.heap.size, 2, none⟩ = some (.int .i64 m.qos) := cell_of H50.out rfl
        have r3 : w5.cell? ⟨w.heap.size, 3, none⟩ = some (.bool m.retain) := cell_of H50.out rfl
        have r4 : w5.cell? ⟨w.heap.size, 4, none⟩ = some (.slice A' ((wo m.props 2).length + 1) c') := cell_of H50.out rfl
        have r5 : w5.cell? ⟨w.heap.size, 5, none⟩ = some (.string m.from_) := cell_of H50.out rfl
        have r6 : w5.cell? ⟨w.heap.size, 6, none⟩ = some (.int .i64 m.until_) := cell_of H50.out rfl
        have r7 : w5.cell? ⟨w.heap.size, 7, none⟩ = some (.int .i64 m.seq) := cell_of H50.out rfl
        have r8 : w5.cell? ⟨w.heap.size, 8, none⟩ = some (.string m.group) := cell_of H50.out rfl
        have c0 : w5.cell? ⟨w.heap.size + 1, 0, none⟩ = some (.string ⟨#[]⟩) := cell_of H51.out rfl
        have c1 : w5.cell? ⟨w.heap.size + 1, 1, none⟩ = some (.string ⟨#[]⟩) := cell_of H51.out rfl
        have c2 : w5.cell? ⟨w.heap.size + 1, 2, none⟩ = some (.int .i64 0) := cell_of H51.out rfl
        have c3 : w5.cell? ⟨w.heap.size + 1, 3, none⟩ = some (.bool false) := cell_of H51.out rfl
        have c4 : w5.cell? ⟨w.heap.size + 1, 4, none⟩ = some (.slice none 0 0) := cell_of H51.out rfl
        have c5 : w5.cell? ⟨w.heap.size + 1, 5, none⟩ = some (.string ⟨#[]⟩) := cell_of H51.out rfl
        have c6 : w5.cell? ⟨w.heap.size + 1, 6, none⟩ = some (.int .i64 0) := cell_of H51.out rfl
        have c7 : w5.cell? ⟨w.heap.size + 1, 7, none⟩ = some (.int .i64 0) := cell_of H51.out rfl
        have c8 : w5.cell? ⟨w.heap.size + 1, 8, none⟩ = some (.string ⟨#[]⟩) := cell_of H51.out rfl
        have f0 := free_of H51.out 0
        have f1 := free_of H51.out 1
        have f2 := free_of H51.out 2
        have f3 := free_of H51.out 3
        have f4 := free_of H51.out 4
        have f5 := free_of H51.out 5
        have f6 := free_of H51.out 6
        have f7 := free_of H51.out 7
        have f8 := free_of H51.out 8
        have hp := put9 H51.out (.string m.topic) (.string m.payload) (.int .i64 m.qos) (.bool m.retain) (.slice A' ((wo m.props 2).length + 1) c') (.string m.from_) (.int .i64 m.until_) (.int .i64 m.seq) (.string m.group)
        have p0 := cell_of hp (o := 0) (v := .string m.topic) rfl
        have p1 := cell_of hp (o := 1) (v := .string m.payload) rfl
        have p2 := cell_of hp (o := 2) (v := .int .i64 m.qos) rfl
        have p3 := cell_of hp (o := 3) (v := .bool m.retain) rfl
        have p4 := cell_of hp (o := 4) (v := .slice A' ((wo m.props 2).length + 1) c') rfl
        have p5 := cell_of hp (o := 5) (v := .string m.from_) rfl
        have p6 := cell_of hp (o := 6) (v := .int .i64 m.until_) rfl
        have p7 := cell_of hp (o := 7) (v := .int .i64 m.seq) rfl
        have p8 := cell_of hp (o := 8) (v := .string m.group) rfl
        have HTE := Lib.hid (put9_tch w5 (w.heap.size + 1) (.string m.topic) (.string m.payload) (.int .i64 m.qos) (.bool m.retain) (.slice A' ((wo m.props 2).length + 1) c') (.string m.from_) (.int .i64 m.until_) (.int .i64 m.seq) (.string m.group))
        have key : ∀ w6, Tch [w.heap.size + 1] w5 w6 → PP (.returned (.tuple #[.agg #[.string m.topic, .string m.payload, .int .i64 m.qos, .bool m.retain, .slice A' ((wo m.props 2).length + 1) c', .string m.from_, .int .i64 m.until_, .int .i64 m.seq, .string m.group], .bool true])) w6 := by
          intro w6 ht6
          refine HPP.out _ _ ⟨fun h => (by rw [HCF.out] at h; cases h), fun _ => ⟨{ m with pA := A', pc := c', props := wo m.props 2 ++ [⟨2, told m now, ⟨#[]⟩, ⟨#[]⟩⟩] }, ?_, ⟨rfl, rfl, rfl, rfl, ?_, rfl, rfl, rfl, rfl⟩, HR5.out.block ?_⟩, HB5.out.trans (ht6.below HB5.out.size (by intro i hi; simp at hi; omega))⟩
          · unfold Mg.val
            rw [List.length_append]
            rfl
          · unfold leftP
            rw [if_pos HU.out]
          · intro ad hA _ hlt
            refine ht6.block _ hlt ?_
            have h1 := HNQ.out ad hA
            simp
            omega
        have HE := Lib.hid (key _ HTE.out)
        clear key hp
        go_wp2_with fail
        exact bodyPost_ret (v := .tuple #[.agg #[.string m.topic, .string m.payload, .int .i64 m.qos, .bool m.retain, .slice A' ((wo m.props 2).length + 1) c', .string m.from_, .int .i64 m.until_, .int .i64 m.seq, .string m.group], .bool true]) (by simp [results, Try.results9, go_sem, *]) rfl HE.out
set_option maxRecDepth 100000 in
set_option maxHeartbeats 4000000 in
theorem left_2 (m : Mg) (now : Int) (w : World) (hS : Rd w m.pA (m.props.flatMap Prp.cells)) (hl : m.props.length < 100000) (hm : (Lit.int .i64 m.until_).wf = true) (hnow : (Lit.int .i64 now).wf = true) (hc : come m now = false) (hu : 0 < m.until_) (hn : now < 0) (hd : ¬ 4294967295 < m.until_) :
    Calls Try.prog 9 #[m.val, .int .i64 now] w (LPost m now w) := by
  generalize hP : LPost m now w = PP
  have HPP := Lib.hid (show ∀ e w', LPost m now w e w' → PP e w' by intro e w' h; rw [← hP]; exact h)
  clear hP
  have hb0 := alloc_below w (.cells #[.string m.topic, .string m.payload, .int .i64 m.qos, .bool m.retain, .slice m.pA m.props.length m.pc, .string m.from_, .int .i64 m.until_, .int .i64 m.seq, .string m.group] 24)
  have hb1 := alloc_below (w.alloc (.cells #[.string m.topic, .string m.payload, .int .i64 m.qos, .bool m.retain, .slice m.pA m.props.length m.pc, .string m.from_, .int .i64 m.until_, .int .i64 m.seq, .string m.group] 24)) (.cells #[.string ⟨#[]⟩, .string ⟨#[]⟩, .int .i64 0, .bool false, .slice none 0 0, .string ⟨#[]⟩, .int .i64 0, .int .i64 0, .string ⟨#[]⟩] 24)
  have hz0 := heap_alloc_new w (.cells #[.string m.topic, .string m.payload, .int .i64 m.qos, .bool m.retain, .slice m.pA m.props.length m.pc, .string m.from_, .int .i64 m.until_, .int .i64 m.seq, .string m.group] 24)
  have hz1 := heap_alloc_new (w.alloc (.cells #[.string m.topic, .string m.payload, .int .i64 m.qos, .bool m.retain, .slice m.pA m.props.length m.pc, .string m.from_, .int .i64 m.until_, .int .i64 m.seq, .string m.group] 24)) (.cells #[.string ⟨#[]⟩, .string ⟨#[]⟩, .int .i64 0, .bool false, .slice none 0 0, .string ⟨#[]⟩, .int .i64 0, .int .i64 0, .string ⟨#[]⟩] 24)
  have hs0 : (w.alloc (.cells #[.string m.topic, .string m.payload, .int .i64 m.qos, .bool m.retain, .slice m.pA m.props.length m.pc, .string m.from_, .int .i64 m.until_, .int .i64 m.seq, .string m.group] 24)).heap.size = w.heap.size + 1 := by simp
  have hs1 : ((w.alloc (.cells #[.string m.topic, .string m.payload, .int .i64 m.qos, .bool m.retain, .slice m.pA m.props.length m.pc, .string m.from_, .int .i64 m.until_, .int .i64 m.seq, .string m.group] 24)).alloc (.cells #[.string ⟨#[]⟩, .string ⟨#[]⟩, .int .i64 0, .bool false, .slice none 0 0, .string ⟨#[]⟩, .int .i64 0, .int .i64 0, .string ⟨#[]⟩] 24)).heap.size = w.heap.size + 1 + 1 := by simp
  have hbW := hb0.trans (hb1.mono hb0.size)
  have hz0' := (hb1.block w.heap.size (by rw [hs0]; omega)).trans hz0
  rw [hs0] at hz1
  have hSW := hS.below hbW
  have HSW0 := Lib.hid hS
  have hC := come_any m now ((w.alloc (.cells #[.string m.topic, .string m.payload, .int .i64 m.qos, .bool m.retain, .slice m.pA m.props.length m.pc, .string m.from_, .int .i64 m.until_, .int .i64 m.seq, .string m.group] 24)).alloc (.cells #[.string ⟨#[]⟩, .string ⟨#[]⟩, .int .i64 0, .bool false, .slice none 0 0, .string ⟨#[]⟩, .int .i64 0, .int .i64 0, .string ⟨#[]⟩] 24))
  obtain ⟨W, hW⟩ : ∃ W, W = (w.alloc (.cells #[.string m.topic, .string m.payload, .int .i64 m.qos, .bool m.retain, .slice m.pA m.props.length m.pc, .string m.from_, .int .i64 m.until_, .int .i64 m.seq, .string m.group] 24)).alloc (.cells #[.string ⟨#[]⟩, .string ⟨#[]⟩, .int .i64 0, .bool false, .slice none 0 0, .string ⟨#[]⟩, .int .i64 0, .int .i64 0, .string ⟨#[]⟩] 24) := ⟨_, rfl⟩
  have HW := Lib.hid hW
  rw [← hW] at hz0' hz1 hs1 hbW hSW hC
  have HB0 := Lib.hid hbW
  have HZ0 := Lib.hid hz0'
  have HZ1 := Lib.hid hz1
  have HS1 := Lib.hid hs1
  have HSW := Lib.hid hSW
  unfold Mg.val at hC
  have HC := Lib.hid hC
  have HX := Lib.hid (show come m now = (decide (0 < m.until_) && decide (m.until_ ≤ now)) from rfl)
  clear hb0 hb1 hz0 hz1 hs0 hs1 hbW hz0' hS hSW hC hW
  obtain ⟨hm0, hm1⟩ := bounds_i64 hm
  obtain ⟨hn0, hn1⟩ := bounds_i64 hnow
  clear hm hnow
  have a0 : W.cell? ⟨w.heap.size, 0, none⟩ = some (.string m.topic) := cell_of HZ0.out rfl
  have a1 : W.cell? ⟨w.heap.size, 1, none⟩ = some (.string m.payload) := cell_of HZ0.out rfl
  have a2 : W.cell? ⟨w.heap.size, 2, none⟩ = some (.int .i64 m.qos) := cell_of HZ0.out rfl
  have a3 : W.cell? ⟨w.heap.size, 3, none⟩ = some (.bool m.retain) := cell_of HZ0.out rfl
  have a4 : W.cell? ⟨w.heap.size, 4, none⟩ = some (.slice m.pA m.props.length m.pc) := cell_of HZ0.out rfl
  have a5 : W.cell? ⟨w.heap.size, 5, none⟩ = some (.string m.from_) := cell_of HZ0.out rfl
  have a6 : W.cell? ⟨w.heap.size, 6, none⟩ = some (.int .i64 m.until_) := cell_of HZ0.out rfl
  have a7 : W.cell? ⟨w.heap.size, 7, none⟩ = some (.int .i64 m.seq) := cell_of HZ0.out rfl
  have a8 : W.cell? ⟨w.heap.size, 8, none⟩ = some (.string m.group) := cell_of HZ0.out rfl
  unfold Mg.val
  have hto : told m now = m.until_ := by unfold told; omega
  have HTO := Lib.hid hto
  clear hto
  have hun : ¬ m.until_ ≤ now := by
    intro h
    rw [HX.out, decide_eq_true hu, decide_eq_true h] at hc
    cases hc
  case _ =>
      rw [hc] at HC
      have HCF := Lib.hid hc
      have HU := Lib.hid hu
      have hun : come m now = false := hc
      clear hc hun
      go_enter Try.func9, Try.ntmps9
      go_upto_region 1 with (fail)
      rw [← HW.out]
      clear HW
      go_wp2_with fail
      refine HC.out.mono ?_
      rintro e w2 ⟨rfl, hb⟩
      have hz0 := (hb.block _ (by rw [HS1.out]; omega)).trans HZ0.out
      have hz1 := (hb.block _ (by rw [HS1.out]; omega)).trans HZ1.out
      have HB2 := Lib.hid (HB0.out.trans (hb.mono HB0.out.size))
      have HCL := Lib.hid (cloneP_any w2 m.pA m.pc m.props (HSW.out.below hb) (by omega))
      have H20 := Lib.hid hz0
      have H21 := Lib.hid hz1
      have H2S := Lib.hid hb.size
      clear hb a0 a1 a2 a3 a4 a5 a6 a7 a8
      have a0 : w2.cell? ⟨w.heap.size, 0, none⟩ = some (.string m.topic) := cell_of hz0 rfl
      have a1 : w2.cell? ⟨w.heap.size, 1, none⟩ = some (.string m.payload) := cell_of hz0 rfl
      have a2 : w2.cell? ⟨w.heap.size, 2, none⟩ = some (.int .i64 m.qos) := cell_of hz0 rfl
      have a3 : w2.cell? ⟨w.heap.size, 3, none⟩ = some (.bool m.retain) := cell_of hz0 rfl
      have a4 : w2.cell? ⟨w.heap.size, 4, none⟩ = some (.slice m.pA m.props.length m.pc) := cell_of hz0 rfl
      have a5 : w2.cell? ⟨w.heap.size, 5, none⟩ = some (.string m.from_) := cell_of hz0 rfl
      have a6 : w2.cell? ⟨w.heap.size, 6, none⟩ = some (.int .i64 m.until_) := cell_of hz0 rfl
      have a7 : w2.cell? ⟨w.heap.size, 7, none⟩ = some (.int .i64 m.seq) := cell_of hz0 rfl
      have a8 : w2.cell? ⟨w.heap.size, 8, none⟩ = some (.string m.group) := cell_of hz0 rfl
      clear hz0 hz1
      go_wp2_with fail
      refine HCL.out.mono ?_
      rintro e w3 ⟨⟨v, rfl, hR, hN⟩, hb⟩
      obtain ⟨A1, cA, rfl, hRd⟩ := rd_own hR
      have hz0 := (hb.block _ (by have := lt_of_block H20.out; omega)).trans H20.out
      have hz1 := (hb.block _ (by have := lt_of_block H21.out; omega)).trans H21.out
      have hb3 := HB2.out.trans (hb.mono HB2.out.size)
      have HN3 := Lib.hid (show ∀ ad, A1 = some ad → w.heap.size + 1 + 1 ≤ ad.block by
        intro ad had
        subst had
        have h1 := hN ad.block rfl
        have h2 := H2S.out
        rw [HS1.out] at h2
        omega)
      have x4 : w3.cell? ⟨w.heap.size, 4, none⟩ = some (.slice m.pA m.props.length m.pc) := cell_of hz0 rfl
      have xf := free_of hz0 4
      have hz5 : (w3.setCell ⟨w.heap.size, 4, none⟩ (.slice A1 m.props.length cA)).heap[w.heap.size]? = some (.cells #[.string m.topic, .string m.payload, .int .i64 m.qos, .bool m.retain, .slice A1 m.props.length cA, .string m.from_, .int .i64 m.until_, .int .i64 m.seq, .string m.group] 24 (0, 0)) := set_of hz0 4 _
      have hz6 : (w3.setCell ⟨w.heap.size, 4, none⟩ (.slice A1 m.props.length cA)).heap[w.heap.size + 1]? = some (.cells #[.string ⟨#[]⟩, .string ⟨#[]⟩, .int .i64 0, .bool false, .slice none 0 0, .string ⟨#[]⟩, .int .i64 0, .int .i64 0, .string ⟨#[]⟩] 24 (0, 0)) := (set_other (p := ⟨w.heap.size, 4, none⟩) (by simp) _).trans hz1
      obtain ⟨wA, hwA⟩ : ∃ wA, wA = w3.setCell ⟨w.heap.size, 4, none⟩ (.slice A1 m.props.length cA) := ⟨_, rfl⟩
      have hbA : Below w.heap.size w wA := by
        rw [hwA]
        exact (((Tch.of_below (S := []) hb3).setCell (p := ⟨w.heap.size, 4, none⟩) (.inr (Nat.le_refl _)) _).below (Nat.le_refl _) (by simp))
      have hrA : Rd wA A1 (m.props.flatMap Prp.cells) := by
        rw [hwA]
        refine hRd.block ?_
        intro ad hA _ _
        have h1 := HN3.out ad hA
        exact set_other (p := ⟨w.heap.size, 4, none⟩) (by simp; omega) _
      rw [← hwA] at hz5 hz6
      have HA0 := Lib.hid hz5
      have HA1 := Lib.hid hz6
      have HBA := Lib.hid hbA
      have HRA := Lib.hid hrA
      have HWA := Lib.hid hwA.symm
      clear hb hz0 hz1 hb3 hR hN hRd hz5 hz6 hbA hrA hwA a0 a1 a2 a3 a4 a5 a6 a7 a8
      have HWO := Lib.hid (fun W (hb : Below wA.heap.size wA W) => without_any W A1 cA m.props (HRA.out.below hb) (by omega) 2)
      have HWA' := HWA.out
      have z6 : wA.cell? ⟨w.heap.size, 6, none⟩ = some (.int .i64 m.until_) := cell_of HA0.out rfl
      go_upto_region 5 with (fail)
      clear HWA' HWA x4 xf z6
      have r4 := fun n : Wd (Gr wA) => n.cell (cell_of HA0.out (o := 4) (v := .slice A1 m.props.length cA) rfl)
      have r6 := fun n : Wd (Gr wA) => n.cell (cell_of HA0.out (o := 6) (v := .int .i64 m.until_) rfl)
      refine wp_region_G (n := 14) (Gr wA) rfl (by kernel_rfl) (gr_drew wA) (fun hS => ?_)
      refine wpAnyG_seg (fuel := 5) [0, 1, 3, 4, 5, 6, 7, 8, 9] rfl rfl (by kernel_rfl) (fun _ _ d _ _ h => by cases d <;> exact h) hS ?_
      repeat (go_big_quiet_step (fail))
      refine wpQuiet_nil ?_
      clear r4 r6
      refine wpAnyG_two (fuel := 4) 2 10 (by kernel_rfl) rfl rfl (fun K hK => ?_) (fun K hK => ?_)
      case _ =>
        go_simp
        refine (HWO.out _ hS).mono ?_
        rintro e w4 ⟨⟨v, rfl, hR, hN⟩, hb⟩
        have hs4 := hS.trans (hb.mono hS.size)
        have HS4 := Lib.hid hs4
        have h40 := (hs4.block _ (lt_of_block HA0.out)).trans HA0.out
        have h41 := (hs4.block _ (lt_of_block HA1.out)).trans HA1.out
        have hba := alloc_below w4 (.cells #[.int .i64 2, .int .i64 (m.until_), .string ⟨#[]⟩, .string ⟨#[]⟩] 56)
        have HP0 := Lib.hid ((hba.block _ (lt_of_block h40)).trans h40)
        have HP1 := Lib.hid ((hba.block _ (lt_of_block h41)).trans h41)
        have HBLK := Lib.hid (heap_alloc_new w4 (.cells #[.int .i64 2, .int .i64 (m.until_), .string ⟨#[]⟩, .string ⟨#[]⟩] 56))
        have HSP := Lib.hid (hs4.trans (hba.mono hs4.size))
        have HO := Lib.hid (hR.alloc (.cells #[.int .i64 2, .int .i64 (m.until_), .string ⟨#[]⟩, .string ⟨#[]⟩] 56))
        have HNV := Lib.hid (show ∀ g, v.ownBlock = some g → wA.heap.size ≤ g by
          intro g hg
          have h1 := hN g hg
          have h2 := hS.size
          omega)
        clear hs4 h40 h41 hba hR hN hb
        go_wp2_with fail
        refine hK.out (Gr wA) _ _ (fun _ h => h) HS4.out (fun hS => ?_)
        clear hK K
        refine wpAnyG_alone (fuel := 3) 10 (by kernel_rfl) rfl hS (fun K hK => ?_)
        go_simp
        refine hK.out (Gr wA) _ _ (fun _ h => h) HSP.out (fun hS => ?_)
        clear hK K
        refine wpAnyG_alone (fuel := 2) 11 (by kernel_rfl) rfl hS (fun K hK => ?_)
        
        obtain ⟨i0, hi, y0, y1, y2⟩ := info_parts info56
        have hwl := wo_le m.props 2
        obtain ⟨v', wQ, hr, ho, ht, hloc⟩ := append_list (P := Try.prog) (ty := 22) Try.underlying22 hi y0 y1 y2 rfl (by decide) HO.out (some ⟨w4.heap.size, 0, none⟩) 1 1 (Prp.cells ⟨2, m.until_, ⟨#[]⟩, ⟨#[]⟩⟩) rfl (fun _ => ⟨_, rfl, fun j u hu => by
          rw [add_plain, Nat.zero_add]
          exact cell_of HBLK.out (by simpa [Prp.cells] using hu)⟩) (by simpa using prp_one [⟨2, m.until_, ⟨#[]⟩, ⟨#[]⟩⟩]) (by unfold maxLen; omega) (by omega)
        obtain ⟨A', c', rfl, hRd⟩ := rd_own ho
        have hq0 := (ht.block _ (lt_of_block HP0.out) (by intro h; have := HNV.out _ (by simpa using h); have := lt_of_block HA0.out; omega)).trans HP0.out
        have hq1 := (ht.block _ (lt_of_block HP1.out) (by intro h; have := HNV.out _ (by simpa using h); have := lt_of_block HA1.out; omega)).trans HP1.out
        have HQ0 := Lib.hid hq0
        have HQ1 := Lib.hid hq1
        have HRUN := Lib.hid hr
        have hS1 := HSP.out.trans (ht.below HSP.out.size (by intro i hi; exact HNV.out i (by simpa using hi)))
        have HSQ := Lib.hid hS1
        have HBQ := Lib.hid (HBA.out.trans (hS1.mono HBA.out.size))
        have HNQ := Lib.hid (show ∀ ad, A' = some ad → w.heap.size + 1 + 1 ≤ ad.block by
          intro ad had
          subst had
          have h9 := lt_of_block HA1.out
          rcases hloc ad.block rfl with h | h
          · have := HNV.out _ h
            omega
          · have := HSP.out.size
            omega)
        have HRQ := Lib.hid (show Rd wQ A' ((wo m.props 2).flatMap Prp.cells ++ [(⟨2, told m now, ⟨#[]⟩, ⟨#[]⟩⟩ : Prp)].flatMap Prp.cells) by rw [HTO.out]; simpa using hRd)
        clear hi y0 y1 y2 hr ho ht hloc hRd hq0 hq1 hS1
        
        refine step_append_eq (by rfl) _ _ _ (by rfl) (by rfl) (by rfl) HRUN.out ?_
        go_simp
        refine hK.out (Gr wA) _ _ (fun _ h => h) HSQ.out (fun hS => ?_)
        clear hK K
        refine wpAnyG_seg (fuel := 1) [12] rfl rfl (by kernel_rfl) (fun _ _ d _ _ h => by cases d <;> exact h) hS ?_
        repeat (go_big_quiet_step (fail))
        refine wpQuiet_nil ?_
        refine wpAnyG_sealed (fuel := 0) 13 (by kernel_rfl) (by kernel_rfl) rfl (fun K hK => ?_)
        have x4 : wQ.cell? ⟨w.heap.size, 4, none⟩ = some (.slice A1 m.props.length cA) := cell_of HQ0.out rfl
        have xf := free_of HQ0.out 4
        have hz5 : (wQ.setCell ⟨w.heap.size, 4, none⟩ (.slice A' ((wo m.props 2).length + 1) c')).heap[w.heap.size]? = some (.cells #[.string m.topic, .string m.payload, .int .i64 m.qos, .bool m.retain, .slice A' ((wo m.props 2).length + 1) c', .string m.from_, .int .i64 m.until_, .int .i64 m.seq, .string m.group] 24 (0, 0)) := set_of HQ0.out 4 _
        have hz6 : (wQ.setCell ⟨w.heap.size, 4, none⟩ (.slice A' ((wo m.props 2).length + 1) c')).heap[w.heap.size + 1]? = some (.cells #[.string ⟨#[]⟩, .string ⟨#[]⟩, .int .i64 0, .bool false, .slice none 0 0, .string ⟨#[]⟩, .int .i64 0, .int .i64 0, .string ⟨#[]⟩] 24 (0, 0)) := (set_other (p := ⟨w.heap.size, 4, none⟩) (by simp) _).trans HQ1.out
        obtain ⟨w5, hw5⟩ : ∃ w5, w5 = wQ.setCell ⟨w.heap.size, 4, none⟩ (.slice A' ((wo m.props 2).length + 1) c') := ⟨_, rfl⟩
        have hb5 : Below w.heap.size w w5 := by
          rw [hw5]
          exact (((Tch.of_below (S := []) HBQ.out).setCell (p := ⟨w.heap.size, 4, none⟩) (.inr (Nat.le_refl _)) _).below (Nat.le_refl _) (by simp))
        have hr5 : Rd w5 A' ((wo m.props 2 ++ [(⟨2, told m now, ⟨#[]⟩, ⟨#[]⟩⟩ : Prp)]).flatMap Prp.cells) := by
          rw [List.flatMap_append, hw5]
          refine HRQ.out.block ?_
          intro ad hA _ _
          have h1 := HNQ.out ad hA
          exact set_other (p := ⟨w.heap.size, 4, none⟩) (by simp; omega) _
        rw [← hw5] at hz5 hz6
        have H50 := Lib.hid hz5
        have H51 := Lib.hid hz6
        have HB5 := Lib.hid hb5
        have HR5 := Lib.hid hr5
        have HW5 := Lib.hid hw5.symm
        clear hw5 hz5 hz6 hb5 hr5
        go_simp
        refine hK.out (fun _ => True) _ _ trivial (fun hS => ?_)
        clear hK K hS x4 xf
        refine wpAnyG_end (by kernel_rfl) ?_
        rw [HW5.out]
        have r0 : w5.cell? ⟨w.heap.size, 0, none⟩ = some (.string m.topic) := cell_of H50.out rfl
        have r1 : w5.cell? ⟨w.heap.size, 1, none⟩ = some (.string m.payload) := cell_of H50.out rfl
        have r2 : w5.cell? ⟨w.heap.size, 2, none⟩ = some (.int .i64 m.qos) := cell_of H50.out rfl
        have r3 : w5.cell? ⟨w.heap.size, 3, none⟩ = some (.bool m.retain) := cell_of H50.out rfl
        have r4 : w5.cell? ⟨w.heap.size, 4, none⟩ = some (.slice A' ((wo m.props 2).length + 1) c') := cell_of H50.out rfl
        have r5 : w5.cell? ⟨w.heap.size, 5, none⟩ = some (.string m.from_) := cell_of H50.out rfl
        have r6 : w5.cell? ⟨w.heap.size, 6, none⟩ = some (.int .i64 m.until_) := cell_of H50.out rfl
        have r7 : w5.cell? ⟨w.heap.size, 7, none⟩ = some (.int .i64 m.seq) := cell_of H50.out rfl
        have r8 : w5.cell? ⟨w.heap.size, 8, none⟩ = some (.string m.group) := cell_of H50.out rfl
        have c0 : w5.cell? ⟨w.heap.size + 1, 0, none⟩ = some (.string ⟨#[]⟩) := cell_of H51.out rfl
        have c1 : w5.cell? ⟨w.heap.size + 1, 1, none⟩ = some (.string ⟨#[]⟩) := cell_of H51.out rfl
        have c2 : w5.cell? ⟨w.heap.size + 1, 2, none⟩ = some (.int .i64 0) := cell_of H51.out rfl
        have c3 : w5.cell? ⟨w.heap.size + 1, 3, none⟩ = some (.bool false) := cell_of H51.out rfl
        have c4 : w5.cell? ⟨w.heap.size + 1, 4, none⟩ = some (.slice none 0 0) := cell_of H51.out rfl
        have c5 : w5.cell? ⟨w.heap.size + 1, 5, none⟩ = some (.string ⟨#[]⟩) := cell_of H51.out rfl
        have c6 : w5.cell? ⟨w.heap.size + 1, 6, none⟩ = some (.int .i64 0) := cell_of H51.out rfl
        have c7 : w5.cell? ⟨w.heap.size + 1, 7, none⟩ = some (.int .i64 0) := cell_of H51.out rfl
        have c8 : w5.cell? ⟨w.heap.size + 1, 8, none⟩ = some (.string ⟨#[]⟩) := cell_of H51.out rfl
        have f0 := free_of H51.out 0
        have f1 := free_of H51.out 1
        have f2 := free_of H51.out 2
        have f3 := free_of H51.out 3
        have f4 := free_of H51.out 4
        have f5 := free_of H51.out 5
        have f6 := free_of H51.out 6
        have f7 := free_of H51.out 7
        have f8 := free_of H51.out 8
        have hp := put9 H51.out (.string m.topic) (.string m.payload) (.int .i64 m.qos) (.bool m.retain) (.slice A' ((wo m.props 2).length + 1) c') (.string m.from_) (.int .i64 m.until_) (.int .i64 m.seq) (.string m.group)
        have p0 := cell_of hp (o := 0) (v := .string m.topic) rfl
        have p1 := cell_of hp (o := 1) (v := .string m.payload) rfl
        have p2 := cell_of hp (o := 2) (v := .int .i64 m.qos) rfl
        have p3 := cell_of hp (o := 3) (v := .bool m.retain) rfl
        have p4 := cell_of hp (o := 4) (v := .slice A' ((wo m.props 2).length + 1) c') rfl
        have p5 := cell_of hp (o := 5) (v := .string m.from_) rfl
        have p6 := cell_of hp (o := 6) (v := .int .i64 m.until_) rfl
        have p7 := cell_of hp (o := 7) (v := .int .i64 m.seq) rfl
        have p8 := cell_of hp (o := 8) (v := .string m.group) rfl
        have HTE := Lib.hid (put9_tch w5 (w.heap.size + 1) (.string m.topic) (.string m.payload) (.int .i64 m.qos) (.bool m.retain) (.slice A' ((wo m.props 2).length + 1) c') (.string m.from_) (.int .i64 m.until_) (.int .i64 m.seq) (.string m.group))
        have key : ∀ w6, Tch [w.heap.size + 1] w5 w6 → PP (.returned (.tuple #[.agg #[.string m.topic, .string m.payload, .int .i64 m.qos, .bool m.retain, .slice A' ((wo m.props 2).length + 1) c', .string m.from_, .int .i64 m.until_, .int .i64 m.seq, .string m.group], .bool true])) w6 := by
          intro w6 ht6
          refine HPP.out _ _ ⟨fun h => (by rw [HCF.out] at h; cases h), fun _ => ⟨{ m with pA := A', pc := c', props := wo m.props 2 ++ [⟨2, told m now, ⟨#[]⟩, ⟨#[]⟩⟩] }, ?_, ⟨rfl, rfl, rfl, rfl, ?_, rfl, rfl, rfl, rfl⟩, HR5.out.block ?_⟩, HB5.out.trans (ht6.below HB5.out.size (by intro i hi; simp at hi; omega))⟩
          · unfold Mg.val
            rw [List.length_append]
            rfl
          · unfold leftP
            rw [if_pos HU.out]
          · intro ad hA _ hlt
            refine ht6.block _ hlt ?_
            have h1 := HNQ.out ad hA
            simp
            omega
        have HE := Lib.hid (key _ HTE.out)
        clear key hp
        go_wp2_with fail
        exact bodyPost_ret (v := .tuple #[.agg #[.string m.topic, .string m.payload, .int .i64 m.qos, .bool m.retain, .slice A' ((wo m.props 2).length + 1) c', .string m.from_, .int .i64 m.until_, .int .i64 m.seq, .string m.group], .bool true]) (by simp [results, Try.results9, go_sem, *]) rfl HE.out
      case _ =>
        go_simp
        have hd0 : Below wA.heap.size wA (wA.alloc (.cells #[.int .i64 2, .int .i64 (m.until_), .string ⟨#[]⟩, .string ⟨#[]⟩] 56)).drew := (alloc_below wA (.cells #[.int .i64 2, .int .i64 (m.until_), .string ⟨#[]⟩, .string ⟨#[]⟩] 56)).trans (below_drewN (Below.refl _ _) 1)
        refine hK.out (Gr wA) _ _ (fun _ h => h) hd0 (fun hS => ?_)
        clear hK K hd0
        refine wpAnyG_alone (fuel := 3) 2 (by kernel_rfl) rfl hS (fun K hK => ?_)
        go_simp
        refine (HWO.out _ hS).mono ?_
        rintro e w4 ⟨⟨v, rfl, hR, hN⟩, hb⟩
        have hs4 := hS.trans (hb.mono hS.size)
        have HSP := Lib.hid hs4
        have HP0 := Lib.hid ((hs4.block _ (lt_of_block HA0.out)).trans HA0.out)
        have HP1 := Lib.hid ((hs4.block _ (lt_of_block HA1.out)).trans HA1.out)
        have HBLK := Lib.hid (show w4.heap[wA.heap.size]? = some (.cells #[.int .i64 2, .int .i64 (m.until_), .string ⟨#[]⟩, .string ⟨#[]⟩] 56) from (hb.block wA.heap.size (by simp)).trans (heap_alloc_new wA (.cells #[.int .i64 2, .int .i64 (m.until_), .string ⟨#[]⟩, .string ⟨#[]⟩] 56)))
        have HO := Lib.hid hR
        have HNV := Lib.hid (show ∀ g, v.ownBlock = some g → wA.heap.size ≤ g by
          intro g hg
          have h1 := hN g hg
          have h2 := hS.size
          omega)
        clear hs4 hR hN hb
        go_wp2_with fail
        refine hK.out (Gr wA) _ _ (fun _ h => h) HSP.out (fun hS => ?_)
        clear hK K
        refine wpAnyG_alone (fuel := 2) 11 (by kernel_rfl) rfl hS (fun K hK => ?_)
        
        obtain ⟨i0, hi, y0, y1, y2⟩ := info_parts info56
        have hwl := wo_le m.props 2
        obtain ⟨v', wQ, hr, ho, ht, hloc⟩ := append_list (P := Try.prog) (ty := 22) Try.underlying22 hi y0 y1 y2 rfl (by decide) HO.out (some ⟨wA.heap.size, 0, none⟩) 1 1 (Prp.cells ⟨2, m.until_, ⟨#[]⟩, ⟨#[]⟩⟩) rfl (fun _ => ⟨_, rfl, fun j u hu => by
          rw [add_plain, Nat.zero_add]
          exact cell_of HBLK.out (by simpa [Prp.cells] using hu)⟩) (by simpa using prp_one [⟨2, m.until_, ⟨#[]⟩, ⟨#[]⟩⟩]) (by unfold maxLen; omega) (by omega)
        obtain ⟨A', c', rfl, hRd⟩ := rd_own ho
        have hq0 := (ht.block _ (lt_of_block HP0.out) (by intro h; have := HNV.out _ (by simpa using h); have := lt_of_block HA0.out; omega)).trans HP0.out
        have hq1 := (ht.block _ (lt_of_block HP1.out) (by intro h; have := HNV.out _ (by simpa using h); have := lt_of_block HA1.out; omega)).trans HP1.out
        have HQ0 := Lib.hid hq0
        have HQ1 := Lib.hid hq1
        have HRUN := Lib.hid hr
        have hS1 := HSP.out.trans (ht.below HSP.out.size (by intro i hi; exact HNV.out i (by simpa using hi)))
        have HSQ := Lib.hid hS1
        have HBQ := Lib.hid (HBA.out.trans (hS1.mono HBA.out.size))
        have HNQ := Lib.hid (show ∀ ad, A' = some ad → w.heap.size + 1 + 1 ≤ ad.block by
          intro ad had
          subst had
          have h9 := lt_of_block HA1.out
          rcases hloc ad.block rfl with h | h
          · have := HNV.out _ h
            omega
          · have := HSP.out.size
            omega)
        have HRQ := Lib.hid (show Rd wQ A' ((wo m.props 2).flatMap Prp.cells ++ [(⟨2, told m now, ⟨#[]⟩, ⟨#[]⟩⟩ : Prp)].flatMap Prp.cells) by rw [HTO.out]; simpa using hRd)
        clear hi y0 y1 y2 hr ho ht hloc hRd hq0 hq1 hS1
        
        refine step_append_eq (by rfl) _ _ _ (by rfl) (by rfl) (by rfl) HRUN.out ?_
        go_simp
        refine hK.out (Gr wA) _ _ (fun _ h => h) HSQ.out (fun hS => ?_)
        clear hK K
        refine wpAnyG_seg (fuel := 1) [12] rfl rfl (by kernel_rfl) (fun _ _ d _ _ h => by cases d <;> exact h) hS ?_
        repeat (go_big_quiet_step (fail))
        refine wpQuiet_nil ?_
        refine wpAnyG_sealed (fuel := 0) 13 (by kernel_rfl) (by kernel_rfl) rfl (fun K hK => ?_)
        have x4 : wQ.cell? ⟨w.heap.size, 4, none⟩ = some (.slice A1 m.props.length cA) := cell_of HQ0.out rfl
        have xf := free_of HQ0.out 4
        have hz5 : (wQ.setCell ⟨w.heap.size, 4, none⟩ (.slice A' ((wo m.props 2).length + 1) c')).heap[w.heap.size]? = some (.cells #[.string m.topic, .string m.payload, .int .i64 m.qos, .bool m.retain, .slice A' ((wo m.props 2).length + 1) c', .string m.from_, .int .i64 m.until_, .int .i64 m.seq, .string m.group] 24 (0, 0)) := set_of HQ0.out 4 _
        have hz6 : (wQ.setCell ⟨w.heap.size, 4, none⟩ (.slice A' ((wo m.props 2).length + 1) c')).heap[w.heap.size + 1]? = some (.cells #[.string ⟨#[]⟩, .string ⟨#[]⟩, .int .i64 0, .bool false, .slice none 0 0, .string ⟨#[]⟩, .int .i64 0, .int .i64 0, .string ⟨#[]⟩] 24 (0, 0)) := (set_other (p := ⟨w.heap.size, 4, none⟩) (by simp) _).trans HQ1.out
        obtain ⟨w5, hw5⟩ : ∃ w5, w5 = wQ.setCell ⟨w.heap.size, 4, none⟩ (.slice A' ((wo m.props 2).length + 1) c') := ⟨_, rfl⟩
        have hb5 : Below w.heap.size w w5 := by
          rw [hw5]
          exact (((Tch.of_below (S := []) HBQ.out).setCell (p := ⟨w.heap.size, 4, none⟩) (.inr (Nat.le_refl _)) _).below (Nat.le_refl _) (by simp))
        have hr5 : Rd w5 A' ((wo m.props 2 ++ [(⟨2, told m now, ⟨#[]⟩, ⟨#[]⟩⟩ : Prp)]).flatMap Prp.cells) := by
          rw [List.flatMap_append, hw5]
          refine HRQ.out.block ?_
          intro ad hA _ _
          have h1 := HNQ.out ad hA
          exact set_other (p := ⟨w.heap.size, 4, none⟩) (by simp; omega) _
        rw [← hw5] at hz5 hz6
        have H50 := Lib.hid hz5
        have H51 := Lib.hid hz6
        have HB5 := Lib.hid hb5
        have HR5 := Lib.hid hr5
        have HW5 := Lib.hid hw5.symm
        clear hw5 hz5 hz6 hb5 hr5
        go_simp
        refine hK.out (fun _ => True) _ _ trivial (fun hS => ?_)
        clear hK K hS x4 xf
        refine wpAnyG_end (by kernel_rfl) ?_
        rw [HW5.out]
        have r0 : w5.cell? ⟨w.heap.size, 0, none⟩ = some (.string m.topic) := cell_of H50.out rfl
        have r1 : w5.cell? ⟨w.heap.size, 1, none⟩ = some (.string m.payload) := cell_of H50.out rfl
        have r2 : w5.cell? ⟨w.heap.size, 2, none⟩ = some (.int .i64 m.qos) := cell_of H50.out rfl
        have r3 : w5.cell? ⟨w.heap.size, 3, none⟩ = some (.bool m.retain) := cell_of H50.out rfl
        have r4 : w5.cell? ⟨w.heap.size, 4, none⟩ = some (.slice A' ((wo m.props 2).length + 1) c') := cell_of H50.out rfl
        have r5 : w5.cell? ⟨w.heap.size, 5, none⟩ = some (.string m.from_) := cell_of H50.out rfl
        have r6 : w5.cell? ⟨w.heap.size, 6, none⟩ = some (.int .i64 m.until_) := cell_of H50.out rfl
        have r7 : w5.cell? ⟨w.heap.size, 7, none⟩ = some (.int .i64 m.seq) := cell_of H50.out rfl
        have r8 : w5.cell? ⟨w.heap.size, 8, none⟩ = some (.string m.group) := cell_of H50.out rfl
        have c0 : w5.cell? ⟨w.heap.size + 1, 0, none⟩ = some (.string ⟨#[]⟩) := cell_of H51.out rfl
        have c1 : w5.cell? ⟨w.heap.size + 1, 1, none⟩ = some (.string ⟨#[]⟩) := cell_of H51.out rfl
        have c2 : w5.cell? ⟨w.heap.size + 1, 2, none⟩ = some (.int .i64 0) := cell_of H51.out rfl
        have c3 : w5.cell? ⟨w.heap.size + 1, 3, none⟩ = some (.bool false) := cell_of H51.out rfl
        have c4 : w5.cell? ⟨w.heap.size + 1, 4, none⟩ = some (.slice none 0 0) := cell_of H51.out rfl
        have c5 : w5.cell? ⟨w.heap.size + 1, 5, none⟩ = some (.string ⟨#[]⟩) := cell_of H51.out rfl
        have c6 : w5.cell? ⟨w.heap.size + 1, 6, none⟩ = some (.int .i64 0) := cell_of H51.out rfl
        have c7 : w5.cell? ⟨w.heap.size + 1, 7, none⟩ = some (.int .i64 0) := cell_of H51.out rfl
        have c8 : w5.cell? ⟨w.heap.size + 1, 8, none⟩ = some (.string ⟨#[]⟩) := cell_of H51.out rfl
        have f0 := free_of H51.out 0
        have f1 := free_of H51.out 1
        have f2 := free_of H51.out 2
        have f3 := free_of H51.out 3
        have f4 := free_of H51.out 4
        have f5 := free_of H51.out 5
        have f6 := free_of H51.out 6
        have f7 := free_of H51.out 7
        have f8 := free_of H51.out 8
        have hp := put9 H51.out (.string m.topic) (.string m.payload) (.int .i64 m.qos) (.bool m.retain) (.slice A' ((wo m.props 2).length + 1) c') (.string m.from_) (.int .i64 m.until_) (.int .i64 m.seq) (.string m.group)
        have p0 := cell_of hp (o := 0) (v := .string m.topic) rfl
        have p1 := cell_of hp (o := 1) (v := .string m.payload) rfl
        have p2 := cell_of hp (o := 2) (v := .int .i64 m.qos) rfl
        have p3 := cell_of hp (o := 3) (v := .bool m.retain) rfl
        have p4 := cell_of hp (o := 4) (v := .slice A' ((wo m.props 2).length + 1) c') rfl
        have p5 := cell_of hp (o := 5) (v := .string m.from_) rfl
        have p6 := cell_of hp (o := 6) (v := .int .i64 m.until_) rfl
        have p7 := cell_of hp (o := 7) (v := .int .i64 m.seq) rfl
        have p8 := cell_of hp (o := 8) (v := .string m.group) rfl
        have HTE := Lib.hid (put9_tch w5 (w.heap.size + 1) (.string m.topic) (.string m.payload) (.int .i64 m.qos) (.bool m.retain) (.slice A' ((wo m.props 2).length + 1) c') (.string m.from_) (.int .i64 m.until_) (.int .i64 m.seq) (.string m.group))
        have key : ∀ w6, Tch [w.heap.size + 1] w5 w6 → PP (.returned (.tuple #[.agg #[.string m.topic, .string m.payload, .int .i64 m.qos, .bool m.retain, .slice A' ((wo m.props 2).length + 1) c', .string m.from_, .int .i64 m.until_, .int .i64 m.seq, .string m.group], .bool true])) w6 := by
          intro w6 ht6
          refine HPP.out _ _ ⟨fun h => (by rw [HCF.out] at h; cases h), fun _ => ⟨{ m with pA := A', pc := c', props := wo m.props 2 ++ [⟨2, told m now, ⟨#[]⟩, ⟨#[]⟩⟩] }, ?_, ⟨rfl, rfl, rfl, rfl, ?_, rfl, rfl, rfl, rfl⟩, HR5.out.block ?_⟩, HB5.out.trans (ht6.below HB5.out.size (by intro i hi; simp at hi; omega))⟩
          · unfold Mg.val
            rw [List.length_append]
            rfl
          · unfold leftP
            rw [if_pos HU.out]
          · intro ad hA _ hlt
            refine ht6.block _ hlt ?_
            have h1 := HNQ.out ad hA
            simp
            omega
        have HE := Lib.hid (key _ HTE.out)
        clear key hp
        go_wp2_with fail
        exact bodyPost_ret (v := .tuple #[.agg #[.string m.topic, .string m.payload, .int .i64 m.qos, .bool m.retain, .slice A' ((wo m.props 2).length + 1) c', .string m.from_, .int .i64 m.until_, .int .i64 m.seq, .string m.group], .bool true]) (by simp [results, Try.results9, go_sem, *]) rfl HE.out
set_option maxRecDepth 100000 in
set_option maxHeartbeats 4000000 in
theorem left_3 (m : Mg) (now : Int) (w : World) (hS : Rd w m.pA (m.props.flatMap Prp.cells)) (hl : m.props.length < 100000) (hm : (Lit.int .i64 m.until_).wf = true) (hnow : (Lit.int .i64 now).wf = true) (hc : come m now = false) (hu : 0 < m.until_) (hn : ¬ now < 0) (hd : 4294967295 < m.until_ - now) :
    Calls Try.prog 9 #[m.val, .int .i64 now] w (LPost m now w) := by
  generalize hP : LPost m now w = PP
  have HPP := Lib.hid (show ∀ e w', LPost m now w e w' → PP e w' by intro e w' h; rw [← hP]; exact h)
  clear hP
  have hb0 := alloc_below w (.cells #[.string m.topic, .string m.payload, .int .i64 m.qos, .bool m.retain, .slice m.pA m.props.length m.pc, .string m.from_, .int .i64 m.until_, .int .i64 m.seq, .string m.group] 24)
  have hb1 := alloc_below (w.alloc (.cells #[.string m.topic, .string m.payload, .int .i64 m.qos, .bool m.retain, .slice m.pA m.props.length m.pc, .string m.from_, .int .i64 m.until_, .int .i64 m.seq, .string m.group] 24)) (.cells #[.string ⟨#[]⟩, .string ⟨#[]⟩, .int .i64 0, .bool false, .slice none 0 0, .string ⟨#[]⟩, .int .i64 0, .int .i64 0, .string ⟨#[]⟩] 24)
  have hz0 := heap_alloc_new w (.cells #[.string m.topic, .string m.payload, .int .i64 m.qos, .bool m.retain, .slice m.pA m.props.length m.pc, .string m.from_, .int .i64 m.until_, .int .i64 m.seq, .string m.group] 24)
  have hz1 := heap_alloc_new (w.alloc (.cells #[.string m.topic, .string m.payload, .int .i64 m.qos, .bool m.retain, .slice m.pA m.props.length m.pc, .string m.from_, .int .i64 m.until_, .int .i64 m.seq, .string m.group] 24)) (.cells #[.string ⟨#[]⟩, .string ⟨#[]⟩, .int .i64 0, .bool false, .slice none 0 0, .string ⟨#[]⟩, .int .i64 0, .int .i64 0, .string ⟨#[]⟩] 24)
  have hs0 : (w.alloc (.cells #[.string m.topic, .string m.payload, .int .i64 m.qos, .bool m.retain, .slice m.pA m.props.length m.pc, .string m.from_, .int .i64 m.until_, .int .i64 m.seq, .string m.group] 24)).heap.size = w.heap.size + 1 := by simp
  have hs1 : ((w.alloc (.cells #[.string m.topic, .string m.payload, .int .i64 m.qos, .bool m.retain, .slice m.pA m.props.length m.pc, .string m.from_, .int .i64 m.until_, .int .i64 m.seq, .string m.group] 24)).alloc (.cells #[.string ⟨#[]⟩, .string ⟨#[]⟩, .int .i64 0, .bool false, .slice none 0 0, .string ⟨#[]⟩, .int .i64 0, .int .i64 0, .string ⟨#[]⟩] 24)).heap.size = w.heap.size + 1 + 1 := by simp
  have hbW := hb0.trans (hb1.mono hb0.size)
  have hz0' := (hb1.block w.heap.size (by rw [hs0]; omega)).trans hz0
  rw [hs0] at hz1
  have hSW := hS.below hbW
  have HSW0 := Lib.hid hS
  have hC := come_any m now ((w.alloc (.cells #[.string m.topic, .string m.payload, .int .i64 m.qos, .bool m.retain, .slice m.pA m.props.length m.pc, .string m.from_, .int .i64 m.until_, .int .i64 m.seq, .string m.group] 24)).alloc (.cells #[.string ⟨#[]⟩, .string ⟨#[]⟩, .int .i64 0, .bool false, .slice none 0 0, .string ⟨#[]⟩, .int .i64 0, .int .i64 0, .string ⟨#[]⟩] 24))
  obtain ⟨W, hW⟩ : ∃ W, W = (w.alloc (.cells #[.string m.topic, .string m.payload, .int .i64 m.qos, .bool m.retain, .slice m.pA m.props.length m.pc, .string m.from_, .int .i64 m.until_, .int .i64 m.seq, .string m.group] 24)).alloc (.cells #[.string ⟨#[]⟩, .string ⟨#[]⟩, .int .i64 0, .bool false, .slice none 0 0, .string ⟨#[]⟩, .int .i64 0, .int .i64 0, .string ⟨#[]⟩] 24) := ⟨_, rfl⟩
  have HW := Lib.hid hW
  rw [← hW] at hz0' hz1 hs1 hbW hSW hC
  have HB0 := Lib.hid hbW
  have HZ0 := Lib.hid hz0'
  have HZ1 := Lib.hid hz1
  have HS1 := Lib.hid hs1
  have HSW := Lib.hid hSW
  unfold Mg.val at hC
  have HC := Lib.hid hC
  have HX := Lib.hid (show come m now = (decide (0 < m.until_) && decide (m.until_ ≤ now)) from rfl)
  clear hb0 hb1 hz0 hz1 hs0 hs1 hbW hz0' hS hSW hC hW
  obtain ⟨hm0, hm1⟩ := bounds_i64 hm
  obtain ⟨hn0, hn1⟩ := bounds_i64 hnow
  clear hm hnow
  have a0 : W.cell? ⟨w.heap.size, 0, none⟩ = some (.string m.topic) := cell_of HZ0.out rfl
  have a1 : W.cell? ⟨w.heap.size, 1, none⟩ = some (.string m.payload) := cell_of HZ0.out rfl
  have a2 : W.cell? ⟨w.heap.size, 2, none⟩ = some (.int .i64 m.qos) := cell_of HZ0.out rfl
  have a3 : W.cell? ⟨w.heap.size, 3, none⟩ = some (.bool m.retain) := cell_of HZ0.out rfl
  have a4 : W.cell? ⟨w.heap.size, 4, none⟩ = some (.slice m.pA m.props.length m.pc) := cell_of HZ0.out rfl
  have a5 : W.cell? ⟨w.heap.size, 5, none⟩ = some (.string m.from_) := cell_of HZ0.out rfl
  have a6 : W.cell? ⟨w.heap.size, 6, none⟩ = some (.int .i64 m.until_) := cell_of HZ0.out rfl
  have a7 : W.cell? ⟨w.heap.size, 7, none⟩ = some (.int .i64 m.seq) := cell_of HZ0.out rfl
  have a8 : W.cell? ⟨w.heap.size, 8, none⟩ = some (.string m.group) := cell_of HZ0.out rfl
  unfold Mg.val
  have hto : told m now = 4294967295 := by unfold told; omega
  have HTO := Lib.hid hto
  clear hto
  have hun : ¬ m.until_ ≤ now := by
    intro h
    rw [HX.out, decide_eq_true hu, decide_eq_true h] at hc
    cases hc
  case _ =>
      rw [hc] at HC
      have HCF := Lib.hid hc
      have HU := Lib.hid hu
      have hun : come m now = false := hc
      clear hc hun
      go_enter Try.func9, Try.ntmps9
      go_upto_region 1 with (fail)
      rw [← HW.out]
      clear HW
      go_wp2_with fail
      refine HC.out.mono ?_
      rintro e w2 ⟨rfl, hb⟩
      have hz0 := (hb.block _ (by rw [HS1.out]; omega)).trans HZ0.out
      have hz1 := (hb.block _ (by rw [HS1.out]; omega)).trans HZ1.out
      have HB2 := Lib.hid (HB0.out.trans (hb.mono HB0.out.size))
      have HCL := Lib.hid (cloneP_any w2 m.pA m.pc m.props (HSW.out.below hb) (by omega))
      have H20 := Lib.hid hz0
      have H21 := Lib.hid hz1
      have H2S := Lib.hid hb.size
      clear hb a0 a1 a2 a3 a4 a5 a6 a7 a8
      have a0 : w2.cell? ⟨w.heap.size, 0, none⟩ = some (.string m.topic) := cell_of hz0 rfl
      have a1 : w2.cell? ⟨w.heap.size, 1, none⟩ = some (.string m.payload) := cell_of hz0 rfl
      have a2 : w2.cell? ⟨w.heap.size, 2, none⟩ = some (.int .i64 m.qos) := cell_of hz0 rfl
      have a3 : w2.cell? ⟨w.heap.size, 3, none⟩ = some (.bool m.retain) := cell_of hz0 rfl
      have a4 : w2.cell? ⟨w.heap.size, 4, none⟩ = some (.slice m.pA m.props.length m.pc) := cell_of hz0 rfl
      have a5 : w2.cell? ⟨w.heap.size, 5, none⟩ = some (.string m.from_) := cell_of hz0 rfl
      have a6 : w2.cell? ⟨w.heap.size, 6, none⟩ = some (.int .i64 m.until_) := cell_of hz0 rfl
      have a7 : w2.cell? ⟨w.heap.size, 7, none⟩ = some (.int .i64 m.seq) := cell_of hz0 rfl
      have a8 : w2.cell? ⟨w.heap.size, 8, none⟩ = some (.string m.group) := cell_of hz0 rfl
      clear hz0 hz1
      go_wp2_with fail
      refine HCL.out.mono ?_
      rintro e w3 ⟨⟨v, rfl, hR, hN⟩, hb⟩
      obtain ⟨A1, cA, rfl, hRd⟩ := rd_own hR
      have hz0 := (hb.block _ (by have := lt_of_block H20.out; omega)).trans H20.out
      have hz1 := (hb.block _ (by have := lt_of_block H21.out; omega)).trans H21.out
      have hb3 := HB2.out.trans (hb.mono HB2.out.size)
      have HN3 := Lib.hid (show ∀ ad, A1 = some ad → w.heap.size + 1 + 1 ≤ ad.block by
        intro ad had
        subst had
        have h1 := hN ad.block rfl
        have h2 := H2S.out
        rw [HS1.out] at h2
        omega)
      have x4 : w3.cell? ⟨w.heap.size, 4, none⟩ = some (.slice m.pA m.props.length m.pc) := cell_of hz0 rfl
      have xf := free_of hz0 4
      have hz5 : (w3.setCell ⟨w.heap.size, 4, none⟩ (.slice A1 m.props.length cA)).heap[w.heap.size]? = some (.cells #[.string m.topic, .string m.payload, .int .i64 m.qos, .bool m.retain, .slice A1 m.props.length cA, .string m.from_, .int .i64 m.until_, .int .i64 m.seq, .string m.group] 24 (0, 0)) := set_of hz0 4 _
      have hz6 : (w3.setCell ⟨w.heap.size, 4, none⟩ (.slice A1 m.props.length cA)).heap[w.heap.size + 1]? = some (.cells #[.string ⟨#[]⟩, .string ⟨#[]⟩, .int .i64 0, .bool false, .slice none 0 0, .string ⟨#[]⟩, .int .i64 0, .int .i64 0, .string ⟨#[]⟩] 24 (0, 0)) := (set_other (p := ⟨w.heap.size, 4, none⟩) (by simp) _).trans hz1
      obtain ⟨wA, hwA⟩ : ∃ wA, wA = w3.setCell ⟨w.heap.size, 4, none⟩ (.slice A1 m.props.length cA) := ⟨_, rfl⟩
      have hbA : Below w.heap.size w wA := by
        rw [hwA]
        exact (((Tch.of_below (S := []) hb3).setCell (p := ⟨w.heap.size, 4, none⟩) (.inr (Nat.le_refl _)) _).below (Nat.le_refl _) (by simp))
      have hrA : Rd wA A1 (m.props.flatMap Prp.cells) := by
        rw [hwA]
        refine hRd.block ?_
        intro ad hA _ _
        have h1 := HN3.out ad hA
        exact set_other (p := ⟨w.heap.size, 4, none⟩) (by simp; omega) _
      rw [← hwA] at hz5 hz6
      have HA0 := Lib.hid hz5
      have HA1 := Lib.hid hz6
      have HBA := Lib.hid hbA
      have HRA := Lib.hid hrA
      have HWA := Lib.hid hwA.symm
      clear hb hz0 hz1 hb3 hR hN hRd hz5 hz6 hbA hrA hwA a0 a1 a2 a3 a4 a5 a6 a7 a8
      have HWO := Lib.hid (fun W (hb : Below wA.heap.size wA W) => without_any W A1 cA m.props (HRA.out.below hb) (by omega) 2)
      have HWA' := HWA.out
      have z6 : wA.cell? ⟨w.heap.size, 6, none⟩ = some (.int .i64 m.until_) := cell_of HA0.out rfl
      go_upto_region 5 with (fail)
      clear HWA' HWA x4 xf z6
      have r4 := fun n : Wd (Gr wA) => n.cell (cell_of HA0.out (o := 4) (v := .slice A1 m.props.length cA) rfl)
      have r6 := fun n : Wd (Gr wA) => n.cell (cell_of HA0.out (o := 6) (v := .int .i64 m.until_) rfl)
      refine wp_region_G (n := 14) (Gr wA) rfl (by kernel_rfl) (gr_drew wA) (fun hS => ?_)
      refine wpAnyG_seg (fuel := 5) [0, 1, 3, 4, 5, 6, 7, 8, 9] rfl rfl (by kernel_rfl) (fun _ _ d _ _ h => by cases d <;> exact h) hS ?_
      repeat (go_big_quiet_step (fail))
      refine wpQuiet_nil ?_
      clear r4 r6
      refine wpAnyG_two (fuel := 4) 2 10 (by kernel_rfl) rfl rfl (fun K hK => ?_) (fun K hK => ?_)
      case _ =>
        go_simp
        refine (HWO.out _ hS).mono ?_
        rintro e w4 ⟨⟨v, rfl, hR, hN⟩, hb⟩
        have hs4 := hS.trans (hb.mono hS.size)
        have HS4 := Lib.hid hs4
        have h40 := (hs4.block _ (lt_of_block HA0.out)).trans HA0.out
        have h41 := (hs4.block _ (lt_of_block HA1.out)).trans HA1.out
        have hba := alloc_below w4 (.cells #[.int .i64 2, .int .i64 (4294967295), .string ⟨#[]⟩, .string ⟨#[]⟩] 56)
        have HP0 := Lib.hid ((hba.block _ (lt_of_block h40)).trans h40)
        have HP1 := Lib.hid ((hba.block _ (lt_of_block h41)).trans h41)
        have HBLK := Lib.hid (heap_alloc_new w4 (.cells #[.int .i64 2, .int .i64 (4294967295), .string ⟨#[]⟩, .string ⟨#[]⟩] 56))
        have HSP := Lib.hid (hs4.trans (hba.mono hs4.size))
        have HO := Lib.hid (hR.alloc (.cells #[.int .i64 2, .int .i64 (4294967295), .string ⟨#[]⟩, .string ⟨#[]⟩] 56))
        have HNV := Lib.hid (show ∀ g, v.ownBlock = some g → wA.heap.size ≤ g by
          intro g hg
          have h1 := hN g hg
          have h2 := hS.size
          omega)
        clear hs4 h40 h41 hba hR hN hb
        go_wp2_with fail
        refine hK.out (Gr wA) _ _ (fun _ h => h) HS4.out (fun hS => ?_)
        clear hK K
        refine wpAnyG_alone (fuel := 3) 10 (by kernel_rfl) rfl hS (fun K hK => ?_)
        go_simp
        refine hK.out (Gr wA) _ _ (fun _ h => h) HSP.out (fun hS => ?_)
        clear hK K
        refine wpAnyG_alone (fuel := 2) 11 (by kernel_rfl) rfl hS (fun K hK => ?_)
        
        obtain ⟨i0, hi, y0, y1, y2⟩ := info_parts info56
        have hwl := wo_le m.props 2
        obtain ⟨v', wQ, hr, ho, ht, hloc⟩ := append_list (P := Try.prog) (ty := 22) Try.underlying22 hi y0 y1 y2 rfl (by decide) HO.out (some ⟨w4.heap.size, 0, none⟩) 1 1 (Prp.cells ⟨2, 4294967295, ⟨#[]⟩, ⟨#[]⟩⟩) rfl (fun _ => ⟨_, rfl, fun j u hu => by
          rw [add_plain, Nat.zero_add]
          exact cell_of HBLK.out (by simpa [Prp.cells] using hu)⟩) (by simpa using prp_one [⟨2, 4294967295, ⟨#[]⟩, ⟨#[]⟩⟩]) (by unfold maxLen; omega) (by omega)
        obtain ⟨A', c', rfl, hRd⟩ := rd_own ho
        have hq0 := (ht.block _ (lt_of_block HP0.out) (by intro h; have := HNV.out _ (by simpa using h); have := lt_of_block HA0.out; omega)).trans HP0.out
        have hq1 := (ht.block _ (lt_of_block HP1.out) (by intro h; have := HNV.out _ (by simpa using h); have := lt_of_block HA1.out; omega)).trans HP1.out
        have HQ0 := Lib.hid hq0
        have HQ1 := Lib.hid hq1
        have HRUN := Lib.hid hr
        have hS1 := HSP.out.trans (ht.below HSP.out.size (by intro i hi; exact HNV.out i (by simpa using hi)))
        have HSQ := Lib.hid hS1
        have HBQ := Lib.hid (HBA.out.trans (hS1.mono HBA.out.size))
        have HNQ := Lib.hid (show ∀ ad, A' = some ad → w.heap.size + 1 + 1 ≤ ad.block by
          intro ad had
          subst had
          have h9 := lt_of_block HA1.out
          rcases hloc ad.block rfl with h | h
          · have := HNV.out _ h
            omega
          · have := HSP.out.size
            omega)
        have HRQ := Lib.hid (show Rd wQ A' ((wo m.props 2).flatMap Prp.cells ++ [(⟨2, told m now, ⟨#[]⟩, ⟨#[]⟩⟩ : Prp)].flatMap Prp.cells) by rw [HTO.out]; simpa using hRd)
        clear hi y0 y1 y2 hr ho ht hloc hRd hq0 hq1 hS1
        
        refine step_append_eq (by rfl) _ _ _ (by rfl) (by rfl) (by rfl) HRUN.out ?_
        go_simp
        refine hK.out (Gr wA) _ _ (fun _ h => h) HSQ.out (fun hS => ?_)
        clear hK K
        refine wpAnyG_seg (fuel := 1) [12] rfl rfl (by kernel_rfl) (fun _ _ d _ _ h => by cases d <;> exact h) hS ?_
        repeat (go_big_quiet_step (fail))
        refine wpQuiet_nil ?_
        refine wpAnyG_sealed (fuel := 0) 13 (by kernel_rfl) (by kernel_rfl) rfl (fun K hK => ?_)
        have x4 : wQ.cell? ⟨w.heap.size, 4, none⟩ = some (.slice A1 m.props.length cA) := cell_of HQ0.out rfl
        have xf := free_of HQ0.out 4
        have hz5 : (wQ.setCell ⟨w.heap.size, 4, none⟩ (.slice A' ((wo m.props 2).length + 1) c')).heap[w.heap.size]? = some (.cells #[.string m.topic, .string m.payload, .int .i64 m.qos, .bool m.retain, .slice A' ((wo m.props 2).length + 1) c', .string m.from_, .int .i64 m.until_, .int .i64 m.seq, .string m.group] 24 (0, 0)) := set_of HQ0.out 4 _
        have hz6 : (wQ.setCell ⟨w.heap.size, 4, none⟩ (.slice A' ((wo m.props 2).length + 1) c')).heap[w.heap.size + 1]? = some (.cells #[.string ⟨#[]⟩, .string ⟨#[]⟩, .int .i64 0, .bool false, .slice none 0 0, .string ⟨#[]⟩, .int .i64 0, .int .i64 0, .string ⟨#[]⟩] 24 (0, 0)) := (set_other (p := ⟨w.heap.size, 4, none⟩) (by simp) _).trans HQ1.out
        obtain ⟨w5, hw5⟩ : ∃ w5, w5 = wQ.setCell ⟨w.heap.size, 4, none⟩ (.slice A' ((wo m.props 2).length + 1) c') := ⟨_, rfl⟩
        have hb5 : Below w.heap.size w w5 := by
          rw [hw5]
          exact (((Tch.of_below (S := []) HBQ.out).setCell (p := ⟨w.heap.size, 4, none⟩) (.inr (Nat.le_refl _)) _).below (Nat.le_refl _) (by simp))
        have hr5 : Rd w5 A' ((wo m.props 2 ++ [(⟨2, told m now, ⟨#[]⟩, ⟨#[]⟩⟩ : Prp)]).flatMap Prp.cells) := by
          rw [List.flatMap_append, hw5]
          refine HRQ.out.block ?_
          intro ad hA _ _
          have h1 := HNQ.out ad hA
          exact set_other (p := ⟨w.heap.size, 4, none⟩) (by simp; omega) _
        rw [← hw5] at hz5 hz6
        have H50 := Lib.hid hz5
        have H51 := Lib.hid hz6
        have HB5 := Lib.hid hb5
        have HR5 := Lib.hid hr5
        have HW5 := Lib.hid hw5.symm
        clear hw5 hz5 hz6 hb5 hr5
        go_simp
        refine hK.out (fun _ => True) _ _ trivial (fun hS => ?_)
        clear hK K hS x4 xf
        refine wpAnyG_end (by kernel_rfl) ?_
        rw [HW5.out]
        have r0 : w5.cell? ⟨w.heap.size, 0, none⟩ = some (.string m.topic) := cell_of H50.out rfl
        have r1 : w5.cell? ⟨w.heap.size, 1, none⟩ = some (.string m.payload) := cell_of H50.out rfl
        have r2 : w5.cell? ⟨w.heap.size, 2, none⟩ = some (.int .i64 m.qos) := cell_of H50.out rfl
        have r3 : w5.cell? ⟨w.heap.size, 3, none⟩ = some (.bool m.retain) := cell_of H50.out rfl
        have r4 : w5.cell? ⟨w.heap.size, 4, none⟩ = some (.slice A' ((wo m.props 2).length + 1) c') := cell_of H50.out rfl
        have r5 : w5.cell? ⟨w.heap.size, 5, none⟩ = some (.string m.from_) := cell_of H50.out rfl
        have r6 : w5.cell? ⟨w.heap.size, 6, none⟩ = some (.int .i64 m.until_) := cell_of H50.out rfl
        have r7 : w5.cell? ⟨w.heap.size, 7, none⟩ = some (.int .i64 m.seq) := cell_of H50.out rfl
        have r8 : w5.cell? ⟨w.heap.size, 8, none⟩ = some (.string m.group) := cell_of H50.out rfl
        have c0 : w5.cell? ⟨w.heap.size + 1, 0, none⟩ = some (.string ⟨#[]⟩) := cell_of H51.out rfl
        have c1 : w5.cell? ⟨w.heap.size + 1, 1, none⟩ = some (.string ⟨#[]⟩) := cell_of H51.out rfl
        have c2 : w5.cell? ⟨w.heap.size + 1, 2, none⟩ = some (.int .i64 0) := cell_of H51.out rfl
        have c3 : w5.cell? ⟨w.heap.size + 1, 3, none⟩ = some (.bool false) := cell_of H51.out rfl
        have c4 : w5.cell? ⟨w.heap.size + 1, 4, none⟩ = some (.slice none 0 0) := cell_of H51.out rfl
        have c5 : w5.cell? ⟨w.heap.size + 1, 5, none⟩ = some (.string ⟨#[]⟩) := cell_of H51.out rfl
        have c6 : w5.cell? ⟨w.heap.size + 1, 6, none⟩ = some (.int .i64 0) := cell_of H51.out rfl
        have c7 : w5.cell? ⟨w.heap.size + 1, 7, none⟩ = some (.int .i64 0) := cell_of H51.out rfl
        have c8 : w5.cell? ⟨w.heap.size + 1, 8, none⟩ = some (.string ⟨#[]⟩) := cell_of H51.out rfl
        have f0 := free_of H51.out 0
        have f1 := free_of H51.out 1
        have f2 := free_of H51.out 2
        have f3 := free_of H51.out 3
        have f4 := free_of H51.out 4
        have f5 := free_of H51.out 5
        have f6 := free_of H51.out 6
        have f7 := free_of H51.out 7
        have f8 := free_of H51.out 8
        have hp := put9 H51.out (.string m.topic) (.string m.payload) (.int .i64 m.qos) (.bool m.retain) (.slice A' ((wo m.props 2).length + 1) c') (.string m.from_) (.int .i64 m.until_) (.int .i64 m.seq) (.string m.group)
        have p0 := cell_of hp (o := 0) (v := .string m.topic) rfl
        have p1 := cell_of hp (o := 1) (v := .string m.payload) rfl
        have p2 := cell_of hp (o := 2) (v := .int .i64 m.qos) rfl
        have p3 := cell_of hp (o := 3) (v := .bool m.retain) rfl
        have p4 := cell_of hp (o := 4) (v := .slice A' ((wo m.props 2).length + 1) c') rfl
        have p5 := cell_of hp (o := 5) (v := .string m.from_) rfl
        have p6 := cell_of hp (o := 6) (v := .int .i64 m.until_) rfl
        have p7 := cell_of hp (o := 7) (v := .int .i64 m.seq) rfl
        have p8 := cell_of hp (o := 8) (v := .string m.group) rfl
        have HTE := Lib.hid (put9_tch w5 (w.heap.size + 1) (.string m.topic) (.string m.payload) (.int .i64 m.qos) (.bool m.retain) (.slice A' ((wo m.props 2).length + 1) c') (.string m.from_) (.int .i64 m.until_) (.int .i64 m.seq) (.string m.group))
        have key : ∀ w6, Tch [w.heap.size + 1] w5 w6 → PP (.returned (.tuple #[.agg #[.string m.topic, .string m.payload, .int .i64 m.qos, .bool m.retain, .slice A' ((wo m.props 2).length + 1) c', .string m.from_, .int .i64 m.until_, .int .i64 m.seq, .string m.group], .bool true])) w6 := by
          intro w6 ht6
          refine HPP.out _ _ ⟨fun h => (by rw [HCF.out] at h; cases h), fun _ => ⟨{ m with pA := A', pc := c', props := wo m.props 2 ++ [⟨2, told m now, ⟨#[]⟩, ⟨#[]⟩⟩] }, ?_, ⟨rfl, rfl, rfl, rfl, ?_, rfl, rfl, rfl, rfl⟩, HR5.out.block ?_⟩, HB5.out.trans (ht6.below HB5.out.size (by intro i hi; simp at hi; omega))⟩
          · unfold Mg.val
            rw [List.length_append]
            rfl
          · unfold leftP
            rw [if_pos HU.out]
          · intro ad hA _ hlt
            refine ht6.block _ hlt ?_
            have h1 := HNQ.out ad hA
            simp
            omega
        have HE := Lib.hid (key _ HTE.out)
        clear key hp
        go_wp2_with fail
        exact bodyPost_ret (v := .tuple #[.agg #[.string m.topic, .string m.payload, .int .i64 m.qos, .bool m.retain, .slice A' ((wo m.props 2).length + 1) c', .string m.from_, .int .i64 m.until_, .int .i64 m.seq, .string m.group], .bool true]) (by simp [results, Try.results9, go_sem, *]) rfl HE.out
      case _ =>
        go_simp
        have hd0 : Below wA.heap.size wA (wA.alloc (.cells #[.int .i64 2, .int .i64 (4294967295), .string ⟨#[]⟩, .string ⟨#[]⟩] 56)).drew := (alloc_below wA (.cells #[.int .i64 2, .int .i64 (4294967295), .string ⟨#[]⟩, .string ⟨#[]⟩] 56)).trans (below_drewN (Below.refl _ _) 1)
        refine hK.out (Gr wA) _ _ (fun _ h => h) hd0 (fun hS => ?_)
        clear hK K hd0
        refine wpAnyG_alone (fuel := 3) 2 (by kernel_rfl) rfl hS (fun K hK => ?_)
        go_simp
        refine (HWO.out _ hS).mono ?_
        rintro e w4 ⟨⟨v, rfl, hR, hN⟩, hb⟩
        have hs4 := hS.trans (hb.mono hS.size)
        have HSP := Lib.hid hs4
        have HP0 := Lib.hid ((hs4.block _ (lt_of_block HA0.out)).trans HA0.out)
        have HP1 := Lib.hid ((hs4.block _ (lt_of_block HA1.out)).trans HA1.out)
        have HBLK := Lib.hid (show w4.heap[wA.heap.size]? = some (.cells #[.int .i64 2, .int .i64 (4294967295), .string ⟨#[]⟩, .string ⟨#[]⟩] 56) from (hb.block wA.heap.size (by simp)).trans (heap_alloc_new wA (.cells #[.int .i64 2, .int .i64 (4294967295), .string ⟨#[]⟩, .string ⟨#[]⟩] 56)))
        have HO := Lib.hid hR
        have HNV := Lib.hid (show ∀ g, v.ownBlock = some g → wA.heap.size ≤ g by
          intro g hg
          have h1 := hN g hg
          have h2 := hS.size
          omega)
        clear hs4 hR hN hb
        go_wp2_with fail
        refine hK.out (Gr wA) _ _ (fun _ h => h) HSP.out (fun hS => ?_)
        clear hK K
        refine wpAnyG_alone (fuel := 2) 11 (by kernel_rfl) rfl hS (fun K hK => ?_)
        
        obtain ⟨i0, hi, y0, y1, y2⟩ := info_parts info56
        have hwl := wo_le m.props 2
        obtain ⟨v', wQ, hr, ho, ht, hloc⟩ := append_list (P := Try.prog) (ty := 22) Try.underlying22 hi y0 y1 y2 rfl (by decide) HO.out (some ⟨wA.heap.size, 0, none⟩) 1 1 (Prp.cells ⟨2, 4294967295, ⟨#[]⟩, ⟨#[]⟩⟩) rfl (fun _ => ⟨_, rfl, fun j u hu => by
          rw [add_plain, Nat.zero_add]
          exact cell_of HBLK.out (by simpa [Prp.cells] using hu)⟩) (by simpa using prp_one [⟨2, 4294967295, ⟨#[]⟩, ⟨#[]⟩⟩]) (by unfold maxLen; omega) (by omega)
        obtain ⟨A', c', rfl, hRd⟩ := rd_own ho
        have hq0 := (ht.block _ (lt_of_block HP0.out) (by intro h; have := HNV.out _ (by simpa using h); have := lt_of_block HA0.out; omega)).trans HP0.out
        have hq1 := (ht.block _ (lt_of_block HP1.out) (by intro h; have := HNV.out _ (by simpa using h); have := lt_of_block HA1.out; omega)).trans HP1.out
        have HQ0 := Lib.hid hq0
        have HQ1 := Lib.hid hq1
        have HRUN := Lib.hid hr
        have hS1 := HSP.out.trans (ht.below HSP.out.size (by intro i hi; exact HNV.out i (by simpa using hi)))
        have HSQ := Lib.hid hS1
        have HBQ := Lib.hid (HBA.out.trans (hS1.mono HBA.out.size))
        have HNQ := Lib.hid (show ∀ ad, A' = some ad → w.heap.size + 1 + 1 ≤ ad.block by
          intro ad had
          subst had
          have h9 := lt_of_block HA1.out
          rcases hloc ad.block rfl with h | h
          · have := HNV.out _ h
            omega
          · have := HSP.out.size
            omega)
        have HRQ := Lib.hid (show Rd wQ A' ((wo m.props 2).flatMap Prp.cells ++ [(⟨2, told m now, ⟨#[]⟩, ⟨#[]⟩⟩ : Prp)].flatMap Prp.cells) by rw [HTO.out]; simpa using hRd)
        clear hi y0 y1 y2 hr ho ht hloc hRd hq0 hq1 hS1
        
        refine step_append_eq (by rfl) _ _ _ (by rfl) (by rfl) (by rfl) HRUN.out ?_
        go_simp
        refine hK.out (Gr wA) _ _ (fun _ h => h) HSQ.out (fun hS => ?_)
        clear hK K
        refine wpAnyG_seg (fuel := 1) [12] rfl rfl (by kernel_rfl) (fun _ _ d _ _ h => by cases d <;> exact h) hS ?_
        repeat (go_big_quiet_step (fail))
        refine wpQuiet_nil ?_
        refine wpAnyG_sealed (fuel := 0) 13 (by kernel_rfl) (by kernel_rfl) rfl (fun K hK => ?_)
        have x4 : wQ.cell? ⟨w.heap.size, 4, none⟩ = some (.slice A1 m.props.length cA) := cell_of HQ0.out rfl
        have xf := free_of HQ0.out 4
        have hz5 : (wQ.setCell ⟨w.heap.size, 4, none⟩ (.slice A' ((wo m.props 2).length + 1) c')).heap[w.heap.size]? = some (.cells #[.string m.topic, .string m.payload, .int .i64 m.qos, .bool m.retain, .slice A' ((wo m.props 2).length + 1) c', .string m.from_, .int .i64 m.until_, .int .i64 m.seq, .string m.group] 24 (0, 0)) := set_of HQ0.out 4 _
        have hz6 : (wQ.setCell ⟨w.heap.size, 4, none⟩ (.slice A' ((wo m.props 2).length + 1) c')).heap[w.heap.size + 1]? = some (.cells #[.string ⟨#[]⟩, .string ⟨#[]⟩, .int .i64 0, .bool false, .slice none 0 0, .string ⟨#[]⟩, .int .i64 0, .int .i64 0, .string ⟨#[]⟩] 24 (0, 0)) := (set_other (p := ⟨w.heap.size, 4, none⟩) (by simp) _).trans HQ1.out
        obtain ⟨w5, hw5⟩ : ∃ w5, w5 = wQ.setCell ⟨w.heap.size, 4, none⟩ (.slice A' ((wo m.props 2).length + 1) c') := ⟨_, rfl⟩
        have hb5 : Below w.heap.size w w5 := by
          rw [hw5]
          exact (((Tch.of_below (S := []) HBQ.out).setCell (p := ⟨w.heap.size, 4, none⟩) (.inr (Nat.le_refl _)) _).below (Nat.le_refl _) (by simp))
        have hr5 : Rd w5 A' ((wo m.props 2 ++ [(⟨2, told m now, ⟨#[]⟩, ⟨#[]⟩⟩ : Prp)]).flatMap Prp.cells) := by
          rw [List.flatMap_append, hw5]
          refine HRQ.out.block ?_
          intro ad hA _ _
          have h1 := HNQ.out ad hA
          exact set_other (p := ⟨w.heap.size, 4, none⟩) (by simp; omega) _
        rw [← hw5] at hz5 hz6
        have H50 := Lib.hid hz5
        have H51 := Lib.hid hz6
        have HB5 := Lib.hid hb5
        have HR5 := Lib.hid hr5
        have HW5 := Lib.hid hw5.symm
        clear hw5 hz5 hz6 hb5 hr5
        go_simp
        refine hK.out (fun _ => True) _ _ trivial (fun hS => ?_)
        clear hK K hS x4 xf
        refine wpAnyG_end (by kernel_rfl) ?_
        rw [HW5.out]
        have r0 : w5.cell? ⟨w.heap.size, 0, none⟩ = some (.string m.topic) := cell_of H50.out rfl
        have r1 : w5.cell? ⟨w.heap.size, 1, none⟩ = some (.string m.payload) := cell_of H50.out rfl
        have r2 : w5.cell? ⟨w.heap.size, 2, none⟩ = some (.int .i64 m.qos) := cell_of H50.out rfl
        have r3 : w5.cell? ⟨w.heap.size, 3, none⟩ = some (.bool m.retain) := cell_of H50.out rfl
        have r4 : w5.cell? ⟨w.heap.size, 4, none⟩ = some (.slice A' ((wo m.props 2).length + 1) c') := cell_of H50.out rfl
        have r5 : w5.cell? ⟨w.heap.size, 5, none⟩ = some (.string m.from_) := cell_of H50.out rfl
        have r6 : w5.cell? ⟨w.heap.size, 6, none⟩ = some (.int .i64 m.until_) := cell_of H50.out rfl
        have r7 : w5.cell? ⟨w.heap.size, 7, none⟩ = some (.int .i64 m.seq) := cell_of H50.out rfl
        have r8 : w5.cell? ⟨w.heap.size, 8, none⟩ = some (.string m.group) := cell_of H50.out rfl
        have c0 : w5.cell? ⟨w.heap.size + 1, 0, none⟩ = some (.string ⟨#[]⟩) := cell_of H51.out rfl
        have c1 : w5.cell? ⟨w.heap.size + 1, 1, none⟩ = some (.string ⟨#[]⟩) := cell_of H51.out rfl
        have c2 : w5.cell? ⟨w.heap.size + 1, 2, none⟩ = some (.int .i64 0) := cell_of H51.out rfl
        have c3 : w5.cell? ⟨w.heap.size + 1, 3, none⟩ = some (.bool false) := cell_of H51.out rfl
        have c4 : w5.cell? ⟨w.heap.size + 1, 4, none⟩ = some (.slice none 0 0) := cell_of H51.out rfl
        have c5 : w5.cell? ⟨w.heap.size + 1, 5, none⟩ = some (.string ⟨#[]⟩) := cell_of H51.out rfl
        have c6 : w5.cell? ⟨w.heap.size + 1, 6, none⟩ = some (.int .i64 0) := cell_of H51.out rfl
        have c7 : w5.cell? ⟨w.heap.size + 1, 7, none⟩ = some (.int .i64 0) := cell_of H51.out rfl
        have c8 : w5.cell? ⟨w.heap.size + 1, 8, none⟩ = some (.string ⟨#[]⟩) := cell_of H51.out rfl
        have f0 := free_of H51.out 0
        have f1 := free_of H51.out 1
        have f2 := free_of H51.out 2
        have f3 := free_of H51.out 3
        have f4 := free_of H51.out 4
        have f5 := free_of H51.out 5
        have f6 := free_of H51.out 6
        have f7 := free_of H51.out 7
        have f8 := free_of H51.out 8
        have hp := put9 H51.out (.string m.topic) (.string m.payload) (.int .i64 m.qos) (.bool m.retain) (.slice A' ((wo m.props 2).length + 1) c') (.string m.from_) (.int .i64 m.until_) (.int .i64 m.seq) (.string m.group)
        have p0 := cell_of hp (o := 0) (v := .string m.topic) rfl
        have p1 := cell_of hp (o := 1) (v := .string m.payload) rfl
        have p2 := cell_of hp (o := 2) (v := .int .i64 m.qos) rfl
        have p3 := cell_of hp (o := 3) (v := .bool m.retain) rfl
        have p4 := cell_of hp (o := 4) (v := .slice A' ((wo m.props 2).length + 1) c') rfl
        have p5 := cell_of hp (o := 5) (v := .string m.from_) rfl
        have p6 := cell_of hp (o := 6) (v := .int .i64 m.until_) rfl
        have p7 := cell_of hp (o := 7) (v := .int .i64 m.seq) rfl
        have p8 := cell_of hp (o := 8) (v := .string m.group) rfl
        have HTE := Lib.hid (put9_tch w5 (w.heap.size + 1) (.string m.topic) (.string m.payload) (.int .i64 m.qos) (.bool m.retain) (.slice A' ((wo m.props 2).length + 1) c') (.string m.from_) (.int .i64 m.until_) (.int .i64 m.seq) (.string m.group))
        have key : ∀ w6, Tch [w.heap.size + 1] w5 w6 → PP (.returned (.tuple #[.agg #[.string m.topic, .string m.payload, .int .i64 m.qos, .bool m.retain, .slice A' ((wo m.props 2).length + 1) c', .string m.from_, .int .i64 m.until_, .int .i64 m.seq, .string m.group], .bool true])) w6 := by
          intro w6 ht6
          refine HPP.out _ _ ⟨fun h => (by rw [HCF.out] at h; cases h), fun _ => ⟨{ m with pA := A', pc := c', props := wo m.props 2 ++ [⟨2, told m now, ⟨#[]⟩, ⟨#[]⟩⟩] }, ?_, ⟨rfl, rfl, rfl, rfl, ?_, rfl, rfl, rfl, rfl⟩, HR5.out.block ?_⟩, HB5.out.trans (ht6.below HB5.out.size (by intro i hi; simp at hi; omega))⟩
          · unfold Mg.val
            rw [List.length_append]
            rfl
          · unfold leftP
            rw [if_pos HU.out]
          · intro ad hA _ hlt
            refine ht6.block _ hlt ?_
            have h1 := HNQ.out ad hA
            simp
            omega
        have HE := Lib.hid (key _ HTE.out)
        clear key hp
        go_wp2_with fail
        exact bodyPost_ret (v := .tuple #[.agg #[.string m.topic, .string m.payload, .int .i64 m.qos, .bool m.retain, .slice A' ((wo m.props 2).length + 1) c', .string m.from_, .int .i64 m.until_, .int .i64 m.seq, .string m.group], .bool true]) (by simp [results, Try.results9, go_sem, *]) rfl HE.out
set_option maxRecDepth 100000 in
set_option maxHeartbeats 4000000 in
theorem left_4 (m : Mg) (now : Int) (w : World) (hS : Rd w m.pA (m.props.flatMap Prp.cells)) (hl : m.props.length < 100000) (hm : (Lit.int .i64 m.until_).wf = true) (hnow : (Lit.int .i64 now).wf = true) (hc : come m now = false) (hu : 0 < m.until_) (hn : ¬ now < 0) (hd : ¬ 4294967295 < m.until_ - now) :
    Calls Try.prog 9 #[m.val, .int .i64 now] w (LPost m now w) := by
  generalize hP : LPost m now w = PP
  have HPP := Lib.hid (show ∀ e w', LPost m now w e w' → PP e w' by intro e w' h; rw [← hP]; exact h)
  clear hP
  have hb0 := alloc_below w (.cells #[.string m.topic, .string m.payload, .int .i64 m.qos, .bool m.retain, .slice m.pA m.props.length m.pc, .string m.from_, .int .i64 m.until_, .int .i64 m.seq, .string m.group] 24)
  have hb1 := alloc_below (w.alloc (.cells #[.string m.topic, .string m.payload, .int .i64 m.qos, .bool m.retain, .slice m.pA m.props.length m.pc, .string m.from_, .int .i64 m.until_, .int .i64 m.seq, .string m.group] 24)) (.cells #[.string ⟨#[]⟩, .string ⟨#[]⟩, .int .i64 0, .bool false, .slice none 0 0, .string ⟨#[]⟩, .int .i64 0, .int .i64 0, .string ⟨#[]⟩] 24)
  have hz0 := heap_alloc_new w (.cells #[.string m.topic, .string m.payload, .int .i64 m.qos, .bool m.retain, .slice m.pA m.props.length m.pc, .string m.from_, .int .i64 m.until_, .int .i64 m.seq, .string m.group] 24)
  have hz1 := heap_alloc_new (w.alloc (.cells #[.string m.topic, .string m.payload, .int .i64 m.qos, .bool m.retain, .slice m.pA m.props.length m.pc, .string m.from_, .int .i64 m.until_, .int .i64 m.seq, .string m.group] 24)) (.cells #[.string ⟨#[]⟩, .string ⟨#[]⟩, .int .i64 0, .bool false, .slice none 0 0, .string ⟨#[]⟩, .int .i64 0, .int .i64 0, .string ⟨#[]⟩] 24)
  have hs0 : (w.alloc (.cells #[.string m.topic, .string m.payload, .int .i64 m.qos, .bool m.retain, .slice m.pA m.props.length m.pc, .string m.from_, .int .i64 m.until_, .int .i64 m.seq, .string m.group] 24)).heap.size = w.heap.size + 1 := by simp
  have hs1 : ((w.alloc (.cells #[.string m.topic, .string m.payload, .int .i64 m.qos, .bool m.retain, .slice m.pA m.props.length m.pc, .string m.from_, .int .i64 m.until_, .int .i64 m.seq, .string m.group] 24)).alloc (.cells #[.string ⟨#[]⟩, .string ⟨#[]⟩, .int .i64 0, .bool false, .slice none 0 0, .string ⟨#[]⟩, .int .i64 0, .int .i64 0, .string ⟨#[]⟩] 24)).heap.size = w.heap.size + 1 + 1 := by simp
  have hbW := hb0.trans (hb1.mono hb0.size)
  have hz0' := (hb1.block w.heap.size (by rw [hs0]; omega)).trans hz0
  rw [hs0] at hz1
  have hSW := hS.below hbW
  have HSW0 := Lib.hid hS
  have hC := come_any m now ((w.alloc (.cells #[.string m.topic, .string m.payload, .int .i64 m.qos, .bool m.retain, .slice m.pA m.props.length m.pc, .string m.from_, .int .i64 m.until_, .int .i64 m.seq, .string m.group] 24)).alloc (.cells #[.string ⟨#[]⟩, .string ⟨#[]⟩, .int .i64 0, .bool false, .slice none 0 0, .string ⟨#[]⟩, .int .i64 0, .int .i64 0, .string ⟨#[]⟩] 24))
  obtain ⟨W, hW⟩ : ∃ W, W = (w.alloc (.cells #[.string m.topic, .string m.payload, .int .i64 m.qos, .bool m.retain, .slice m.pA m.props.length m.pc, .string m.from_, .int .i64 m.until_, .int .i64 m.seq, .string m.group] 24)).alloc (.cells #[.string ⟨#[]⟩, .string ⟨#[]⟩, .int .i64 0, .bool false, .slice none 0 0, .string ⟨#[]⟩, .int .i64 0, .int .i64 0, .string ⟨#[]⟩] 24) := ⟨_, rfl⟩
  have HW := Lib.hid hW
  rw [← hW] at hz0' hz1 hs1 hbW hSW hC
  have HB0 := Lib.hid hbW
  have HZ0 := Lib.hid hz0'
  have HZ1 := Lib.hid hz1
  have HS1 := Lib.hid hs1
  have HSW := Lib.hid hSW
  unfold Mg.val at hC
  have HC := Lib.hid hC
  have HX := Lib.hid (show come m now = (decide (0 < m.until_) && decide (m.until_ ≤ now)) from rfl)
  clear hb0 hb1 hz0 hz1 hs0 hs1 hbW hz0' hS hSW hC hW
  obtain ⟨hm0, hm1⟩ := bounds_i64 hm
  obtain ⟨hn0, hn1⟩ := bounds_i64 hnow
  clear hm hnow
  have a0 : W.cell? ⟨w.heap.size, 0, none⟩ = some (.string m.topic) := cell_of HZ0.out rfl
  have a1 : W.cell? ⟨w.heap.size, 1, none⟩ = some (.string m.payload) := cell_of HZ0.out rfl
  have a2 : W.cell? ⟨w.heap.size, 2, none⟩ = some (.int .i64 m.qos) := cell_of HZ0.out rfl
  have a3 : W.cell? ⟨w.heap.size, 3, none⟩ = some (.bool m.retain) := cell_of HZ0.out rfl
  have a4 : W.cell? ⟨w.heap.size, 4, none⟩ = some (.slice m.pA m.props.length m.pc) := cell_of HZ0.out rfl
  have a5 : W.cell? ⟨w.heap.size, 5, none⟩ = some (.string m.from_) := cell_of HZ0.out rfl
  have a6 : W.cell? ⟨w.heap.size, 6, none⟩ = some (.int .i64 m.until_) := cell_of HZ0.out rfl
  have a7 : W.cell? ⟨w.heap.size, 7, none⟩ = some (.int .i64 m.seq) := cell_of HZ0.out rfl
  have a8 : W.cell? ⟨w.heap.size, 8, none⟩ = some (.string m.group) := cell_of HZ0.out rfl
  unfold Mg.val
  have hto : told m now = m.until_ - now := by unfold told; omega
  have HTO := Lib.hid hto
  clear hto
  have hun : ¬ m.until_ ≤ now := by
    intro h
    rw [HX.out, decide_eq_true hu, decide_eq_true h] at hc
    cases hc
  case _ =>
      rw [hc] at HC
      have HCF := Lib.hid hc
      have HU := Lib.hid hu
      have hun : come m now = false := hc
      clear hc hun
      go_enter Try.func9, Try.ntmps9
      go_upto_region 1 with (fail)
      rw [← HW.out]
      clear HW
      go_wp2_with fail
      refine HC.out.mono ?_
      rintro e w2 ⟨rfl, hb⟩
      have hz0 := (hb.block _ (by rw [HS1.out]; omega)).trans HZ0.out
      have hz1 := (hb.block _ (by rw [HS1.out]; omega)).trans HZ1.out
      have HB2 := Lib.hid (HB0.out.trans (hb.mono HB0.out.size))
      have HCL := Lib.hid (cloneP_any w2 m.pA m.pc m.props (HSW.out.below hb) (by omega))
      have H20 := Lib.hid hz0
      have H21 := Lib.hid hz1
      have H2S := Lib.hid hb.size
      clear hb a0 a1 a2 a3 a4 a5 a6 a7 a8
      have a0 : w2.cell? ⟨w.heap.size, 0, none⟩ = some (.string m.topic) := cell_of hz0 rfl
      have a1 : w2.cell? ⟨w.heap.size, 1, none⟩ = some (.string m.payload) := cell_of hz0 rfl
      have a2 : w2.cell? ⟨w.heap.size, 2, none⟩ = some (.int .i64 m.qos) := cell_of hz0 rfl
      have a3 : w2.cell? ⟨w.heap.size, 3, none⟩ = some (.bool m.retain) := cell_of hz0 rfl
      have a4 : w2.cell? ⟨w.heap.size, 4, none⟩ = some (.slice m.pA m.props.length m.pc) := cell_of hz0 rfl
      have a5 : w2.cell? ⟨w.heap.size, 5, none⟩ = some (.string m.from_) := cell_of hz0 rfl
      have a6 : w2.cell? ⟨w.heap.size, 6, none⟩ = some (.int .i64 m.until_) := cell_of hz0 rfl
      have a7 : w2.cell? ⟨w.heap.size, 7, none⟩ = some (.int .i64 m.seq) := cell_of hz0 rfl
      have a8 : w2.cell? ⟨w.heap.size, 8, none⟩ = some (.string m.group) := cell_of hz0 rfl
      clear hz0 hz1
      go_wp2_with fail
      refine HCL.out.mono ?_
      rintro e w3 ⟨⟨v, rfl, hR, hN⟩, hb⟩
      obtain ⟨A1, cA, rfl, hRd⟩ := rd_own hR
      have hz0 := (hb.block _ (by have := lt_of_block H20.out; omega)).trans H20.out
      have hz1 := (hb.block _ (by have := lt_of_block H21.out; omega)).trans H21.out
      have hb3 := HB2.out.trans (hb.mono HB2.out.size)
      have HN3 := Lib.hid (show ∀ ad, A1 = some ad → w.heap.size + 1 + 1 ≤ ad.block by
        intro ad had
        subst had
        have h1 := hN ad.block rfl
        have h2 := H2S.out
        rw [HS1.out] at h2
        omega)
      have x4 : w3.cell? ⟨w.heap.size, 4, none⟩ = some (.slice m.pA m.props.length m.pc) := cell_of hz0 rfl
      have xf := free_of hz0 4
      have hz5 : (w3.setCell ⟨w.heap.size, 4, none⟩ (.slice A1 m.props.length cA)).heap[w.heap.size]? = some (.cells #[.string m.topic, .string m.payload, .int .i64 m.qos, .bool m.retain, .slice A1 m.props.length cA, .string m.from_, .int .i64 m.until_, .int .i64 m.seq, .string m.group] 24 (0, 0)) := set_of hz0 4 _
      have hz6 : (w3.setCell ⟨w.heap.size, 4, none⟩ (.slice A1 m.props.length cA)).heap[w.heap.size + 1]? = some (.cells #[.string ⟨#[]⟩, .string ⟨#[]⟩, .int .i64 0, .bool false, .slice none 0 0, .string ⟨#[]⟩, .int .i64 0, .int .i64 0, .string ⟨#[]⟩] 24 (0, 0)) := (set_other (p := ⟨w.heap.size, 4, none⟩) (by simp) _).trans hz1
      obtain ⟨wA, hwA⟩ : ∃ wA, wA = w3.setCell ⟨w.heap.size, 4, none⟩ (.slice A1 m.props.length cA) := ⟨_, rfl⟩
      have hbA : Below w.heap.size w wA := by
        rw [hwA]
        exact (((Tch.of_below (S := []) hb3).setCell (p := ⟨w.heap.size, 4, none⟩) (.inr (Nat.le_refl _)) _).below (Nat.le_refl _) (by simp))
      have hrA : Rd wA A1 (m.props.flatMap Prp.cells) := by
        rw [hwA]
        refine hRd.block ?_
        intro ad hA _ _
        have h1 := HN3.out ad hA
        exact set_other (p := ⟨w.heap.size, 4, none⟩) (by simp; omega) _
      rw [← hwA] at hz5 hz6
      have HA0 := Lib.hid hz5
      have HA1 := Lib.hid hz6
      have HBA := Lib.hid hbA
      have HRA := Lib.hid hrA
      have HWA := Lib.hid hwA.symm
      clear hb hz0 hz1 hb3 hR hN hRd hz5 hz6 hbA hrA hwA a0 a1 a2 a3 a4 a5 a6 a7 a8
      have HWO := Lib.hid (fun W (hb : Below wA.heap.size wA W) => without_any W A1 cA m.props (HRA.out.below hb) (by omega) 2)
      have HWA' := HWA.out
      have z6 : wA.cell? ⟨w.heap.size, 6, none⟩ = some (.int .i64 m.until_) := cell_of HA0.out rfl
      go_upto_region 5 with (fail)
      clear HWA' HWA x4 xf z6
      have r4 := fun n : Wd (Gr wA) => n.cell (cell_of HA0.out (o := 4) (v := .slice A1 m.props.length cA) rfl)
      have r6 := fun n : Wd (Gr wA) => n.cell (cell_of HA0.out (o := 6) (v := .int .i64 m.until_) rfl)
      refine wp_region_G (n := 14) (Gr wA) rfl (by kernel_rfl) (gr_drew wA) (fun hS => ?_)
      refine wpAnyG_seg (fuel := 5) [0, 1, 3, 4, 5, 6, 7, 8, 9] rfl rfl (by kernel_rfl) (fun _ _ d _ _ h => by cases d <;> exact h) hS ?_
      repeat (go_big_quiet_step (fail))
      refine wpQuiet_nil ?_
      clear r4 r6
      refine wpAnyG_two (fuel := 4) 2 10 (by kernel_rfl) rfl rfl (fun K hK => ?_) (fun K hK => ?_)
      case _ =>
        go_simp
        refine (HWO.out _ hS).mono ?_
        rintro e w4 ⟨⟨v, rfl, hR, hN⟩, hb⟩
        have hs4 := hS.trans (hb.mono hS.size)
        have HS4 := Lib.hid hs4
        have h40 := (hs4.block _ (lt_of_block HA0.out)).trans HA0.out
        have h41 := (hs4.block _ (lt_of_block HA1.out)).trans HA1.out
        have hba := alloc_below w4 (.cells #[.int .i64 2, .int .i64 (m.until_ - now), .string ⟨#[]⟩, .string ⟨#[]⟩] 56)
        have HP0 := Lib.hid ((hba.block _ (lt_of_block h40)).trans h40)
        have HP1 := Lib.hid ((hba.block _ (lt_of_block h41)).trans h41)
        have HBLK := Lib.hid (heap_alloc_new w4 (.cells #[.int .i64 2, .int .i64 (m.until_ - now), .string ⟨#[]⟩, .string ⟨#[]⟩] 56))
        have HSP := Lib.hid (hs4.trans (hba.mono hs4.size))
        have HO := Lib.hid (hR.alloc (.cells #[.int .i64 2, .int .i64 (m.until_ - now), .string ⟨#[]⟩, .string ⟨#[]⟩] 56))
        have HNV := Lib.hid (show ∀ g, v.ownBlock = some g → wA.heap.size ≤ g by
          intro g hg
          have h1 := hN g hg
          have h2 := hS.size
          omega)
        clear hs4 h40 h41 hba hR hN hb
        go_wp2_with fail
        refine hK.out (Gr wA) _ _ (fun _ h => h) HS4.out (fun hS => ?_)
        clear hK K
        refine wpAnyG_alone (fuel := 3) 10 (by kernel_rfl) rfl hS (fun K hK => ?_)
        go_simp
        refine hK.out (Gr wA) _ _ (fun _ h => h) HSP.out (fun hS => ?_)
        clear hK K
        refine wpAnyG_alone (fuel := 2) 11 (by kernel_rfl) rfl hS (fun K hK => ?_)
        
        obtain ⟨i0, hi, y0, y1, y2⟩ := info_parts info56
        have hwl := wo_le m.props 2
        obtain ⟨v', wQ, hr, ho, ht, hloc⟩ := append_list (P := Try.prog) (ty := 22) Try.underlying22 hi y0 y1 y2 rfl (by decide) HO.out (some ⟨w4.heap.size, 0, none⟩) 1 1 (Prp.cells ⟨2, m.until_ - now, ⟨#[]⟩, ⟨#[]⟩⟩) rfl (fun _ => ⟨_, rfl, fun j u hu => by
          rw [add_plain, Nat.zero_add]
          exact cell_of HBLK.out (by simpa [Prp.cells] using hu)⟩) (by simpa using prp_one [⟨2, m.until_ - now, ⟨#[]⟩, ⟨#[]⟩⟩]) (by unfold maxLen; omega) (by omega)
        obtain ⟨A', c', rfl, hRd⟩ := rd_own ho
        have hq0 := (ht.block _ (lt_of_block HP0.out) (by intro h; have := HNV.out _ (by simpa using h); have := lt_of_block HA0.out; omega)).trans HP0.out
        have hq1 := (ht.block _ (lt_of_block HP1.out) (by intro h; have := HNV.out _ (by simpa using h); have := lt_of_block HA1.out; omega)).trans HP1.out
        have HQ0 := Lib.hid hq0
        have HQ1 := Lib.hid hq1
        have HRUN := Lib.hid hr
        have hS1 := HSP.out.trans (ht.below HSP.out.size (by intro i hi; exact HNV.out i (by simpa using hi)))
        have HSQ := Lib.hid hS1
        have HBQ := Lib.hid (HBA.out.trans (hS1.mono HBA.out.size))
        have HNQ := Lib.hid (show ∀ ad, A' = some ad → w.heap.size + 1 + 1 ≤ ad.block by
          intro ad had
          subst had
          have h9 := lt_of_block HA1.out
          rcases hloc ad.block rfl with h | h
          · have := HNV.out _ h
            omega
          · have := HSP.out.size
            omega)
        have HRQ := Lib.hid (show Rd wQ A' ((wo m.props 2).flatMap Prp.cells ++ [(⟨2, told m now, ⟨#[]⟩, ⟨#[]⟩⟩ : Prp)].flatMap Prp.cells) by rw [HTO.out]; simpa using hRd)
        clear hi y0 y1 y2 hr ho ht hloc hRd hq0 hq1 hS1
        
        refine step_append_eq (by rfl) _ _ _ (by rfl) (by rfl) (by rfl) HRUN.out ?_
        go_simp
        refine hK.out (Gr wA) _ _ (fun _ h => h) HSQ.out (fun hS => ?_)
        clear hK K
        refine wpAnyG_seg (fuel := 1) [12] rfl rfl (by kernel_rfl) (fun _ _ d _ _ h => by cases d <;> exact h) hS ?_
        repeat (go_big_quiet_step (fail))
        refine wpQuiet_nil ?_
        refine wpAnyG_sealed (fuel := 0) 13 (by kernel_rfl) (by kernel_rfl) rfl (fun K hK => ?_)
        have x4 : wQ.cell? ⟨w.heap.size, 4, none⟩ = some (.slice A1 m.props.length cA) := cell_of HQ0.out rfl
        have xf := free_of HQ0.out 4
        have hz5 : (wQ.setCell ⟨w.heap.size, 4, none⟩ (.slice A' ((wo m.props 2).length + 1) c')).heap[w.heap.size]? = some (.cells #[.string m.topic, .string m.payload, .int .i64 m.qos, .bool m.retain, .slice A' ((wo m.props 2).length + 1) c', .string m.from_, .int .i64 m.until_, .int .i64 m.seq, .string m.group] 24 (0, 0)) := set_of HQ0.out 4 _
        have hz6 : (wQ.setCell ⟨w.heap.size, 4, none⟩ (.slice A' ((wo m.props 2).length + 1) c')).heap[w.heap.size + 1]? = some (.cells #[.string ⟨#[]⟩, .string ⟨#[]⟩, .int .i64 0, .bool false, .slice none 0 0, .string ⟨#[]⟩, .int .i64 0, .int .i64 0, .string ⟨#[]⟩] 24 (0, 0)) := (set_other (p := ⟨w.heap.size, 4, none⟩) (by simp) _).trans HQ1.out
        obtain ⟨w5, hw5⟩ : ∃ w5, w5 = wQ.setCell ⟨w.heap.size, 4, none⟩ (.slice A' ((wo m.props 2).length + 1) c') := ⟨_, rfl⟩
        have hb5 : Below w.heap.size w w5 := by
          rw [hw5]
          exact (((Tch.of_below (S := []) HBQ.out).setCell (p := ⟨w.heap.size, 4, none⟩) (.inr (Nat.le_refl _)) _).below (Nat.le_refl _) (by simp))
        have hr5 : Rd w5 A' ((wo m.props 2 ++ [(⟨2, told m now, ⟨#[]⟩, ⟨#[]⟩⟩ : Prp)]).flatMap Prp.cells) := by
          rw [List.flatMap_append, hw5]
          refine HRQ.out.block ?_
          intro ad hA _ _
          have h1 := HNQ.out ad hA
          exact set_other (p := ⟨w.heap.size, 4, none⟩) (by simp; omega) _
        rw [← hw5] at hz5 hz6
        have H50 := Lib.hid hz5
        have H51 := Lib.hid hz6
        have HB5 := Lib.hid hb5
        have HR5 := Lib.hid hr5
        have HW5 := Lib.hid hw5.symm
        clear hw5 hz5 hz6 hb5 hr5
        go_simp
        refine hK.out (fun _ => True) _ _ trivial (fun hS => ?_)
        clear hK K hS x4 xf
        refine wpAnyG_end (by kernel_rfl) ?_
        rw [HW5.out]
        have r0 : w5.cell? ⟨w.heap.size, 0, none⟩ = some (.string m.topic) := cell_of H50.out rfl
        have r1 : w5.cell? ⟨w.heap.size, 1, none⟩ = some (.string m.payload) := cell_of H50.out rfl
        have r2 : w5.cell? ⟨w.heap.size, 2, none⟩ = some (.int .i64 m.qos) := cell_of H50.out rfl
        have r3 : w5.cell? ⟨w.heap.size, 3, none⟩ = some (.bool m.retain) := cell_of H50.out rfl
        have r4 : w5.cell? ⟨w.heap.size, 4, none⟩ = some (.slice A' ((wo m.props 2).length + 1) c') := cell_of H50.out rfl
        have r5 : w5.cell? ⟨w.heap.size, 5, none⟩ = some (.string m.from_) := cell_of H50.out rfl
        have r6 : w5.cell? ⟨w.heap.size, 6, none⟩ = some (.int .i64 m.until_) := cell_of H50.out rfl
        have r7 : w5.cell? ⟨w.heap.size, 7, none⟩ = some (.int .i64 m.seq) := cell_of H50.out rfl
        have r8 : w5.cell? ⟨w.heap.size, 8, none⟩ = some (.string m.group) := cell_of H50.out rfl
        have c0 : w5.cell? ⟨w.heap.size + 1, 0, none⟩ = some (.string ⟨#[]⟩) := cell_of H51.out rfl
        have c1 : w5.cell? ⟨w.heap.size + 1, 1, none⟩ = some (.string ⟨#[]⟩) := cell_of H51.out rfl
        have c2 : w5.cell? ⟨w.heap.size + 1, 2, none⟩ = some (.int .i64 0) := cell_of H51.out rfl
        have c3 : w5.cell? ⟨w.heap.size + 1, 3, none⟩ = some (.bool false) := cell_of H51.out rfl
        have c4 : w5.cell? ⟨w.heap.size + 1, 4, none⟩ = some (.slice none 0 0) := cell_of H51.out rfl
        have c5 : w5.cell? ⟨w.heap.size + 1, 5, none⟩ = some (.string ⟨#[]⟩) := cell_of H51.out rfl
        have c6 : w5.cell? ⟨w.heap.size + 1, 6, none⟩ = some (.int .i64 0) := cell_of H51.out rfl
        have c7 : w5.cell? ⟨w.heap.size + 1, 7, none⟩ = some (.int .i64 0) := cell_of H51.out rfl
        have c8 : w5.cell? ⟨w.heap.size + 1, 8, none⟩ = some (.string ⟨#[]⟩) := cell_of H51.out rfl
        have f0 := free_of H51.out 0
        have f1 := free_of H51.out 1
        have f2 := free_of H51.out 2
        have f3 := free_of H51.out 3
        have f4 := free_of H51.out 4
        have f5 := free_of H51.out 5
        have f6 := free_of H51.out 6
        have f7 := free_of H51.out 7
        have f8 := free_of H51.out 8
        have hp := put9 H51.out (.string m.topic) (.string m.payload) (.int .i64 m.qos) (.bool m.retain) (.slice A' ((wo m.props 2).length + 1) c') (.string m.from_) (.int .i64 m.until_) (.int .i64 m.seq) (.string m.group)
        have p0 := cell_of hp (o := 0) (v := .string m.topic) rfl
        have p1 := cell_of hp (o := 1) (v := .string m.payload) rfl
        have p2 := cell_of hp (o := 2) (v := .int .i64 m.qos) rfl
        have p3 := cell_of hp (o := 3) (v := .bool m.retain) rfl
        have p4 := cell_of hp (o := 4) (v := .slice A' ((wo m.props 2).length + 1) c') rfl
        have p5 := cell_of hp (o := 5) (v := .string m.from_) rfl
        have p6 := cell_of hp (o := 6) (v := .int .i64 m.until_) rfl
        have p7 := cell_of hp (o := 7) (v := .int .i64 m.seq) rfl
        have p8 := cell_of hp (o := 8) (v := .string m.group) rfl
        have HTE := Lib.hid (put9_tch w5 (w.heap.size + 1) (.string m.topic) (.string m.payload) (.int .i64 m.qos) (.bool m.retain) (.slice A' ((wo m.props 2).length + 1) c') (.string m.from_) (.int .i64 m.until_) (.int .i64 m.seq) (.string m.group))
        have key : ∀ w6, Tch [w.heap.size + 1] w5 w6 → PP (.returned (.tuple #[.agg #[.string m.topic, .string m.payload, .int .i64 m.qos, .bool m.retain, .slice A' ((wo m.props 2).length + 1) c', .string m.from_, .int .i64 m.until_, .int .i64 m.seq, .string m.group], .bool true])) w6 := by
          intro w6 ht6
          refine HPP.out _ _ ⟨fun h => (by rw [HCF.out] at h; cases h), fun _ => ⟨{ m with pA := A', pc := c', props := wo m.props 2 ++ [⟨2, told m now, ⟨#[]⟩, ⟨#[]⟩⟩] }, ?_, ⟨rfl, rfl, rfl, rfl, ?_, rfl, rfl, rfl, rfl⟩, HR5.out.block ?_⟩, HB5.out.trans (ht6.below HB5.out.size (by intro i hi; simp at hi; omega))⟩
          · unfold Mg.val
            rw [List.length_append]
            rfl
          · unfold leftP
            rw [if_pos HU.out]
          · intro ad hA _ hlt
            refine ht6.block _ hlt ?_
            have h1 := HNQ.out ad hA
            simp
            omega
        have HE := Lib.hid (key _ HTE.out)
        clear key hp
        go_wp2_with fail
        exact bodyPost_ret (v := .tuple #[.agg #[.string m.topic, .string m.payload, .int .i64 m.qos, .bool m.retain, .slice A' ((wo m.props 2).length + 1) c', .string m.from_, .int .i64 m.until_, .int .i64 m.seq, .string m.group], .bool true]) (by simp [results, Try.results9, go_sem, *]) rfl HE.out
      case _ =>
        go_simp
        have hd0 : Below wA.heap.size wA (wA.alloc (.cells #[.int .i64 2, .int .i64 (m.until_ - now), .string ⟨#[]⟩, .string ⟨#[]⟩] 56)).drew := (alloc_below wA (.cells #[.int .i64 2, .int .i64 (m.until_ - now), .string ⟨#[]⟩, .string ⟨#[]⟩] 56)).trans (below_drewN (Below.refl _ _) 1)
        refine hK.out (Gr wA) _ _ (fun _ h => h) hd0 (fun hS => ?_)
        clear hK K hd0
        refine wpAnyG_alone (fuel := 3) 2 (by kernel_rfl) rfl hS (fun K hK => ?_)
        go_simp
        refine (HWO.out _ hS).mono ?_
        rintro e w4 ⟨⟨v, rfl, hR, hN⟩, hb⟩
        have hs4 := hS.trans (hb.mono hS.size)
        have HSP := Lib.hid hs4
        have HP0 := Lib.hid ((hs4.block _ (lt_of_block HA0.out)).trans HA0.out)
        have HP1 := Lib.hid ((hs4.block _ (lt_of_block HA1.out)).trans HA1.out)
        have HBLK := Lib.hid (show w4.heap[wA.heap.size]? = some (.cells #[.int .i64 2, .int .i64 (m.until_ - now), .string ⟨#[]⟩, .string ⟨#[]⟩] 56) from (hb.block wA.heap.size (by simp)).trans (heap_alloc_new wA (.cells #[.int .i64 2, .int .i64 (m.until_ - now), .string ⟨#[]⟩, .string ⟨#[]⟩] 56)))
        have HO := Lib.hid hR
        have HNV := Lib.hid (show ∀ g, v.ownBlock = some g → wA.heap.size ≤ g by
          intro g hg
          have h1 := hN g hg
          have h2 := hS.size
          omega)
        clear hs4 hR hN hb
        go_wp2_with fail
        refine hK.out (Gr wA) _ _ (fun _ h => h) HSP.out (fun hS => ?_)
        clear hK K
        refine wpAnyG_alone (fuel := 2) 11 (by kernel_rfl) rfl hS (fun K hK => ?_)
        
        obtain ⟨i0, hi, y0, y1, y2⟩ := info_parts info56
        have hwl := wo_le m.props 2
        obtain ⟨v', wQ, hr, ho, ht, hloc⟩ := append_list (P := Try.prog) (ty := 22) Try.underlying22 hi y0 y1 y2 rfl (by decide) HO.out (some ⟨wA.heap.size, 0, none⟩) 1 1 (Prp.cells ⟨2, m.until_ - now, ⟨#[]⟩, ⟨#[]⟩⟩) rfl (fun _ => ⟨_, rfl, fun j u hu => by
          rw [add_plain, Nat.zero_add]
          exact cell_of HBLK.out (by simpa [Prp.cells] using hu)⟩) (by simpa using prp_one [⟨2, m.until_ - now, ⟨#[]⟩, ⟨#[]⟩⟩]) (by unfold maxLen; omega) (by omega)
        obtain ⟨A', c', rfl, hRd⟩ := rd_own ho
        have hq0 := (ht.block _ (lt_of_block HP0.out) (by intro h; have := HNV.out _ (by simpa using h); have := lt_of_block HA0.out; omega)).trans HP0.out
        have hq1 := (ht.block _ (lt_of_block HP1.out) (by intro h; have := HNV.out _ (by simpa using h); have := lt_of_block HA1.out; omega)).trans HP1.out
        have HQ0 := Lib.hid hq0
        have HQ1 := Lib.hid hq1
        have HRUN := Lib.hid hr
        have hS1 := HSP.out.trans (ht.below HSP.out.size (by intro i hi; exact HNV.out i (by simpa using hi)))
        have HSQ := Lib.hid hS1
        have HBQ := Lib.hid (HBA.out.trans (hS1.mono HBA.out.size))
        have HNQ := Lib.hid (show ∀ ad, A' = some ad → w.heap.size + 1 + 1 ≤ ad.block by
          intro ad had
          subst had
          have h9 := lt_of_block HA1.out
          rcases hloc ad.block rfl with h | h
          · have := HNV.out _ h
            omega
          · have := HSP.out.size
            omega)
        have HRQ := Lib.hid (show Rd wQ A' ((wo m.props 2).flatMap Prp.cells ++ [(⟨2, told m now, ⟨#[]⟩, ⟨#[]⟩⟩ : Prp)].flatMap Prp.cells) by rw [HTO.out]; simpa using hRd)
        clear hi y0 y1 y2 hr ho ht hloc hRd hq0 hq1 hS1
        
        refine step_append_eq (by rfl) _ _ _ (by rfl) (by rfl) (by rfl) HRUN.out ?_
        go_simp
        refine hK.out (Gr wA) _ _ (fun _ h => h) HSQ.out (fun hS => ?_)
        clear hK K
        refine wpAnyG_seg (fuel := 1) [12] rfl rfl (by kernel_rfl) (fun _ _ d _ _ h => by cases d <;> exact h) hS ?_
        repeat (go_big_quiet_step (fail))
        refine wpQuiet_nil ?_
        refine wpAnyG_sealed (fuel := 0) 13 (by kernel_rfl) (by kernel_rfl) rfl (fun K hK => ?_)
        have x4 : wQ.cell? ⟨w.heap.size, 4, none⟩ = some (.slice A1 m.props.length cA) := cell_of HQ0.out rfl
        have xf := free_of HQ0.out 4
        have hz5 : (wQ.setCell ⟨w.heap.size, 4, none⟩ (.slice A' ((wo m.props 2).length + 1) c')).heap[w.heap.size]? = some (.cells #[.string m.topic, .string m.payload, .int .i64 m.qos, .bool m.retain, .slice A' ((wo m.props 2).length + 1) c', .string m.from_, .int .i64 m.until_, .int .i64 m.seq, .string m.group] 24 (0, 0)) := set_of HQ0.out 4 _
        have hz6 : (wQ.setCell ⟨w.heap.size, 4, none⟩ (.slice A' ((wo m.props 2).length + 1) c')).heap[w.heap.size + 1]? = some (.cells #[.string ⟨#[]⟩, .string ⟨#[]⟩, .int .i64 0, .bool false, .slice none 0 0, .string ⟨#[]⟩, .int .i64 0, .int .i64 0, .string ⟨#[]⟩] 24 (0, 0)) := (set_other (p := ⟨w.heap.size, 4, none⟩) (by simp) _).trans HQ1.out
        obtain ⟨w5, hw5⟩ : ∃ w5, w5 = wQ.setCell ⟨w.heap.size, 4, none⟩ (.slice A' ((wo m.props 2).length + 1) c') := ⟨_, rfl⟩
        have hb5 : Below w.heap.size w w5 := by
          rw [hw5]
          exact (((Tch.of_below (S := []) HBQ.out).setCell (p := ⟨w.heap.size, 4, none⟩) (.inr (Nat.le_refl _)) _).below (Nat.le_refl _) (by simp))
        have hr5 : Rd w5 A' ((wo m.props 2 ++ [(⟨2, told m now, ⟨#[]⟩, ⟨#[]⟩⟩ : Prp)]).flatMap Prp.cells) := by
          rw [List.flatMap_append, hw5]
          refine HRQ.out.block ?_
          intro ad hA _ _
          have h1 := HNQ.out ad hA
          exact set_other (p := ⟨w.heap.size, 4, none⟩) (by simp; omega) _
        rw [← hw5] at hz5 hz6
        have H50 := Lib.hid hz5
        have H51 := Lib.hid hz6
        have HB5 := Lib.hid hb5
        have HR5 := Lib.hid hr5
        have HW5 := Lib.hid hw5.symm
        clear hw5 hz5 hz6 hb5 hr5
        go_simp
        refine hK.out (fun _ => True) _ _ trivial (fun hS => ?_)
        clear hK K hS x4 xf
        refine wpAnyG_end (by kernel_rfl) ?_
        rw [HW5.out]
        have r0 : w5.cell? ⟨w.heap.size, 0, none⟩ = some (.string m.topic) := cell_of H50.out rfl
        have r1 : w5.cell? ⟨w.heap.size, 1, none⟩ = some (.string m.payload) := cell_of H50.out rfl
        have r2 : w5.cell? ⟨w.heap.size, 2, none⟩ = some (.int .i64 m.qos) := cell_of H50.out rfl
        have r3 : w5.cell? ⟨w.heap.size, 3, none⟩ = some (.bool m.retain) := cell_of H50.out rfl
        have r4 : w5.cell? ⟨w.heap.size, 4, none⟩ = some (.slice A' ((wo m.props 2).length + 1) c') := cell_of H50.out rfl
        have r5 : w5.cell? ⟨w.heap.size, 5, none⟩ = some (.string m.from_) := cell_of H50.out rfl
        have r6 : w5.cell? ⟨w.heap.size, 6, none⟩ = some (.int .i64 m.until_) := cell_of H50.out rfl
        have r7 : w5.cell? ⟨w.heap.size, 7, none⟩ = some (.int .i64 m.seq) := cell_of H50.out rfl
        have r8 : w5.cell? ⟨w.heap.size, 8, none⟩ = some (.string m.group) := cell_of H50.out rfl
        have c0 : w5.cell? ⟨w.heap.size + 1, 0, none⟩ = some (.string ⟨#[]⟩) := cell_of H51.out rfl
        have c1 : w5.cell? ⟨w.heap.size + 1, 1, none⟩ = some (.string ⟨#[]⟩) := cell_of H51.out rfl
        have c2 : w5.cell? ⟨w.heap.size + 1, 2, none⟩ = some (.int .i64 0) := cell_of H51.out rfl
        have c3 : w5.cell? ⟨w.heap.size + 1, 3, none⟩ = some (.bool false) := cell_of H51.out rfl
        have c4 : w5.cell? ⟨w.heap.size + 1, 4, none⟩ = some (.slice none 0 0) := cell_of H51.out rfl
        have c5 : w5.cell? ⟨w.heap.size + 1, 5, none⟩ = some (.string ⟨#[]⟩) := cell_of H51.out rfl
        have c6 : w5.cell? ⟨w.heap.size + 1, 6, none⟩ = some (.int .i64 0) := cell_of H51.out rfl
        have c7 : w5.cell? ⟨w.heap.size + 1, 7, none⟩ = some (.int .i64 0) := cell_of H51.out rfl
        have c8 : w5.cell? ⟨w.heap.size + 1, 8, none⟩ = some (.string ⟨#[]⟩) := cell_of H51.out rfl
        have f0 := free_of H51.out 0
        have f1 := free_of H51.out 1
        have f2 := free_of H51.out 2
        have f3 := free_of H51.out 3
        have f4 := free_of H51.out 4
        have f5 := free_of H51.out 5
        have f6 := free_of H51.out 6
        have f7 := free_of H51.out 7
        have f8 := free_of H51.out 8
        have hp := put9 H51.out (.string m.topic) (.string m.payload) (.int .i64 m.qos) (.bool m.retain) (.slice A' ((wo m.props 2).length + 1) c') (.string m.from_) (.int .i64 m.until_) (.int .i64 m.seq) (.string m.group)
        have p0 := cell_of hp (o := 0) (v := .string m.topic) rfl
        have p1 := cell_of hp (o := 1) (v := .string m.payload) rfl
        have p2 := cell_of hp (o := 2) (v := .int .i64 m.qos) rfl
        have p3 := cell_of hp (o := 3) (v := .bool m.retain) rfl
        have p4 := cell_of hp (o := 4) (v := .slice A' ((wo m.props 2).length + 1) c') rfl
        have p5 := cell_of hp (o := 5) (v := .string m.from_) rfl
        have p6 := cell_of hp (o := 6) (v := .int .i64 m.until_) rfl
        have p7 := cell_of hp (o := 7) (v := .int .i64 m.seq) rfl
        have p8 := cell_of hp (o := 8) (v := .string m.group) rfl
        have HTE := Lib.hid (put9_tch w5 (w.heap.size + 1) (.string m.topic) (.string m.payload) (.int .i64 m.qos) (.bool m.retain) (.slice A' ((wo m.props 2).length + 1) c') (.string m.from_) (.int .i64 m.until_) (.int .i64 m.seq) (.string m.group))
        have key : ∀ w6, Tch [w.heap.size + 1] w5 w6 → PP (.returned (.tuple #[.agg #[.string m.topic, .string m.payload, .int .i64 m.qos, .bool m.retain, .slice A' ((wo m.props 2).length + 1) c', .string m.from_, .int .i64 m.until_, .int .i64 m.seq, .string m.group], .bool true])) w6 := by
          intro w6 ht6
          refine HPP.out _ _ ⟨fun h => (by rw [HCF.out] at h; cases h), fun _ => ⟨{ m with pA := A', pc := c', props := wo m.props 2 ++ [⟨2, told m now, ⟨#[]⟩, ⟨#[]⟩⟩] }, ?_, ⟨rfl, rfl, rfl, rfl, ?_, rfl, rfl, rfl, rfl⟩, HR5.out.block ?_⟩, HB5.out.trans (ht6.below HB5.out.size (by intro i hi; simp at hi; omega))⟩
          · unfold Mg.val
            rw [List.length_append]
            rfl
          · unfold leftP
            rw [if_pos HU.out]
          · intro ad hA _ hlt
            refine ht6.block _ hlt ?_
            have h1 := HNQ.out ad hA
            simp
            omega
        have HE := Lib.hid (key _ HTE.out)
        clear key hp
        go_wp2_with fail
        exact bodyPost_ret (v := .tuple #[.agg #[.string m.topic, .string m.payload, .int .i64 m.qos, .bool m.retain, .slice A' ((wo m.props 2).length + 1) c', .string m.from_, .int .i64 m.until_, .int .i64 m.seq, .string m.group], .bool true]) (by simp [results, Try.results9, go_sem, *]) rfl HE.out
theorem left_any (m : Mg) (now : Int) (w : World) (hS : Rd w m.pA (m.props.flatMap Prp.cells)) (hl : m.props.length < 100000) (hm : (Lit.int .i64 m.until_).wf = true) (hnow : (Lit.int .i64 now).wf = true) :
    Calls Try.prog 9 #[m.val, .int .i64 now] w (LPost m now w) := by
  cases hc : come m now with
  | true => exact left_come m now w hS hl hm hnow hc
  | false =>
    by_cases hu : 0 < m.until_
    · by_cases hn : now < 0
      · by_cases hd : 4294967295 < m.until_
        · exact left_1 m now w hS hl hm hnow hc hu hn hd
        · exact left_2 m now w hS hl hm hnow hc hu hn hd
      · by_cases hd : 4294967295 < m.until_ - now
        · exact left_3 m now w hS hl hm hnow hc hu hn hd
        · exact left_4 m now w hS hl hm hnow hc hu hn hd
    · exact left_stay m now w hS hl hm hnow hc hu
end Go.Proofs.Ytjcdkgdeoeboaaa.QuW
