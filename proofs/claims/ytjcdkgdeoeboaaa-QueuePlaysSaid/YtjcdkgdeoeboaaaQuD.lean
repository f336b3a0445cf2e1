/- Queues: for how long a message may wait yet, by the document. -/
import Derived.Test.YtjcdkgdeoeboaaaQuC
set_option linter.unusedVariables false
set_option linter.unusedSimpArgs false
namespace Go.Proofs.Ytjcdkgdeoeboaaa.QuW
open Go.RowKit Go.Proofs.Ytjcdkgdeoeboaaa.Tc

theorem put9 {w : World} {b : Nat} {a0 a1 a2 a3 a4 a5 a6 a7 a8 : Value} {t : TypeId} (h : w.heap[b]? = some (.cells #[a0, a1, a2, a3, a4, a5, a6, a7, a8] t (0, 0))) (u0 u1 u2 u3 u4 u5 u6 u7 u8 : Value) :
    ((((((((((w).setCell ⟨b, 0, none⟩ u0).setCell ⟨b, 1, none⟩ u1).setCell ⟨b, 2, none⟩ u2).setCell ⟨b, 3, none⟩ u3).setCell ⟨b, 4, none⟩ u4).setCell ⟨b, 5, none⟩ u5).setCell ⟨b, 6, none⟩ u6).setCell ⟨b, 7, none⟩ u7).setCell ⟨b, 8, none⟩ u8).heap[b]? = some (.cells #[u0, u1, u2, u3, u4, u5, u6, u7, u8] t (0, 0)) := by
  have h0 : ((w).setCell ⟨b, 0, none⟩ u0).heap[b]? = some (.cells #[u0, a1, a2, a3, a4, a5, a6, a7, a8] t (0, 0)) := set_of h 0 u0
  have h1 : (((w).setCell ⟨b, 0, none⟩ u0).setCell ⟨b, 1, none⟩ u1).heap[b]? = some (.cells #[u0, u1, a2, a3, a4, a5, a6, a7, a8] t (0, 0)) := set_of h0 1 u1
  have h2 : ((((w).setCell ⟨b, 0, none⟩ u0).setCell ⟨b, 1, none⟩ u1).setCell ⟨b, 2, none⟩ u2).heap[b]? = some (.cells #[u0, u1, u2, a3, a4, a5, a6, a7, a8] t (0, 0)) := set_of h1 2 u2
  have h3 : (((((w).setCell ⟨b, 0, none⟩ u0).setCell ⟨b, 1, none⟩ u1).setCell ⟨b, 2, none⟩ u2).setCell ⟨b, 3, none⟩ u3).heap[b]? = some (.cells #[u0, u1, u2, u3, a4, a5, a6, a7, a8] t (0, 0)) := set_of h2 3 u3
  have h4 : ((((((w).setCell ⟨b, 0, none⟩ u0).setCell ⟨b, 1, none⟩ u1).setCell ⟨b, 2, none⟩ u2).setCell ⟨b, 3, none⟩ u3).setCell ⟨b, 4, none⟩ u4).heap[b]? = some (.cells #[u0, u1, u2, u3, u4, a5, a6, a7, a8] t (0, 0)) := set_of h3 4 u4
  have h5 : (((((((w).setCell ⟨b, 0, none⟩ u0).setCell ⟨b, 1, none⟩ u1).setCell ⟨b, 2, none⟩ u2).setCell ⟨b, 3, none⟩ u3).setCell ⟨b, 4, none⟩ u4).setCell ⟨b, 5, none⟩ u5).heap[b]? = some (.cells #[u0, u1, u2, u3, u4, u5, a6, a7, a8] t (0, 0)) := set_of h4 5 u5
  have h6 : ((((((((w).setCell ⟨b, 0, none⟩ u0).setCell ⟨b, 1, none⟩ u1).setCell ⟨b, 2, none⟩ u2).setCell ⟨b, 3, none⟩ u3).setCell ⟨b, 4, none⟩ u4).setCell ⟨b, 5, none⟩ u5).setCell ⟨b, 6, none⟩ u6).heap[b]? = some (.cells #[u0, u1, u2, u3, u4, u5, u6, a7, a8] t (0, 0)) := set_of h5 6 u6
  have h7 : (((((((((w).setCell ⟨b, 0, none⟩ u0).setCell ⟨b, 1, none⟩ u1).setCell ⟨b, 2, none⟩ u2).setCell ⟨b, 3, none⟩ u3).setCell ⟨b, 4, none⟩ u4).setCell ⟨b, 5, none⟩ u5).setCell ⟨b, 6, none⟩ u6).setCell ⟨b, 7, none⟩ u7).heap[b]? = some (.cells #[u0, u1, u2, u3, u4, u5, u6, u7, a8] t (0, 0)) := set_of h6 7 u7
  have h8 : ((((((((((w).setCell ⟨b, 0, none⟩ u0).setCell ⟨b, 1, none⟩ u1).setCell ⟨b, 2, none⟩ u2).setCell ⟨b, 3, none⟩ u3).setCell ⟨b, 4, none⟩ u4).setCell ⟨b, 5, none⟩ u5).setCell ⟨b, 6, none⟩ u6).setCell ⟨b, 7, none⟩ u7).setCell ⟨b, 8, none⟩ u8).heap[b]? = some (.cells #[u0, u1, u2, u3, u4, u5, u6, u7, u8] t (0, 0)) := set_of h7 8 u8
  exact h8

theorem put9_tch (w : World) (b : Nat) (u0 u1 u2 u3 u4 u5 u6 u7 u8 : Value) : Tch [b] w ((((((((((w).setCell ⟨b, 0, none⟩ u0).setCell ⟨b, 1, none⟩ u1).setCell ⟨b, 2, none⟩ u2).setCell ⟨b, 3, none⟩ u3).setCell ⟨b, 4, none⟩ u4).setCell ⟨b, 5, none⟩ u5).setCell ⟨b, 6, none⟩ u6).setCell ⟨b, 7, none⟩ u7).setCell ⟨b, 8, none⟩ u8) :=
  (((((((((Tch.refl [b] w).setCell (p := ⟨b, 0, none⟩) (.inl (by simp)) u0).setCell (p := ⟨b, 1, none⟩) (.inl (by simp)) u1).setCell (p := ⟨b, 2, none⟩) (.inl (by simp)) u2).setCell (p := ⟨b, 3, none⟩) (.inl (by simp)) u3).setCell (p := ⟨b, 4, none⟩) (.inl (by simp)) u4).setCell (p := ⟨b, 5, none⟩) (.inl (by simp)) u5).setCell (p := ⟨b, 6, none⟩) (.inl (by simp)) u6).setCell (p := ⟨b, 7, none⟩) (.inl (by simp)) u7).setCell (p := ⟨b, 8, none⟩) (.inl (by simp)) u8
theorem bounds_i64 {n : Int} (h : (Lit.int .i64 n).wf = true) : -9223372036854775808 ≤ n ∧ n ≤ 9223372036854775807 := by
  have h3 : IntKind.i64.min = -9223372036854775808 := rfl
  have h4 : IntKind.i64.max = 9223372036854775807 := rfl
  simpa [Lit.wf, h3, h4] using h
def mg0 : Mg := ⟨⟨#[]⟩, ⟨#[]⟩, 0, false, none, 0, [], ⟨#[]⟩, 0, 0, ⟨#[]⟩⟩
/-- What a message tells of its time. -/
def told (m : Mg) (now : Int) : Int := min (m.until_ - max now 0) 4294967295
def leftP (m : Mg) (now : Int) : List Prp := if 0 < m.until_ then wo m.props 2 ++ [⟨2, told m now, ⟨#[]⟩, ⟨#[]⟩⟩] else m.props
/-- The same but for where the properties lie. -/
structure Sim (a b : Mg) : Prop where
  topic : a.topic = b.topic
  payload : a.payload = b.payload
  qos : a.qos = b.qos
  retain : a.retain = b.retain
  props : a.props = b.props
  from_ : a.from_ = b.from_
  until_ : a.until_ = b.until_
  seq : a.seq = b.seq
  group : a.group = b.group
def LPost (m : Mg) (now : Int) (w : World) (e : Ending) (w' : World) : Prop :=
  (come m now = true → e = .returned (.tuple #[mg0.val, .bool false])) ∧ (come m now = false → ∃ m', e = .returned (.tuple #[m'.val, .bool true]) ∧ Sim m' { m with props := leftP m now } ∧ Rd w' m'.pA (m'.props.flatMap Prp.cells)) ∧ Below w.heap.size w w'
set_option maxRecDepth 100000 in
set_option maxHeartbeats 4000000 in
theorem rleft_come (m : Mg) (now : Int) (w : World) (hS : Rd w m.pA (m.props.flatMap Prp.cells)) (hl : m.props.length < 100000) (hm : (Lit.int .i64 m.until_).wf = true) (hnow : (Lit.int .i64 now).wf = true) (hc : come m now = true) :
    Calls Try.prog 10 #[m.val, .int .i64 now] w (LPost m now w) := by
  generalize hP : LPost m now w = PP
  have HPP := Lib.hid (show ∀ e w', LPost m now w e w' → PP e w' by intro e w' h; rw [← hP]; exact h)
  clear hP
  have hb0 := alloc_below w (.cells #[.string m.topic, .string m.payload, .int .i64 m.qos, .bool m.retain, .slice m.pA m.props.length m.pc, .string m.from_, .int .i64 m.until_, .int .i64 m.seq, .string m.group] 24)
  have hb1 := alloc_below (w.alloc (.cells #[.string m.topic, .string m.payload, .int .i64 m.qos, .bool m.retain, .slice m.pA m.props.length m.pc, .string m.from_, .int .i64 m.until_, .int .i64 m.seq, .string m.group] 24)) (.cells #[.string ⟨#[]⟩, .string ⟨#[]⟩, .int .i64 0, .bool false, .slice none 0 0, .string ⟨#[]⟩, .int .i64 0, .int .i64 0, .string ⟨#[]⟩] 24)
  have hz0 := heap_alloc_new w (.cells #[.string m.topic, .string m.payload, .int .i64 m.qos, .bool m.retain, .slice m.pA m.props.length m.pc, .string m.from_, .int .i64 m.until_, .int .i64 m.seq, .string m.group] 24)
  have hz1 := heap_alloc_new (w.alloc (.cells #[.string m.topic, .string m.payload, .int .i64 m.qos, .bool m.retain, .slice m.pA m.props.length m.pc, .string m.from_, .int .i64 m.until_, .int .i64 m.seq, .string m.group] 24)) (.cells #[.string ⟨#[]⟩, .string ⟨#[]⟩, .int .i64 0, .bool false, .slice none 0 0, .string ⟨#[]⟩, .int .i64 0, .int .i64 0, .string ⟨#[]⟩] 24)
  have hs0 : (w.alloc (.cells #[.string m.topic, .string m.payload, .int .i64 m.qos, .bool m.retain, .slice m.pA m.props.length m.pc, .string m.from_, .int .i64 m.until_, .int .i64 m.seq, .string m.group] 24)).heap.size = w.heap.size + 1 := by simp
  have hs1 : ((w.alloc (.cells #[.string m.topic, .string m.payload, .int .i64 m.qos, .bool m.retain, .slice m.pA m.props.length m.pc, .string m.from_, .int .i64 m.until_, .int .i64 m.seq, .string m.group] 24)).alloc (.cells #[.string ⟨#[]⟩, .string ⟨#[]⟩, .int .i64 0, .bool false, .slice none 0 0, .string ⟨#[]⟩, .int .i64 0, .int .i64 0, .string ⟨#[]⟩] 24)).heap.size = w.heap.size + 1 + 1 := by simp
  have hbW := hb0.trans (hb1.mono hb0.size)
  have hz0' := (hb1.block w.heap.size (by rw [hs0]; omega)).trans hz0
  rw [hs0] at hz1
  have hSW := hS.below hbW
  have HSW0 := Lib.hid hS
  have hC := rcome_any m now ((w.alloc (.cells #[.string m.topic, .string m.payload, .int .i64 m.qos, .bool m.retain, .slice m.pA m.props.length m.pc, .string m.from_, .int .i64 m.until_, .int .i64 m.seq, .string m.group] 24)).alloc (.cells #[.string ⟨#[]⟩, .string ⟨#[]⟩, .int .i64 0, .bool false, .slice none 0 0, .string ⟨#[]⟩, .int .i64 0, .int .i64 0, .string ⟨#[]⟩] 24))
  obtain ⟨W, hW⟩ : ∃ W, W = (w.alloc (.cells #[.string m.topic, .string m.payload, .int .i64 m.qos, .bool m.retain, .slice m.pA m.props.length m.pc, .string m.from_, .int .i64 m.until_, .int .i64 m.seq, .string m.group] 24)).alloc (.cells #[.string ⟨#[]⟩, .string ⟨#[]⟩, .int .i64 0, .bool false, .slice none 0 0, .string ⟨#[]⟩, .int .i64 0, .int .i64 0, .string ⟨#[]⟩] 24) := ⟨_, rfl⟩
  have HW := Lib.hid hW
  rw [← hW] at hz0' hz1 hs1 hbW hSW hC
  have HB0 := Lib.hid hbW
  have HZ0 := Lib.hid hz0'
  have HZ1 := Lib.hid hz1
  have HS1 := Lib.hid hs1
  have HSW := Lib.hid hSW
  unfold Mg.val at hC
  have HC := Lib.hid hC
  have HX := Lib.hid (show come m now = (decide (0 < m.until_) && decide (m.until_ ≤ now)) from rfl)
  clear hb0 hb1 hz0 hz1 hs0 hs1 hbW hz0' hS hSW hC hW
  obtain ⟨hm0, hm1⟩ := bounds_i64 hm
  obtain ⟨hn0, hn1⟩ := bounds_i64 hnow
  clear hm hnow
  have a0 : W.cell? ⟨w.heap.size, 0, none⟩ = some (.string m.topic) := cell_of HZ0.out rfl
  have a1 : W.cell? ⟨w.heap.size, 1, none⟩ = some (.string m.payload) := cell_of HZ0.out rfl
  have a2 : W.cell? ⟨w.heap.size, 2, none⟩ = some (.int .i64 m.qos) := cell_of HZ0.out rfl
  have a3 : W.cell? ⟨w.heap.size, 3, none⟩ = some (.bool m.retain) := cell_of HZ0.out rfl
  have a4 : W.cell? ⟨w.heap.size, 4, none⟩ = some (.slice m.pA m.props.length m.pc) := cell_of HZ0.out rfl
  have a5 : W.cell? ⟨w.heap.size, 5, none⟩ = some (.string m.from_) := cell_of HZ0.out rfl
  have a6 : W.cell? ⟨w.heap.size, 6, none⟩ = some (.int .i64 m.until_) := cell_of HZ0.out rfl
  have a7 : W.cell? ⟨w.heap.size, 7, none⟩ = some (.int .i64 m.seq) := cell_of HZ0.out rfl
  have a8 : W.cell? ⟨w.heap.size, 8, none⟩ = some (.string m.group) := cell_of HZ0.out rfl
  unfold Mg.val
  case _ =>
    rw [hc] at HC
    go_enter Try.func10, Try.ntmps10
    go_upto_region 1 with (fail)
    rw [← HW.out]
    clear HW
    go_wp2_with fail
    refine HC.out.mono ?_
    rintro e w2 ⟨rfl, hb⟩
    have hz := (hb.block _ (by rw [HS1.out]; omega)).trans HZ1.out
    have HB := Lib.hid (HB0.out.trans (hb.mono HB0.out.size))
    clear hb a0 a1 a2 a3 a4 a5 a6 a7 a8
    have c0 : w2.cell? ⟨w.heap.size + 1, 0, none⟩ = some (.string ⟨#[]⟩) := cell_of hz rfl
    have c1 : w2.cell? ⟨w.heap.size + 1, 1, none⟩ = some (.string ⟨#[]⟩) := cell_of hz rfl
    have c2 : w2.cell? ⟨w.heap.size + 1, 2, none⟩ = some (.int .i64 0) := cell_of hz rfl
    have c3 : w2.cell? ⟨w.heap.size + 1, 3, none⟩ = some (.bool false) := cell_of hz rfl
    have c4 : w2.cell? ⟨w.heap.size + 1, 4, none⟩ = some (.slice none 0 0) := cell_of hz rfl
    have c5 : w2.cell? ⟨w.heap.size + 1, 5, none⟩ = some (.string ⟨#[]⟩) := cell_of hz rfl
    have c6 : w2.cell? ⟨w.heap.size + 1, 6, none⟩ = some (.int .i64 0) := cell_of hz rfl
    have c7 : w2.cell? ⟨w.heap.size + 1, 7, none⟩ = some (.int .i64 0) := cell_of hz rfl
    have c8 : w2.cell? ⟨w.heap.size + 1, 8, none⟩ = some (.string ⟨#[]⟩) := cell_of hz rfl
    have f0 := free_of hz 0
    have f1 := free_of hz 1
    have f2 := free_of hz 2
    have f3 := free_of hz 3
    have f4 := free_of hz 4
    have f5 := free_of hz 5
    have f6 := free_of hz 6
    have f7 := free_of hz 7
    have f8 := free_of hz 8
    have hp := put9 hz (.string ⟨#[]⟩) (.string ⟨#[]⟩) (.int .i64 0) (.bool false) (.slice none 0 0) (.string ⟨#[]⟩) (.int .i64 0) (.int .i64 0) (.string ⟨#[]⟩)
    have p0 := cell_of hp (o := 0) (v := .string ⟨#[]⟩) rfl
    have p1 := cell_of hp (o := 1) (v := .string ⟨#[]⟩) rfl
    have p2 := cell_of hp (o := 2) (v := .int .i64 0) rfl
    have p3 := cell_of hp (o := 3) (v := .bool false) rfl
    have p4 := cell_of hp (o := 4) (v := .slice none 0 0) rfl
    have p5 := cell_of hp (o := 5) (v := .string ⟨#[]⟩) rfl
    have p6 := cell_of hp (o := 6) (v := .int .i64 0) rfl
    have p7 := cell_of hp (o := 7) (v := .int .i64 0) rfl
    have p8 := cell_of hp (o := 8) (v := .string ⟨#[]⟩) rfl
    have HTE := Lib.hid (put9_tch w2 (w.heap.size + 1) (.string ⟨#[]⟩) (.string ⟨#[]⟩) (.int .i64 0) (.bool false) (.slice none 0 0) (.string ⟨#[]⟩) (.int .i64 0) (.int .i64 0) (.string ⟨#[]⟩))
    have HE := Lib.hid (HPP.out (.returned (.tuple #[mg0.val, .bool false])) _ ⟨fun _ => rfl, fun h => (by rw [hc] at h; cases h), HB.out.trans (HTE.out.below HB.out.size (by intro i hi; simp at hi; omega))⟩)
    clear hz hp hc
    go_wp2_with fail
    exact bodyPost_ret (v := .tuple #[.agg #[.string ⟨#[]⟩, .string ⟨#[]⟩, .int .i64 0, .bool false, .slice none 0 0, .string ⟨#[]⟩, .int .i64 0, .int .i64 0, .string ⟨#[]⟩], .bool false]) (by simp [mg0, Mg.val, results, Try.results10, go_sem, *]) rfl HE.out
set_option maxRecDepth 100000 in
set_option maxHeartbeats 4000000 in
theorem rleft_stay (m : Mg) (now : Int) (w : World) (hS : Rd w m.pA (m.props.flatMap Prp.cells)) (hl : m.props.length < 100000) (hm : (Lit.int .i64 m.until_).wf = true) (hnow : (Lit.int .i64 now).wf = true) (hc : come m now = false) (hu : ¬ 0 < m.until_) :
    Calls Try.prog 10 #[m.val, .int .i64 now] w (LPost m now w) := by
  generalize hP : LPost m now w = PP
  have HPP := Lib.hid (show ∀ e w', LPost m now w e w' → PP e w' by intro e w' h; rw [← hP]; exact h)
  clear hP
  have hb0 := alloc_below w (.cells #[.string m.topic, .string m.payload, .int .i64 m.qos, .bool m.retain, .slice m.pA m.props.length m.pc, .string m.from_, .int .i64 m.until_, .int .i64 m.seq, .string m.group] 24)
  have hb1 := alloc_below (w.alloc (.cells #[.string m.topic, .string m.payload, .int .i64 m.qos, .bool m.retain, .slice m.pA m.props.length m.pc, .string m.from_, .int .i64 m.until_, .int .i64 m.seq, .string m.group] 24)) (.cells #[.string ⟨#[]⟩, .string ⟨#[]⟩, .int .i64 0, .bool false, .slice none 0 0, .string ⟨#[]⟩, .int .i64 0, .int .i64 0, .string ⟨#[]⟩] 24)
  have hz0 := heap_alloc_new w (.cells #[.string m.topic, .string m.payload, .int .i64 m.qos, .bool m.retain, .slice m.pA m.props.length m.pc, .string m.from_, .int .i64 m.until_, .int .i64 m.seq, .string m.group] 24)
  have hz1 := heap_alloc_new (w.alloc (.cells #[.string m.topic, .string m.payload, .int .i64 m.qos, .bool m.retain, .slice m.pA m.props.length m.pc, .string m.from_, .int .i64 m.until_, .int .i64 m.seq, .string m.group] 24)) (.cells #[.string ⟨#[]⟩, .string ⟨#[]⟩, .int .i64 0, .bool false, .slice none 0 0, .string ⟨#[]⟩, .int .i64 0, .int .i64 0, .string ⟨#[]⟩] 24)
  have hs0 : (w.alloc (.cells #[.string m.topic, .string m.payload, .int .i64 m.qos, .bool m.retain, .slice m.pA m.props.length m.pc, .string m.from_, .int .i64 m.until_, .int .i64 m.seq, .string m.group] 24)).heap.size = w.heap.size + 1 := by simp
  have hs1 : ((w.alloc (.cells #[.string m.topic, .string m.payload, .int .i64 m.qos, .bool m.retain, .slice m.pA m.props.length m.pc, .string m.from_, .int .i64 m.until_, .int .i64 m.seq, .string m.group] 24)).alloc (.cells #[.string ⟨#[]⟩, .string ⟨#[]⟩, .int .i64 0, .bool false, .slice none 0 0, .string ⟨#[]⟩, .int .i64 0, .int .i64 0, .string ⟨#[]⟩] 24)).heap.size = w.heap.size + 1 + 1 := by simp
  have hbW := hb0.trans (hb1.mono hb0.size)
  have hz0' := (hb1.block w.heap.size (by rw [hs0]; omega)).trans hz0
  rw [hs0] at hz1
  have hSW := hS.below hbW
  have HSW0 := Lib.hid hS
  have hC := rcome_any m now ((w.alloc (.cells #[.string m.topic, .string m.payload, .int .i64 m.qos, .bool m.retain, .slice m.pA m.props.length m.pc, .string m.from_, .int .i64 m.until_, .int .i64 m.seq, .string m.group] 24)).alloc (.cells #[.string ⟨#[]⟩, .string ⟨#[]⟩, .int .i64 0, .bool false, .slice none 0 0, .string ⟨#[]⟩, .int .i64 0, .int .i64 0, .string ⟨#[]⟩] 24))
  obtain ⟨W, hW⟩ : ∃ W, W = (w.alloc (.cells #[.string m.topic, .string m.payload, .int .i64 m.qos, .bool m.retain, .slice m.pA m.props.length m.pc, .string m.from_, .int .i64 m.until_, .int .i64 m.seq, .string m.group] 24)).alloc (.cells #[.string ⟨#[]⟩, .string ⟨#[]⟩, .int .i64 0, .bool false, .slice none 0 0, .string ⟨#[]⟩, .int .i64 0, .int .i64 0, .string ⟨#[]⟩] 24) := ⟨_, rfl⟩
  have HW := Lib.hid hW
  rw [← hW] at hz0' hz1 hs1 hbW hSW hC
  have HB0 := Lib.hid hbW
  have HZ0 := Lib.hid hz0'
  have HZ1 := Lib.hid hz1
  have HS1 := Lib.hid hs1
  have HSW := Lib.hid hSW
  unfold Mg.val at hC
  have HC := Lib.hid hC
  have HX := Lib.hid (show come m now = (decide (0 < m.until_) && decide (m.until_ ≤ now)) from rfl)
  clear hb0 hb1 hz0 hz1 hs0 hs1 hbW hz0' hS hSW hC hW
  obtain ⟨hm0, hm1⟩ := bounds_i64 hm
  obtain ⟨hn0, hn1⟩ := bounds_i64 hnow
  clear hm hnow
  have a0 : W.cell? ⟨w.heap.size, 0, none⟩ = some (.string m.topic) := cell_of HZ0.out rfl
  have a1 : W.cell? ⟨w.heap.size, 1, none⟩ = some (.string m.payload) := cell_of HZ0.out rfl
  have a2 : W.cell? ⟨w.heap.size, 2, none⟩ = some (.int .i64 m.qos) := cell_of HZ0.out rfl
  have a3 : W.cell? ⟨w.heap.size, 3, none⟩ = some (.bool m.retain) := cell_of HZ0.out rfl
  have a4 : W.cell? ⟨w.heap.size, 4, none⟩ = some (.slice m.pA m.props.length m.pc) := cell_of HZ0.out rfl
  have a5 : W.cell? ⟨w.heap.size, 5, none⟩ = some (.string m.from_) := cell_of HZ0.out rfl
  have a6 : W.cell? ⟨w.heap.size, 6, none⟩ = some (.int .i64 m.until_) := cell_of HZ0.out rfl
  have a7 : W.cell? ⟨w.heap.size, 7, none⟩ = some (.int .i64 m.seq) := cell_of HZ0.out rfl
  have a8 : W.cell? ⟨w.heap.size, 8, none⟩ = some (.string m.group) := cell_of HZ0.out rfl
  unfold Mg.val
  rw [hc] at HC
  have HCF := Lib.hid hc
  have HU := Lib.hid hu
  clear hc
  go_enter Try.func10, Try.ntmps10
  go_upto_region 1 with (fail)
  rw [← HW.out]
  clear HW
  go_wp2_with fail
  refine HC.out.mono ?_
  rintro e w2 ⟨rfl, hb⟩
  have hz0 := (hb.block _ (by rw [HS1.out]; omega)).trans HZ0.out
  have hz1 := (hb.block _ (by rw [HS1.out]; omega)).trans HZ1.out
  have HB2 := Lib.hid (HB0.out.trans (hb.mono HB0.out.size))
  have HR2 := Lib.hid (HSW.out.below hb)
  have H20 := Lib.hid hz0
  have H21 := Lib.hid hz1
  clear hb a0 a1 a2 a3 a4 a5 a6 a7 a8
  have r0 : w2.cell? ⟨w.heap.size, 0, none⟩ = some (.string m.topic) := cell_of H20.out rfl
  have r1 : w2.cell? ⟨w.heap.size, 1, none⟩ = some (.string m.payload) := cell_of H20.out rfl
  have r2 : w2.cell? ⟨w.heap.size, 2, none⟩ = some (.int .i64 m.qos) := cell_of H20.out rfl
  have r3 : w2.cell? ⟨w.heap.size, 3, none⟩ = some (.bool m.retain) := cell_of H20.out rfl
  have r4 : w2.cell? ⟨w.heap.size, 4, none⟩ = some (.slice m.pA m.props.length m.pc) := cell_of H20.out rfl
  have r5 : w2.cell? ⟨w.heap.size, 5, none⟩ = some (.string m.from_) := cell_of H20.out rfl
  have r6 : w2.cell? ⟨w.heap.size, 6, none⟩ = some (.int .i64 m.until_) := cell_of H20.out rfl
  have r7 : w2.cell? ⟨w.heap.size, 7, none⟩ = some (.int .i64 m.seq) := cell_of H20.out rfl
  have r8 : w2.cell? ⟨w.heap.size, 8, none⟩ = some (.string m.group) := cell_of H20.out rfl
  have c0 : w2.cell? ⟨w.heap.size + 1, 0, none⟩ = some (.string ⟨#[]⟩) := cell_of H21.out rfl
  have c1 : w2.cell? ⟨w.heap.size + 1, 1, none⟩ = some (.string ⟨#[]⟩) := cell_of H21.out rfl
  have c2 : w2.cell? ⟨w.heap.size + 1, 2, none⟩ = some (.int .i64 0) := cell_of H21.out rfl
  have c3 : w2.cell? ⟨w.heap.size + 1, 3, none⟩ = some (.bool false) := cell_of H21.out rfl
  have c4 : w2.cell? ⟨w.heap.size + 1, 4, none⟩ = some (.slice none 0 0) := cell_of H21.out rfl
  have c5 : w2.cell? ⟨w.heap.size + 1, 5, none⟩ = some (.string ⟨#[]⟩) := cell_of H21.out rfl
  have c6 : w2.cell? ⟨w.heap.size + 1, 6, none⟩ = some (.int .i64 0) := cell_of H21.out rfl
  have c7 : w2.cell? ⟨w.heap.size + 1, 7, none⟩ = some (.int .i64 0) := cell_of H21.out rfl
  have c8 : w2.cell? ⟨w.heap.size + 1, 8, none⟩ = some (.string ⟨#[]⟩) := cell_of H21.out rfl
  have f0 := free_of H21.out 0
  have f1 := free_of H21.out 1
  have f2 := free_of H21.out 2
  have f3 := free_of H21.out 3
  have f4 := free_of H21.out 4
  have f5 := free_of H21.out 5
  have f6 := free_of H21.out 6
  have f7 := free_of H21.out 7
  have f8 := free_of H21.out 8
  have hp := put9 H21.out (.string m.topic) (.string m.payload) (.int .i64 m.qos) (.bool m.retain) (.slice m.pA m.props.length m.pc) (.string m.from_) (.int .i64 m.until_) (.int .i64 m.seq) (.string m.group)
  have p0 := cell_of hp (o := 0) (v := .string m.topic) rfl
  have p1 := cell_of hp (o := 1) (v := .string m.payload) rfl
  have p2 := cell_of hp (o := 2) (v := .int .i64 m.qos) rfl
  have p3 := cell_of hp (o := 3) (v := .bool m.retain) rfl
  have p4 := cell_of hp (o := 4) (v := .slice m.pA m.props.length m.pc) rfl
  have p5 := cell_of hp (o := 5) (v := .string m.from_) rfl
  have p6 := cell_of hp (o := 6) (v := .int .i64 m.until_) rfl
  have p7 := cell_of hp (o := 7) (v := .int .i64 m.seq) rfl
  have p8 := cell_of hp (o := 8) (v := .string m.group) rfl
  have HTE := Lib.hid (put9_tch w2 (w.heap.size + 1) (.string m.topic) (.string m.payload) (.int .i64 m.qos) (.bool m.retain) (.slice m.pA m.props.length m.pc) (.string m.from_) (.int .i64 m.until_) (.int .i64 m.seq) (.string m.group))
  have key : ∀ w6, Tch [w.heap.size + 1] w2 w6 → PP (.returned (.tuple #[.agg #[.string m.topic, .string m.payload, .int .i64 m.qos, .bool m.retain, .slice m.pA m.props.length m.pc, .string m.from_, .int .i64 m.until_, .int .i64 m.seq, .string m.group], .bool true])) w6 := by
    intro w6 ht6
    refine HPP.out _ _ ⟨fun h => (by rw [HCF.out] at h; cases h), fun _ => ⟨m, rfl, ⟨rfl, rfl, rfl, rfl, ?_, rfl, rfl, rfl, rfl⟩, HR2.out.block ?_⟩, HB2.out.trans (ht6.below HB2.out.size (by intro i hi; simp at hi; omega))⟩
    · unfold leftP
      rw [if_neg (by have := HU.out; omega)]
    · intro ad hA hlen hlt
      refine ht6.block _ hlt ?_
      obtain ⟨b, off, hb, hcc⟩ := HSW0.out hlen
      rw [hA] at hb
      injection hb with hb
      subst hb
      have h1 : b < w.heap.size := by
        obtain ⟨u, hu'⟩ : ∃ u, (m.props.flatMap Prp.cells)[0]? = some u := ⟨_, List.getElem?_eq_getElem hlen⟩
        exact World.block_lt_of_cell? w ⟨b, off + 0, none⟩ (hcc 0 u hu')
      simp
      omega
  have HE := Lib.hid (key _ HTE.out)
  clear key hz0 hz1 hp
  have hk : decide (0 < m.until_) = false := decide_eq_false (by have := HU.out; omega)
  go_wp2_with fail
  exact bodyPost_ret (v := .tuple #[.agg #[.string m.topic, .string m.payload, .int .i64 m.qos, .bool m.retain, .slice m.pA m.props.length m.pc, .string m.from_, .int .i64 m.until_, .int .i64 m.seq, .string m.group], .bool true]) (by simp [results, Try.results10, go_sem, *]) rfl HE.out
set_option maxRecDepth 100000 in
set_option maxHeartbeats 4000000 in
theorem rleft_1 (m : Mg) (now : Int) (w : World) (hS : Rd w m.pA (m.props.flatMap Prp.cells)) (hl : m.props.length < 100000) (hm : (Lit.int .i64 m.until_).wf = true) (hnow : (Lit.int .i64 now).wf = true) (hc : come m now = false) (hu : 0 < m.until_) (hn : now < 0) (hd : 4294967295 < m.until_) :
    Calls Try.prog 10 #[m.val, .int .i64 now] w (LPost m now w) := by
  generalize hP : LPost m now w = PP
  have HPP := Lib.hid (show ∀ e w', LPost m now w e w' → PP e w' by intro e w' h; rw [← hP]; exact h)
  clear hP
  have hb0 := alloc_below w (.cells #[.string m.topic, .string m.payload, .int .i64 m.qos, .bool m.retain, .slice m.pA m.props.length m.pc, .string m.from_, .int .i64 m.until_, .int .i64 m.seq, .string m.group] 24)
  have hb1 := alloc_below (w.alloc (.cells #[.string m.topic, .string m.payload, .int .i64 m.qos, .bool m.retain, .slice m.pA m.props.length m.pc, .string m.from_, .int .i64 m.until_, .int .i64 m.seq, .string m.group] 24)) (.cells #[.string ⟨#[]⟩, .string ⟨#[]⟩, .int .i64 0, .bool false, .slice none 0 0, .string ⟨#[]⟩, .int .i64 0, .int .i64 0, .string ⟨#[]⟩] 24)
  have hz0 := heap_alloc_new w (.cells #[.string m.topic, .string m.payload, .int .i64 m.qos, .bool m.retain, .slice m.pA m.props.length m.pc, .string m.from_, .int .i64 m.until_, .int .i64 m.seq, .string m.group] 24)
  have hz1 := heap_alloc_new (w.alloc (.cells #[.string m.topic, .string m.payload, .int .i64 m.qos, .bool m.retain, .slice m.pA m.props.length m.pc, .string m.from_, .int .i64 m.until_, .int .i64 m.seq, .string m.group] 24)) (.cells #[.string ⟨#[]⟩, .string ⟨#[]⟩, .int .i64 0, .bool false, .slice none 0 0, .string ⟨#[]⟩, .int .i64 0, .int .i64 0, .string ⟨#[]⟩] 24)
  have hs0 : (w.alloc (.cells #[.string m.topic, .string m.payload, .int .i64 m.qos, .bool m.retain, .slice m.pA m.props.length m.pc, .string m.from_, .int .i64 m.until_, .int .i64 m.seq, .string m.group] 24)).heap.size = w.heap.size + 1 := by simp
  have hs1 : ((w.alloc (.cells #[.string m.topic, .string m.payload, .int .i64 m.qos, .bool m.retain, .slice m.pA m.props.length m.pc, .string m.from_, .int .i64 m.until_, .int .i64 m.seq, .string m.group] 24)).alloc (.cells #[.string ⟨#[]⟩, .string ⟨#[]⟩, .int .i64 0, .bool false, .slice none 0 0, .string ⟨#[]⟩, .int .i64 0, .int .i64 0, .string ⟨#[]⟩] 24)).heap.size = w.heap.size + 1 + 1 := by simp
  have hbW := hb0.trans (hb1.mono hb0.size)
  have hz0' := (hb1.block w.heap.size (by rw [hs0]; omega)).trans hz0
  rw [hs0] at hz1
  have hSW := hS.below hbW
  have HSW0 := Lib.hid hS
  have hC := rcome_any m now ((w.alloc (.cells #[.string m.topic, .string m.payload, .int .i64 m.qos, .bool m.retain, .slice m.pA m.props.length m.pc, .string m.from_, .int .i64 m.until_, .int .i64 m.seq, .string m.group] 24)).alloc (.cells #[.string ⟨#[]⟩, .string ⟨#[]⟩, .int .i64 0, .bool false, .slice none 0 0, .string ⟨#[]⟩, .int .i64 0, .int .i64 0, .string ⟨#[]⟩] 24))
  obtain ⟨W, hW⟩ : ∃ W, W = (w.alloc (.cells #[.string m.topic, .string m.payload, .int .i64 m.qos, .bool m.retain, .slice m.pA m.props.length m.pc, .string m.from_, .int .i64 m.until_, .int .i64 m.seq, .string m.group] 24)).alloc (.cells #[.string ⟨#[]⟩, .string ⟨#[]⟩, .int .i64 0, .bool false, .slice none 0 0, .string ⟨#[]⟩, .int .i64 0, .int .i64 0, .string ⟨#[]⟩] 24) := ⟨_, rfl⟩
  have HW := Lib.hid hW
  rw [← hW] at hz0' hz1 hs1 hbW hSW hC
  have HB0 := Lib.hid hbW
  have HZ0 := Lib.hid hz0'
  have HZ1 := Lib.hid hz1
  have HS1 := Lib.hid hs1
  have HSW := Lib.hid hSW
  unfold Mg.val at hC
  have HC := Lib.hid hC
  have HX := Lib.hid (show come m now = (decide (0 < m.until_) && decide (m.until_ ≤ now)) from rfl)
  clear hb0 hb1 hz0 hz1 hs0 hs1 hbW hz0' hS hSW hC hW
  obtain ⟨hm0, hm1⟩ := bounds_i64 hm
  obtain ⟨hn0, hn1⟩ := bounds_i64 hnow
  clear hm hnow
  have a0 : W.cell? ⟨w.heap.size, 0, none⟩ = some (.string m.topic) := cell_of HZ0.out rfl
  have a1 : W.cell? ⟨w.heap.size, 1, none⟩ = some (.string m.payload) := cell_of HZ0.out rfl
  have a2 : W.cell? ⟨w.heap.size, 2, none⟩ = some (.int .i64 m.qos) := cell_of HZ0.out rfl
  have a3 : W.cell? ⟨w.heap.size, 3, none⟩ = some (.bool m.retain) := cell_of HZ0.out rfl
  have a4 : W.cell? ⟨w.heap.size, 4, none⟩ = some (.slice m.pA m.props.length m.pc) := cell_of HZ0.out rfl
  have a5 : W.cell? ⟨w.heap.size, 5, none⟩ = some (.string m.from_) := cell_of HZ0.out rfl
  have a6 : W.cell? ⟨w.heap.size, 6, none⟩ = some (.int .i64 m.until_) := cell_of HZ0.out rfl
  have a7 : W.cell? ⟨w.heap.size, 7, none⟩ = some (.int .i64 m.seq) := cell_of HZ0.out rfl
  have a8 : W.cell? ⟨w.heap.size, 8, none⟩ = some (.string m.group) := cell_of HZ0.out rfl
  unfold Mg.val
  case _ =>
      rw [hc] at HC
      have HCF := Lib.hid hc
      have hun : ¬ m.until_ ≤ now := by
        intro h
        rw [HX.out, decide_eq_true hu, decide_eq_true h] at hc
        cases hc
      clear hc
      go_enter Try.func10, Try.ntmps10
      go_upto_region 1 with (fail)
      rw [← HW.out]
      clear HW
      go_wp2_with fail
      refine HC.out.mono ?_
      rintro e w2 ⟨rfl, hb⟩
      have hz0 := (hb.block _ (by rw [HS1.out]; omega)).trans HZ0.out
      have hz1 := (hb.block _ (by rw [HS1.out]; omega)).trans HZ1.out
      have HB2 := Lib.hid (HB0.out.trans (hb.mono HB0.out.size))
      have HR := Lib.hid (rwithout_any w2 m.pA m.pc m.props (HSW.out.below hb) (by omega) 2)
      have H20 := Lib.hid hz0
      have H21 := Lib.hid hz1
      have H2S := Lib.hid hb.size
      clear hb a0 a1 a2 a3 a4 a5 a6 a7 a8
      have a0 : w2.cell? ⟨w.heap.size, 0, none⟩ = some (.string m.topic) := cell_of hz0 rfl
      have a1 : w2.cell? ⟨w.heap.size, 1, none⟩ = some (.string m.payload) := cell_of hz0 rfl
      have a2 : w2.cell? ⟨w.heap.size, 2, none⟩ = some (.int .i64 m.qos) := cell_of hz0 rfl
      have a3 : w2.cell? ⟨w.heap.size, 3, none⟩ = some (.bool m.retain) := cell_of hz0 rfl
      have a4 : w2.cell? ⟨w.heap.size, 4, none⟩ = some (.slice m.pA m.props.length m.pc) := cell_of hz0 rfl
      have a5 : w2.cell? ⟨w.heap.size, 5, none⟩ = some (.string m.from_) := cell_of hz0 rfl
      have a6 : w2.cell? ⟨w.heap.size, 6, none⟩ = some (.int .i64 m.until_) := cell_of hz0 rfl
      have a7 : w2.cell? ⟨w.heap.size, 7, none⟩ = some (.int .i64 m.seq) := cell_of hz0 rfl
      have a8 : w2.cell? ⟨w.heap.size, 8, none⟩ = some (.string m.group) := cell_of hz0 rfl
      clear hz0 hz1
      go_wp2_with fail
      refine HR.out.mono ?_
      rintro e w3 ⟨⟨v, rfl, hR, hN⟩, hb⟩
      have hz0 := (hb.block _ (by have := lt_of_block H20.out; omega)).trans H20.out
      have hz1 := (hb.block _ (by have := lt_of_block H21.out; omega)).trans H21.out
      have hb3 := HB2.out.trans (hb.mono HB2.out.size)
      have hN3 : ∀ g, v.ownBlock = some g → w.heap.size + 1 + 1 ≤ g := by
        intro g hg
        have h1 := hN g hg
        have h2 := H2S.out
        rw [HS1.out] at h2
        omega
      obtain ⟨i0, hi, y0, y1, y2⟩ := info_parts info56
      have hwl := wo_le m.props 2
      obtain ⟨v', w4, hr, ho, ht, hloc, hsz⟩ := append_one (P := Try.prog) (ty := 22) Try.underlying22 hi y0 y1 y2 rfl (by decide) hR (Prp.cells ⟨2, told m now, ⟨#[]⟩, ⟨#[]⟩⟩) rfl (by simpa using prp_one [⟨2, told m now, ⟨#[]⟩, ⟨#[]⟩⟩]) (by unfold maxLen; omega) (by omega)
      have hz40 := (ht.block _ (lt_of_block hz0) (by intro h; have := hN3 _ (by simpa using h); omega)).trans hz0
      have hz41 := (ht.block _ (lt_of_block hz1) (by intro h; have := hN3 _ (by simpa using h); omega)).trans hz1
      have HRUN := Lib.hid hr
      have H40 := Lib.hid hz40
      have H41 := Lib.hid hz41
      have hN4 : ∀ g, v'.ownBlock = some g → w.heap.size + 1 + 1 ≤ g := by
        intro g hg
        rcases hloc g hg with h | h
        · exact hN3 g h
        · have := lt_of_block hz1
          omega
      have HN4 := Lib.hid hN4
      have HB4 := Lib.hid (hb3.trans (ht.below hb3.size (by intro i hi; have := hN3 i (by simpa using hi); omega)))
      have HO4 := Lib.hid ho
      unfold Prp.cells at HRUN
      have b0 : w3.cell? ⟨w.heap.size, 0, none⟩ = some (.string m.topic) := cell_of hz0 rfl
      have b1 : w3.cell? ⟨w.heap.size, 1, none⟩ = some (.string m.payload) := cell_of hz0 rfl
      have b2 : w3.cell? ⟨w.heap.size, 2, none⟩ = some (.int .i64 m.qos) := cell_of hz0 rfl
      have b3 : w3.cell? ⟨w.heap.size, 3, none⟩ = some (.bool m.retain) := cell_of hz0 rfl
      have b4 : w3.cell? ⟨w.heap.size, 4, none⟩ = some (.slice m.pA m.props.length m.pc) := cell_of hz0 rfl
      have b5 : w3.cell? ⟨w.heap.size, 5, none⟩ = some (.string m.from_) := cell_of hz0 rfl
      have b6 : w3.cell? ⟨w.heap.size, 6, none⟩ = some (.int .i64 m.until_) := cell_of hz0 rfl
      have b7 : w3.cell? ⟨w.heap.size, 7, none⟩ = some (.int .i64 m.seq) := cell_of hz0 rfl
      have b8 : w3.cell? ⟨w.heap.size, 8, none⟩ = some (.string m.group) := cell_of hz0 rfl
      obtain ⟨A', c', rfl, hRd⟩ := rd_own ho
      have x4 : w4.cell? ⟨w.heap.size, 4, none⟩ = some (.slice m.pA m.props.length m.pc) := cell_of H40.out rfl
      have xf := free_of H40.out 4
      have hz5 : (w4.setCell ⟨w.heap.size, 4, none⟩ (.slice A' ((wo m.props 2).length + 1) c')).heap[w.heap.size]? = some (.cells #[.string m.topic, .string m.payload, .int .i64 m.qos, .bool m.retain, .slice A' ((wo m.props 2).length + 1) c', .string m.from_, .int .i64 m.until_, .int .i64 m.seq, .string m.group] 24 (0, 0)) := set_of H40.out 4 _
      have hz6 : (w4.setCell ⟨w.heap.size, 4, none⟩ (.slice A' ((wo m.props 2).length + 1) c')).heap[w.heap.size + 1]? = some (.cells #[.string ⟨#[]⟩, .string ⟨#[]⟩, .int .i64 0, .bool false, .slice none 0 0, .string ⟨#[]⟩, .int .i64 0, .int .i64 0, .string ⟨#[]⟩] 24 (0, 0)) := (set_other (p := ⟨w.heap.size, 4, none⟩) (by simp) _).trans H41.out
      obtain ⟨w5, hw5⟩ : ∃ w5, w5 = w4.setCell ⟨w.heap.size, 4, none⟩ (.slice A' ((wo m.props 2).length + 1) c') := ⟨_, rfl⟩
      have hb5 : Below w.heap.size w w5 := by
        rw [hw5]
        exact (((Tch.of_below (S := []) HB4.out).setCell (p := ⟨w.heap.size, 4, none⟩) (.inr (Nat.le_refl _)) _).below (Nat.le_refl _) (by simp))
      have hr5 : Rd w5 A' ((wo m.props 2 ++ [(⟨2, told m now, ⟨#[]⟩, ⟨#[]⟩⟩ : Prp)]).flatMap Prp.cells) := by
        rw [List.flatMap_append, hw5]
        refine (show Rd w4 A' ((wo m.props 2).flatMap Prp.cells ++ [(⟨2, told m now, ⟨#[]⟩, ⟨#[]⟩⟩ : Prp)].flatMap Prp.cells) by simpa using hRd).block ?_
        intro ad hA _ _
        subst hA
        have h1 := HN4.out ad.block rfl
        exact set_other (p := ⟨w.heap.size, 4, none⟩) (by simp; omega) _
      rw [← hw5] at hz5 hz6
      have H50 := Lib.hid hz5
      have H51 := Lib.hid hz6
      have HB5 := Lib.hid hb5
      have HR5 := Lib.hid hr5
      have HW5 := Lib.hid hw5.symm
      clear hw5 hz5 hz6 hb5 hr5 hRd
      have r0 : w5.cell? ⟨w.heap.size, 0, none⟩ = some (.string m.topic) := cell_of H50.out rfl
      have r1 : w5.cell? ⟨w.heap.size, 1, none⟩ = some (.string m.payload) := cell_of H50.out rfl
      have r2 : w5.cell? ⟨w.heap.size, 2, none⟩ = some (.int .i64 m.qos) := cell_of H50.out rfl
      have r3 : w5.cell? ⟨w.heap.size, 3, none⟩ = some (.bool m.retain) := cell_of H50.out rfl
      have r4 : w5.cell? ⟨w.heap.size, 4, none⟩ = some (.slice A' ((wo m.props 2).length + 1) c') := cell_of H50.out rfl
      have r5 : w5.cell? ⟨w.heap.size, 5, none⟩ = some (.string m.from_) := cell_of H50.out rfl
      have r6 : w5.cell? ⟨w.heap.size, 6, none⟩ = some (.int .i64 m.until_) := cell_of H50.out rfl
      have r7 : w5.cell? ⟨w.heap.size, 7, none⟩ = some (.int .i64 m.seq) := cell_of H50.out rfl
      have r8 : w5.cell? ⟨w.heap.size, 8, none⟩ = some (.string m.group) := cell_of H50.out rfl
      have c0 : w5.cell? ⟨w.heap.size + 1, 0, none⟩ = some (.string ⟨#[]⟩) := cell_of H51.out rfl
      have c1 : w5.cell? ⟨w.heap.size + 1, 1, none⟩ = some (.string ⟨#[]⟩) := cell_of H51.out rfl
      have c2 : w5.cell? ⟨w.heap.size + 1, 2, none⟩ = some (.int .i64 0) := cell_of H51.out rfl
      have c3 : w5.cell? ⟨w.heap.size + 1, 3, none⟩ = some (.bool false) := cell_of H51.out rfl
      have c4 : w5.cell? ⟨w.heap.size + 1, 4, none⟩ = some (.slice none 0 0) := cell_of H51.out rfl
      have c5 : w5.cell? ⟨w.heap.size + 1, 5, none⟩ = some (.string ⟨#[]⟩) := cell_of H51.out rfl
      have c6 : w5.cell? ⟨w.heap.size + 1, 6, none⟩ = some (.int .i64 0) := cell_of H51.out rfl
      have c7 : w5.cell? ⟨w.heap.size + 1, 7, none⟩ = some (.int .i64 0) := cell_of H51.out rfl
      have c8 : w5.cell? ⟨w.heap.size + 1, 8, none⟩ = some (.string ⟨#[]⟩) := cell_of H51.out rfl
      have f0 := free_of H51.out 0
      have f1 := free_of H51.out 1
      have f2 := free_of H51.out 2
      have f3 := free_of H51.out 3
      have f4 := free_of H51.out 4
      have f5 := free_of H51.out 5
      have f6 := free_of H51.out 6
      have f7 := free_of H51.out 7
      have f8 := free_of H51.out 8
      have hp := put9 H51.out (.string m.topic) (.string m.payload) (.int .i64 m.qos) (.bool m.retain) (.slice A' ((wo m.props 2).length + 1) c') (.string m.from_) (.int .i64 m.until_) (.int .i64 m.seq) (.string m.group)
      have p0 := cell_of hp (o := 0) (v := .string m.topic) rfl
      have p1 := cell_of hp (o := 1) (v := .string m.payload) rfl
      have p2 := cell_of hp (o := 2) (v := .int .i64 m.qos) rfl
      have p3 := cell_of hp (o := 3) (v := .bool m.retain) rfl
      have p4 := cell_of hp (o := 4) (v := .slice A' ((wo m.props 2).length + 1) c') rfl
      have p5 := cell_of hp (o := 5) (v := .string m.from_) rfl
      have p6 := cell_of hp (o := 6) (v := .int .i64 m.until_) rfl
      have p7 := cell_of hp (o := 7) (v := .int .i64 m.seq) rfl
      have p8 := cell_of hp (o := 8) (v := .string m.group) rfl
      have HTE := Lib.hid (put9_tch w5 (w.heap.size + 1) (.string m.topic) (.string m.payload) (.int .i64 m.qos) (.bool m.retain) (.slice A' ((wo m.props 2).length + 1) c') (.string m.from_) (.int .i64 m.until_) (.int .i64 m.seq) (.string m.group))
      have key : ∀ w6, Tch [w.heap.size + 1] w5 w6 → PP (.returned (.tuple #[.agg #[.string m.topic, .string m.payload, .int .i64 m.qos, .bool m.retain, .slice A' ((wo m.props 2).length + 1) c', .string m.from_, .int .i64 m.until_, .int .i64 m.seq, .string m.group], .bool true])) w6 := by
        intro w6 ht6
        refine HPP.out _ _ ⟨fun h => (by rw [HCF.out] at h; cases h), fun _ => ⟨{ m with pA := A', pc := c', props := wo m.props 2 ++ [⟨2, told m now, ⟨#[]⟩, ⟨#[]⟩⟩] }, ?_, ⟨rfl, rfl, rfl, rfl, ?_, rfl, rfl, rfl, rfl⟩, HR5.out.block ?_⟩, HB5.out.trans (ht6.below HB5.out.size (by intro i hi; simp at hi; omega))⟩
        · unfold Mg.val
          rw [List.length_append]
          rfl
        · unfold leftP
          rw [if_pos hu]
        · intro ad hA _ hlt
          subst hA
          refine ht6.block _ hlt ?_
          have h1 := HN4.out ad.block rfl
          simp
          omega
      have HE := Lib.hid (key _ HTE.out)
      clear key
      clear hb hz0 hz1 hb3 hN3 hi y0 y1 y2 hwl hr ho ht hloc hsz hz40 hz41 hN4 a0 a1 a2 a3 a4 a5 a6 a7 a8 hR hN hp
      have HW5' := HW5.out
      have hto : told m now = 4294967295 := by unfold told; omega
      rw [hto] at HRUN
      go_wp2_with (at_builtin; first | refine wpList_append_eq rfl _ _ _ rfl rfl rfl HRUN.out ?_)
      exact bodyPost_ret (v := .tuple #[.agg #[.string m.topic, .string m.payload, .int .i64 m.qos, .bool m.retain, .slice A' ((wo m.props 2).length + 1) c', .string m.from_, .int .i64 m.until_, .int .i64 m.seq, .string m.group], .bool true]) (by simp [results, Try.results10, go_sem, *]) rfl HE.out
set_option maxRecDepth 100000 in
set_option maxHeartbeats 4000000 in
theorem rleft_2 (m : Mg) (now : Int) (w : World) (hS : Rd w m.pA (m.props.flatMap Prp.cells)) (hl : m.props.length < 100000) (hm : (Lit.int .i64 m.until_).wf = true) (hnow : (Lit.int .i64 now).wf = true) (hc : come m now = false) (hu : 0 < m.until_) (hn : now < 0) (hd : ¬ 4294967295 < m.until_) :
    Calls Try.prog 10 #[m.val, .int .i64 now] w (LPost m now w) := by
  generalize hP : LPost m now w = PP
  have HPP := Lib.hid (show ∀ e w', LPost m now w e w' → PP e w' by intro e w' h; rw [← hP]; exact h)
  clear hP
  have hb0 := alloc_below w (.cells #[.string m.topic, .string m.payload, .int .i64 m.qos, .bool m.retain, .slice m.pA m.props.length m.pc, .string m.from_, .int .i64 m.until_, .int .i64 m.seq, .string m.group] 24)
  have hb1 := alloc_below (w.alloc (.cells #[.string m.topic, .string m.payload, .int .i64 m.qos, .bool m.retain, .slice m.pA m.props.length m.pc, .string m.from_, .int .i64 m.until_, .int .i64 m.seq, .string m.group] 24)) (.cells #[.string ⟨#[]⟩, .string ⟨#[]⟩, .int .i64 0, .bool false, .slice none 0 0, .string ⟨#[]⟩, .int .i64 0, .int .i64 0, .string ⟨#[]⟩] 24)
  have hz0 := heap_alloc_new w (.cells #[.string m.topic, .string m.payload, .int .i64 m.qos, .bool m.retain, .slice m.pA m.props.length m.pc, .string m.from_, .int .i64 m.until_, .int .i64 m.seq, .string m.group] 24)
  have hz1 := heap_alloc_new (w.alloc (.cells #[.string m.topic, .string m.payload, .int .i64 m.qos, .bool m.retain, .slice m.pA m.props.length m.pc, .string m.from_, .int .i64 m.until_, .int .i64 m.seq, .string m.group] 24)) (.cells #[.string ⟨#[]⟩, .string ⟨#[]⟩, .int .i64 0, .bool false, .slice none 0 0, .string ⟨#[]⟩, .int .i64 0, .int .i64 0, .string ⟨#[]⟩] 24)
  have hs0 : (w.alloc (.cells #[.string m.topic, .string m.payload, .int .i64 m.qos, .bool m.retain, .slice m.pA m.props.length m.pc, .string m.from_, .int .i64 m.until_, .int .i64 m.seq, .string m.group] 24)).heap.size = w.heap.size + 1 := by simp
  have hs1 : ((w.alloc (.cells #[.string m.topic, .string m.payload, .int .i64 m.qos, .bool m.retain, .slice m.pA m.props.length m.pc, .string m.from_, .int .i64 m.until_, .int .i64 m.seq, .string m.group] 24)).alloc (.cells #[.string ⟨#[]⟩, .string ⟨#[]⟩, .int .i64 0, .bool false, .slice none 0 0, .string ⟨#[]⟩, .int .i64 0, .int .i64 0, .string ⟨#[]⟩] 24)).heap.size = w.heap.size + 1 + 1 := by simp
  have hbW := hb0.trans (hb1.mono hb0.size)
  have hz0' := (hb1.block w.heap.size (by rw [hs0]; omega)).trans hz0
  rw [hs0] at hz1
  have hSW := hS.below hbW
  have HSW0 := Lib.hid hS
  have hC := rcome_any m now ((w.alloc (.cells #[.string m.topic, .string m.payload, .int .i64 m.qos, .bool m.retain, .slice m.pA m.props.length m.pc, .string m.from_, .int .i64 m.until_, .int .i64 m.seq, .string m.group] 24)).alloc (.cells #[.string ⟨#[]⟩, .string ⟨#[]⟩, .int .i64 0, .bool false, .slice none 0 0, .string ⟨#[]⟩, .int .i64 0, .int .i64 0, .string ⟨#[]⟩] 24))
  obtain ⟨W, hW⟩ : ∃ W, W = (w.alloc (.cells #[.string m.topic, .string m.payload, .int .i64 m.qos, .bool m.retain, .slice m.pA m.props.length m.pc, .string m.from_, .int .i64 m.until_, .int .i64 m.seq, .string m.group] 24)).alloc (.cells #[.string ⟨#[]⟩, .string ⟨#[]⟩, .int .i64 0, .bool false, .slice none 0 0, .string ⟨#[]⟩, .int .i64 0, .int .i64 0, .string ⟨#[]⟩] 24) := ⟨_, rfl⟩
  have HW := Lib.hid hW
  rw [← hW] at hz0' hz1 hs1 hbW hSW hC
  have HB0 := Lib.hid hbW
  have HZ0 := Lib.hid hz0'
  have HZ1 := Lib.hid hz1
  have HS1 := Lib.hid hs1
  have HSW := Lib.hid hSW
  unfold Mg.val at hC
  have HC := Lib.hid hC
  have HX := Lib.hid (show come m now = (decide (0 < m.until_) && decide (m.until_ ≤ now)) from rfl)
  clear hb0 hb1 hz0 hz1 hs0 hs1 hbW hz0' hS hSW hC hW
  obtain ⟨hm0, hm1⟩ := bounds_i64 hm
  obtain ⟨hn0, hn1⟩ := bounds_i64 hnow
  clear hm hnow
  have a0 : W.cell? ⟨w.heap.size, 0, none⟩ = some (.string m.topic) := cell_of HZ0.out rfl
  have a1 : W.cell? ⟨w.heap.size, 1, none⟩ = some (.string m.payload) := cell_of HZ0.out rfl
  have a2 : W.cell? ⟨w.heap.size, 2, none⟩ = some (.int .i64 m.qos) := cell_of HZ0.out rfl
  have a3 : W.cell? ⟨w.heap.size, 3, none⟩ = some (.bool m.retain) := cell_of HZ0.out rfl
  have a4 : W.cell? ⟨w.heap.size, 4, none⟩ = some (.slice m.pA m.props.length m.pc) := cell_of HZ0.out rfl
  have a5 : W.cell? ⟨w.heap.size, 5, none⟩ = some (.string m.from_) := cell_of HZ0.out rfl
  have a6 : W.cell? ⟨w.heap.size, 6, none⟩ = some (.int .i64 m.until_) := cell_of HZ0.out rfl
  have a7 : W.cell? ⟨w.heap.size, 7, none⟩ = some (.int .i64 m.seq) := cell_of HZ0.out rfl
  have a8 : W.cell? ⟨w.heap.size, 8, none⟩ = some (.string m.group) := cell_of HZ0.out rfl
  unfold Mg.val
  case _ =>
      rw [hc] at HC
      have HCF := Lib.hid hc
      have hun : ¬ m.until_ ≤ now := by
        intro h
        rw [HX.out, decide_eq_true hu, decide_eq_true h] at hc
        cases hc
      clear hc
      go_enter Try.func10, Try.ntmps10
      go_upto_region 1 with (fail)
      rw [← HW.out]
      clear HW
      go_wp2_with fail
      refine HC.out.mono ?_
      rintro e w2 ⟨rfl, hb⟩
      have hz0 := (hb.block _ (by rw [HS1.out]; omega)).trans HZ0.out
      have hz1 := (hb.block _ (by rw [HS1.out]; omega)).trans HZ1.out
      have HB2 := Lib.hid (HB0.out.trans (hb.mono HB0.out.size))
      have HR := Lib.hid (rwithout_any w2 m.pA m.pc m.props (HSW.out.below hb) (by omega) 2)
      have H20 := Lib.hid hz0
      have H21 := Lib.hid hz1
      have H2S := Lib.hid hb.size
      clear hb a0 a1 a2 a3 a4 a5 a6 a7 a8
      have a0 : w2.cell? ⟨w.heap.size, 0, none⟩ = some (.string m.topic) := cell_of hz0 rfl
      have a1 : w2.cell? ⟨w.heap.size, 1, none⟩ = some (.string m.payload) := cell_of hz0 rfl
      have a2 : w2.cell? ⟨w.heap.size, 2, none⟩ = some (.int .i64 m.qos) := cell_of hz0 rfl
      have a3 : w2.cell? ⟨w.heap.size, 3, none⟩ = some (.bool m.retain) := cell_of hz0 rfl
      have a4 : w2.cell? ⟨w.heap.size, 4, none⟩ = some (.slice m.pA m.props.length m.pc) := cell_of hz0 rfl
      have a5 : w2.cell? ⟨w.heap.size, 5, none⟩ = some (.string m.from_) := cell_of hz0 rfl
      have a6 : w2.cell? ⟨w.heap.size, 6, none⟩ = some (.int .i64 m.until_) := cell_of hz0 rfl
      have a7 : w2.cell? ⟨w.heap.size, 7, none⟩ = some (.int .i64 m.seq) := cell_of hz0 rfl
      have a8 : w2.cell? ⟨w.heap.size, 8, none⟩ = some (.string m.group) := cell_of hz0 rfl
      clear hz0 hz1
      go_wp2_with fail
      refine HR.out.mono ?_
      rintro e w3 ⟨⟨v, rfl, hR, hN⟩, hb⟩
      have hz0 := (hb.block _ (by have := lt_of_block H20.out; omega)).trans H20.out
      have hz1 := (hb.block _ (by have := lt_of_block H21.out; omega)).trans H21.out
      have hb3 := HB2.out.trans (hb.mono HB2.out.size)
      have hN3 : ∀ g, v.ownBlock = some g → w.heap.size + 1 + 1 ≤ g := by
        intro g hg
        have h1 := hN g hg
        have h2 := H2S.out
        rw [HS1.out] at h2
        omega
      obtain ⟨i0, hi, y0, y1, y2⟩ := info_parts info56
      have hwl := wo_le m.props 2
      obtain ⟨v', w4, hr, ho, ht, hloc, hsz⟩ := append_one (P := Try.prog) (ty := 22) Try.underlying22 hi y0 y1 y2 rfl (by decide) hR (Prp.cells ⟨2, told m now, ⟨#[]⟩, ⟨#[]⟩⟩) rfl (by simpa using prp_one [⟨2, told m now, ⟨#[]⟩, ⟨#[]⟩⟩]) (by unfold maxLen; omega) (by omega)
      have hz40 := (ht.block _ (lt_of_block hz0) (by intro h; have := hN3 _ (by simpa using h); omega)).trans hz0
      have hz41 := (ht.block _ (lt_of_block hz1) (by intro h; have := hN3 _ (by simpa using h); omega)).trans hz1
      have HRUN := Lib.hid hr
      have H40 := Lib.hid hz40
      have H41 := Lib.hid hz41
      have hN4 : ∀ g, v'.ownBlock = some g → w.heap.size + 1 + 1 ≤ g := by
        intro g hg
        rcases hloc g hg with h | h
        · exact hN3 g h
        · have := lt_of_block hz1
          omega
      have HN4 := Lib.hid hN4
      have HB4 := Lib.hid (hb3.trans (ht.below hb3.size (by intro i hi; have := hN3 i (by simpa using hi); omega)))
      have HO4 := Lib.hid ho
      unfold Prp.cells at HRUN
      have b0 : w3.cell? ⟨w.heap.size, 0, none⟩ = some (.string m.topic) := cell_of hz0 rfl
      have b1 : w3.cell? ⟨w.heap.size, 1, none⟩ = some (.string m.payload) := cell_of hz0 rfl
      have b2 : w3.cell? ⟨w.heap.size, 2, none⟩ = some (.int .i64 m.qos) := cell_of hz0 rfl
      have b3 : w3.cell? ⟨w.heap.size, 3, none⟩ = some (.bool m.retain) := cell_of hz0 rfl
      have b4 : w3.cell? ⟨w.heap.size, 4, none⟩ = some (.slice m.pA m.props.length m.pc) := cell_of hz0 rfl
      have b5 : w3.cell? ⟨w.heap.size, 5, none⟩ = some (.string m.from_) := cell_of hz0 rfl
      have b6 : w3.cell? ⟨w.heap.size, 6, none⟩ = some (.int .i64 m.until_) := cell_of hz0 rfl
      have b7 : w3.cell? ⟨w.heap.size, 7, none⟩ = some (.int .i64 m.seq) := cell_of hz0 rfl
      have b8 : w3.cell? ⟨w.heap.size, 8, none⟩ = some (.string m.group) := cell_of hz0 rfl
      obtain ⟨A', c', rfl, hRd⟩ := rd_own ho
      have x4 : w4.cell? ⟨w.heap.size, 4, none⟩ = some (.slice m.pA m.props.length m.pc) := cell_of H40.out rfl
      have xf := free_of H40.out 4
      have hz5 : (w4.setCell ⟨w.heap.size, 4, none⟩ (.slice A' ((wo m.props 2).length + 1) c')).heap[w.heap.size]? = some (.cells #[.string m.topic, .string m.payload, .int .i64 m.qos, .bool m.retain, .slice A' ((wo m.props 2).length + 1) c', .string m.from_, .int .i64 m.until_, .int .i64 m.seq, .string m.group] 24 (0, 0)) := set_of H40.out 4 _
      have hz6 : (w4.setCell ⟨w.heap.size, 4, none⟩ (.slice A' ((wo m.props 2).length + 1) c')).heap[w.heap.size + 1]? = some (.cells #[.string ⟨#[]⟩, .string ⟨#[]⟩, .int .i64 0, .bool false, .slice none 0 0, .string ⟨#[]⟩, .int .i64 0, .int .i64 0, .string ⟨#[]⟩] 24 (0, 0)) := (set_other (p := ⟨w.heap.size, 4, none⟩) (by simp) _).trans H41.out
      obtain ⟨w5, hw5⟩ : ∃ w5, w5 = w4.setCell ⟨w.heap.size, 4, none⟩ (.slice A' ((wo m.props 2).length + 1) c') := ⟨_, rfl⟩
      have hb5 : Below w.heap.size w w5 := by
        rw [hw5]
        exact (((Tch.of_below (S := []) HB4.out).setCell (p := ⟨w.heap.size, 4, none⟩) (.inr (Nat.le_refl _)) _).below (Nat.le_refl _) (by simp))
      have hr5 : Rd w5 A' ((wo m.props 2 ++ [(⟨2, told m now, ⟨#[]⟩, ⟨#[]⟩⟩ : Prp)]).flatMap Prp.cells) := by
        rw [List.flatMap_append, hw5]
        refine (show Rd w4 A' ((wo m.props 2).flatMap Prp.cells ++ [(⟨2, told m now, ⟨#[]⟩, ⟨#[]⟩⟩ : Prp)].flatMap Prp.cells) by simpa using hRd).block ?_
        intro ad hA _ _
        subst hA
        have h1 := HN4.out ad.block rfl
        exact set_other (p := ⟨w.heap.size, 4, none⟩) (by simp; omega) _
      rw [← hw5] at hz5 hz6
      have H50 := Lib.hid hz5
      have H51 := Lib.hid hz6
      have HB5 := Lib.hid hb5
      have HR5 := Lib.hid hr5
      have HW5 := Lib.hid hw5.symm
      clear hw5 hz5 hz6 hb5 hr5 hRd
      have r0 : w5.cell? ⟨w.heap.size, 0, none⟩ = some (.string m.topic) := cell_of H50.out rfl
      have r1 : w5.cell? ⟨w.heap.size, 1, none⟩ = some (.string m.payload) := cell_of H50.out rfl
      have r2 : w5.cell? ⟨w.heap.size, 2, none⟩ = some (.int .i64 m.qos) := cell_of H50.out rfl
      have r3 : w5.cell? ⟨w.heap.size, 3, none⟩ = some (.bool m.retain) := cell_of H50.out rfl
      have r4 : w5.cell? ⟨w.heap.size, 4, none⟩ = some (.slice A' ((wo m.props 2).length + 1) c') := cell_of H50.out rfl
      have r5 : w5.cell? ⟨w.heap.size, 5, none⟩ = some (.string m.from_) := cell_of H50.out rfl
      have r6 : w5.cell? ⟨w.heap.size, 6, none⟩ = some (.int .i64 m.until_) := cell_of H50.out rfl
      have r7 : w5.cell? ⟨w.heap.size, 7, none⟩ = some (.int .i64 m.seq) := cell_of H50.out rfl
      have r8 : w5.cell? ⟨w.heap.size, 8, none⟩ = some (.string m.group) := cell_of H50.out rfl
      have c0 : w5.cell? ⟨w.heap.size + 1, 0, none⟩ = some (.string ⟨#[]⟩) := cell_of H51.out rfl
      have c1 : w5.cell? ⟨w.heap.size + 1, 1, none⟩ = some (.string ⟨#[]⟩) := cell_of H51.out rfl
      have c2 : w5.cell? ⟨w.heap.size + 1, 2, none⟩ = some (.int .i64 0) := cell_of H51.out rfl
      have c3 : w5.cell? ⟨w.heap.size + 1, 3, none⟩ = some (.bool false) := cell_of H51.out rfl
      have c4 : w5.cell? ⟨w.heap.size + 1, 4, none⟩ = some (.slice none 0 0) := cell_of H51.out rfl
      have c5 : w5.cell? ⟨w.heap.size + 1, 5, none⟩ = some (.string ⟨#[]⟩) := cell_of H51.out rfl
      have c6 : w5.cell? ⟨w.heap.size + 1, 6, none⟩ = some (.int .i64 0) := cell_of H51.out rfl
      have c7 : w5.cell? ⟨w.heap.size + 1, 7, none⟩ = some (.int .i64 0) := cell_of H51.out rfl
      have c8 : w5.cell? ⟨w.heap.size + 1, 8, none⟩ = some (.string ⟨#[]⟩) := cell_of H51.out rfl
      have f0 := free_of H51.out 0
      have f1 := free_of H51.out 1
      have f2 := free_of H51.out 2
      have f3 := free_of H51.out 3
      have f4 := free_of H51.out 4
      have f5 := free_of H51.out 5
      have f6 := free_of H51.out 6
      have f7 := free_of H51.out 7
      have f8 := free_of H51.out 8
      have hp := put9 H51.out (.string m.topic) (.string m.payload) (.int .i64 m.qos) (.bool m.retain) (.slice A' ((wo m.props 2).length + 1) c') (.string m.from_) (.int .i64 m.until_) (.int .i64 m.seq) (.string m.group)
      have p0 := cell_of hp (o := 0) (v := .string m.topic) rfl
      have p1 := cell_of hp (o := 1) (v := .string m.payload) rfl
      have p2 := cell_of hp (o := 2) (v := .int .i64 m.qos) rfl
      have p3 := cell_of hp (o := 3) (v := .bool m.retain) rfl
      have p4 := cell_of hp (o := 4) (v := .slice A' ((wo m.props 2).length + 1) c') rfl
      have p5 := cell_of hp (o := 5) (v := .string m.from_) rfl
      have p6 := cell_of hp (o := 6) (v := .int .i64 m.until_) rfl
      have p7 := cell_of hp (o := 7) (v := .int .i64 m.seq) rfl
      have p8 := cell_of hp (o := 8) (v := .string m.group) rfl
      have HTE := Lib.hid (put9_tch w5 (w.heap.size + 1) (.string m.topic) (.string m.payload) (.int .i64 m.qos) (.bool m.retain) (.slice A' ((wo m.props 2).length + 1) c') (.string m.from_) (.int .i64 m.until_) (.int .i64 m.seq) (.string m.group))
      have key : ∀ w6, Tch [w.heap.size + 1] w5 w6 → PP (.returned (.tuple #[.agg #[.string m.topic, .string m.payload, .int .i64 m.qos, .bool m.retain, .slice A' ((wo m.props 2).length + 1) c', .string m.from_, .int .i64 m.until_, .int .i64 m.seq, .string m.group], .bool true])) w6 := by
        intro w6 ht6
        refine HPP.out _ _ ⟨fun h => (by rw [HCF.out] at h; cases h), fun _ => ⟨{ m with pA := A', pc := c', props := wo m.props 2 ++ [⟨2, told m now, ⟨#[]⟩, ⟨#[]⟩⟩] }, ?_, ⟨rfl, rfl, rfl, rfl, ?_, rfl, rfl, rfl, rfl⟩, HR5.out.block ?_⟩, HB5.out.trans (ht6.below HB5.out.size (by intro i hi; simp at hi; omega))⟩
        · unfold Mg.val
          rw [List.length_append]
          rfl
        · unfold leftP
          rw [if_pos hu]
        · intro ad hA _ hlt
          subst hA
          refine ht6.block _ hlt ?_
          have h1 := HN4.out ad.block rfl
          simp
          omega
      have HE := Lib.hid (key _ HTE.out)
      clear key
      clear hb hz0 hz1 hb3 hN3 hi y0 y1 y2 hwl hr ho ht hloc hsz hz40 hz41 hN4 a0 a1 a2 a3 a4 a5 a6 a7 a8 hR hN hp
      have HW5' := HW5.out
      have hto : told m now = m.until_ := by unfold told; omega
      rw [hto] at HRUN
      go_wp2_with (at_builtin; first | refine wpList_append_eq rfl _ _ _ rfl rfl rfl HRUN.out ?_)
      exact bodyPost_ret (v := .tuple #[.agg #[.string m.topic, .string m.payload, .int .i64 m.qos, .bool m.retain, .slice A' ((wo m.props 2).length + 1) c', .string m.from_, .int .i64 m.until_, .int .i64 m.seq, .string m.group], .bool true]) (by simp [results, Try.results10, go_sem, *]) rfl HE.out
set_option maxRecDepth 100000 in
set_option maxHeartbeats 4000000 in
theorem rleft_3 (m : Mg) (now : Int) (w : World) (hS : Rd w m.pA (m.props.flatMap Prp.cells)) (hl : m.props.length < 100000) (hm : (Lit.int .i64 m.until_).wf = true) (hnow : (Lit.int .i64 now).wf = true) (hc : come m now = false) (hu : 0 < m.until_) (hn : ¬ now < 0) (hd : 4294967295 < m.until_ - now) :
    Calls Try.prog 10 #[m.val, .int .i64 now] w (LPost m now w) := by
  generalize hP : LPost m now w = PP
  have HPP := Lib.hid (show ∀ e w', LPost m now w e w' → PP e w' by intro e w' h; rw [← hP]; exact h)
  clear hP
  have hb0 := alloc_below w (.cells #[.string m.topic, .string m.payload, .int .i64 m.qos, .bool m.retain, .slice m.pA m.props.length m.pc, .string m.from_, .int .i64 m.until_, .int .i64 m.seq, .string m.group] 24)
  have hb1 := alloc_below (w.alloc (.cells #[.string m.topic, .string m.payload, .int .i64 m.qos, .bool m.retain, .slice m.pA m.props.length m.pc, .string m.from_, .int .i64 m.until_, .int .i64 m.seq, .string m.group] 24)) (.cells #[.string ⟨#[]⟩, .string ⟨#[]⟩, .int .i64 0, .bool false, .slice none 0 0, .string ⟨#[]⟩, .int .i64 0, .int .i64 0, .string ⟨#[]⟩] 24)
  have hz0 := heap_alloc_new w (.cells #[.string m.topic, .string m.payload, .int .i64 m.qos, .bool m.retain, .slice m.pA m.props.length m.pc, .string m.from_, .int .i64 m.until_, .int .i64 m.seq, .string m.group] 24)
  have hz1 := heap_alloc_new (w.alloc (.cells #[.string m.topic, .string m.payload, .int .i64 m.qos, .bool m.retain, .slice m.pA m.props.length m.pc, .string m.from_, .int .i64 m.until_, .int .i64 m.seq, .string m.group] 24)) (.cells #[.string ⟨#[]⟩, .string ⟨#[]⟩, .int .i64 0, .bool false, .slice none 0 0, .string ⟨#[]⟩, .int .i64 0, .int .i64 0, .string ⟨#[]⟩] 24)
  have hs0 : (w.alloc (.cells #[.string m.topic, .string m.payload, .int .i64 m.qos, .bool m.retain, .slice m.pA m.props.length m.pc, .string m.from_, .int .i64 m.until_, .int .i64 m.seq, .string m.group] 24)).heap.size = w.heap.size + 1 := by simp
  have hs1 : ((w.alloc (.cells #[.string m.topic, .string m.payload, .int .i64 m.qos, .bool m.retain, .slice m.pA m.props.length m.pc, .string m.from_, .int .i64 m.until_, .int .i64 m.seq, .string m.group] 24)).alloc (.cells #[.string ⟨#[]⟩, .string ⟨#[]⟩, .int .i64 0, .bool false, .slice none 0 0, .string ⟨#[]⟩, .int .i64 0, .int .i64 0, .string ⟨#[]⟩] 24)).heap.size = w.heap.size + 1 + 1 := by simp
  have hbW := hb0.trans (hb1.mono hb0.size)
  have hz0' := (hb1.block w.heap.size (by rw [hs0]; omega)).trans hz0
  rw [hs0] at hz1
  have hSW := hS.below hbW
  have HSW0 := Lib.hid hS
  have hC := rcome_any m now ((w.alloc (.cells #[.string m.topic, .string m.payload, .int .i64 m.qos, .bool m.retain, .slice m.pA m.props.length m.pc, .string m.from_, .int .i64 m.until_, .int .i64 m.seq, .string m.group] 24)).alloc (.cells #[.string ⟨#[]⟩, .string ⟨#[]⟩, .int .i64 0, .bool false, .slice none 0 0, .string ⟨#[]⟩, .int .i64 0, .int .i64 0, .string ⟨#[]⟩] 24))
  obtain ⟨W, hW⟩ : ∃ W, W = (w.alloc (.cells #[.string m.topic, .string m.payload, .int .i64 m.qos, .bool m.retain, .slice m.pA m.props.length m.pc, .string m.from_, .int .i64 m.until_, .int .i64 m.seq, .string m.group] 24)).alloc (.cells #[.string ⟨#[]⟩, .string ⟨#[]⟩, .int .i64 0, .bool false, .slice none 0 0, .string ⟨#[]⟩, .int .i64 0, .int .i64 0, .string ⟨#[]⟩] 24) := ⟨_, rfl⟩
  have HW := Lib.hid hW
  rw [← hW] at hz0' hz1 hs1 hbW hSW hC
  have HB0 := Lib.hid hbW
  have HZ0 := Lib.hid hz0'
  have HZ1 := Lib.hid hz1
  have HS1 := Lib.hid hs1
  have HSW := Lib.hid hSW
  unfold Mg.val at hC
  have HC := Lib.hid hC
  have HX := Lib.hid (show come m now = (decide (0 < m.until_) && decide (m.until_ ≤ now)) from rfl)
  clear hb0 hb1 hz0 hz1 hs0 hs1 hbW hz0' hS hSW hC hW
  obtain ⟨hm0, hm1⟩ := bounds_i64 hm
  obtain ⟨hn0, hn1⟩ := bounds_i64 hnow
  clear hm hnow
  have a0 : W.cell? ⟨w.heap.size, 0, none⟩ = some (.string m.topic) := cell_of HZ0.out rfl
  have a1 : W.cell? ⟨w.heap.size, 1, none⟩ = some (.string m.payload) := cell_of HZ0.out rfl
  have a2 : W.cell? ⟨w.heap.size, 2, none⟩ = some (.int .i64 m.qos) := cell_of HZ0.out rfl
  have a3 : W.cell? ⟨w.heap.size, 3, none⟩ = some (.bool m.retain) := cell_of HZ0.out rfl
  have a4 : W.cell? ⟨w.heap.size, 4, none⟩ = some (.slice m.pA m.props.length m.pc) := cell_of HZ0.out rfl
  have a5 : W.cell? ⟨w.heap.size, 5, none⟩ = some (.string m.from_) := cell_of HZ0.out rfl
  have a6 : W.cell? ⟨w.heap.size, 6, none⟩ = some (.int .i64 m.until_) := cell_of HZ0.out rfl
  have a7 : W.cell? ⟨w.heap.size, 7, none⟩ = some (.int .i64 m.seq) := cell_of HZ0.out rfl
  have a8 : W.cell? ⟨w.heap.size, 8, none⟩ = some (.string m.group) := cell_of HZ0.out rfl
  unfold Mg.val
  case _ =>
      rw [hc] at HC
      have HCF := Lib.hid hc
      have hun : ¬ m.until_ ≤ now := by
        intro h
        rw [HX.out, decide_eq_true hu, decide_eq_true h] at hc
        cases hc
      clear hc
      go_enter Try.func10, Try.ntmps10
      go_upto_region 1 with (fail)
      rw [← HW.out]
      clear HW
      go_wp2_with fail
      refine HC.out.mono ?_
      rintro e w2 ⟨rfl, hb⟩
      have hz0 := (hb.block _ (by rw [HS1.out]; omega)).trans HZ0.out
      have hz1 := (hb.block _ (by rw [HS1.out]; omega)).trans HZ1.out
      have HB2 := Lib.hid (HB0.out.trans (hb.mono HB0.out.size))
      have HR := Lib.hid (rwithout_any w2 m.pA m.pc m.props (HSW.out.below hb) (by omega) 2)
      have H20 := Lib.hid hz0
      have H21 := Lib.hid hz1
      have H2S := Lib.hid hb.size
      clear hb a0 a1 a2 a3 a4 a5 a6 a7 a8
      have a0 : w2.cell? ⟨w.heap.size, 0, none⟩ = some (.string m.topic) := cell_of hz0 rfl
      have a1 : w2.cell? ⟨w.heap.size, 1, none⟩ = some (.string m.payload) := cell_of hz0 rfl
      have a2 : w2.cell? ⟨w.heap.size, 2, none⟩ = some (.int .i64 m.qos) := cell_of hz0 rfl
      have a3 : w2.cell? ⟨w.heap.size, 3, none⟩ = some (.bool m.retain) := cell_of hz0 rfl
      have a4 : w2.cell? ⟨w.heap.size, 4, none⟩ = some (.slice m.pA m.props.length m.pc) := cell_of hz0 rfl
      have a5 : w2.cell? ⟨w.heap.size, 5, none⟩ = some (.string m.from_) := cell_of hz0 rfl
      have a6 : w2.cell? ⟨w.heap.size, 6, none⟩ = some (.int .i64 m.until_) := cell_of hz0 rfl
      have a7 : w2.cell? ⟨w.heap.size, 7, none⟩ = some (.int .i64 m.seq) := cell_of hz0 rfl
      have a8 : w2.cell? ⟨w.heap.size, 8, none⟩ = some (.string m.group) := cell_of hz0 rfl
      clear hz0 hz1
      go_wp2_with fail
      refine HR.out.mono ?_
      rintro e w3 ⟨⟨v, rfl, hR, hN⟩, hb⟩
      have hz0 := (hb.block _ (by have := lt_of_block H20.out; omega)).trans H20.out
      have hz1 := (hb.block _ (by have := lt_of_block H21.out; omega)).trans H21.out
      have hb3 := HB2.out.trans (hb.mono HB2.out.size)
      have hN3 : ∀ g, v.ownBlock = some g → w.heap.size + 1 + 1 ≤ g := by
        intro g hg
        have h1 := hN g hg
        have h2 := H2S.out
        rw [HS1.out] at h2
        omega
      obtain ⟨i0, hi, y0, y1, y2⟩ := info_parts info56
      have hwl := wo_le m.props 2
      obtain ⟨v', w4, hr, ho, ht, hloc, hsz⟩ := append_one (P := Try.prog) (ty := 22) Try.underlying22 hi y0 y1 y2 rfl (by decide) hR (Prp.cells ⟨2, told m now, ⟨#[]⟩, ⟨#[]⟩⟩) rfl (by simpa using prp_one [⟨2, told m now, ⟨#[]⟩, ⟨#[]⟩⟩]) (by unfold maxLen; omega) (by omega)
      have hz40 := (ht.block _ (lt_of_block hz0) (by intro h; have := hN3 _ (by simpa using h); omega)).trans hz0
      have hz41 := (ht.block _ (lt_of_block hz1) (by intro h; have := hN3 _ (by simpa using h); omega)).trans hz1
      have HRUN := Lib.hid hr
      have H40 := Lib.hid hz40
      have H41 := Lib.hid hz41
      have hN4 : ∀ g, v'.ownBlock = some g → w.heap.size + 1 + 1 ≤ g := by
        intro g hg
        rcases hloc g hg with h | h
        · exact hN3 g h
        · have := lt_of_block hz1
          omega
      have HN4 := Lib.hid hN4
      have HB4 := Lib.hid (hb3.trans (ht.below hb3.size (by intro i hi; have := hN3 i (by simpa using hi); omega)))
      have HO4 := Lib.hid ho
      unfold Prp.cells at HRUN
      have b0 : w3.cell? ⟨w.heap.size, 0, none⟩ = some (.string m.topic) := cell_of hz0 rfl
      have b1 : w3.cell? ⟨w.heap.size, 1, none⟩ = some (.string m.payload) := cell_of hz0 rfl
      have b2 : w3.cell? ⟨w.heap.size, 2, none⟩ = some (.int .i64 m.qos) := cell_of hz0 rfl
      have b3 : w3.cell? ⟨w.heap.size, 3, none⟩ = some (.bool m.retain) := cell_of hz0 rfl
      have b4 : w3.cell? ⟨w.heap.size, 4, none⟩ = some (.slice m.pA m.props.length m.pc) := cell_of hz0 rfl
      have b5 : w3.cell? ⟨w.heap.size, 5, none⟩ = some (.string m.from_) := cell_of hz0 rfl
      have b6 : w3.cell? ⟨w.heap.size, 6, none⟩ = some (.int .i64 m.until_) := cell_of hz0 rfl
      have b7 : w3.cell? ⟨w.heap.size, 7, none⟩ = some (.int .i64 m.seq) := cell_of hz0 rfl
      have b8 : w3.cell? ⟨w.heap.size, 8, none⟩ = some (.string m.group) := cell_of hz0 rfl
      obtain ⟨A', c', rfl, hRd⟩ := rd_own ho
      have x4 : w4.cell? ⟨w.heap.size, 4, none⟩ = some (.slice m.pA m.props.length m.pc) := cell_of H40.out rfl
      have xf := free_of H40.out 4
      have hz5 : (w4.setCell ⟨w.heap.size, 4, none⟩ (.slice A' ((wo m.props 2).length + 1) c')).heap[w.heap.size]? = some (.cells #[.string m.topic, .string m.payload, .int .i64 m.qos, .bool m.retain, .slice A' ((wo m.props 2).length + 1) c', .string m.from_, .int .i64 m.until_, .int .i64 m.seq, .string m.group] 24 (0, 0)) := set_of H40.out 4 _
      have hz6 : (w4.setCell ⟨w.heap.size, 4, none⟩ (.slice A' ((wo m.props 2).length + 1) c')).heap[w.heap.size + 1]? = some (.cells #[.string ⟨#[]⟩, .string ⟨#[]⟩, .int .i64 0, .bool false, .slice none 0 0, .string ⟨#[]⟩, .int .i64 0, .int .i64 0, .string ⟨#[]⟩] 24 (0, 0)) := (set_other (p := ⟨w.heap.size, 4, none⟩) (by simp) _).trans H41.out
      obtain ⟨w5, hw5⟩ : ∃ w5, w5 = w4.setCell ⟨w.heap.size, 4, none⟩ (.slice A' ((wo m.props 2).length + 1) c') := ⟨_, rfl⟩
      have hb5 : Below w.heap.size w w5 := by
        rw [hw5]
        exact (((Tch.of_below (S := []) HB4.out).setCell (p := ⟨w.heap.size, 4, none⟩) (.inr (Nat.le_refl _)) _).below (Nat.le_refl _) (by simp))
      have hr5 : Rd w5 A' ((wo m.props 2 ++ [(⟨2, told m now, ⟨#[]⟩, ⟨#[]⟩⟩ : Prp)]).flatMap Prp.cells) := by
        rw [List.flatMap_append, hw5]
        refine (show Rd w4 A' ((wo m.props 2).flatMap Prp.cells ++ [(⟨2, told m now, ⟨#[]⟩, ⟨#[]⟩⟩ : Prp)].flatMap Prp.cells) by simpa using hRd).block ?_
        intro ad hA _ _
        subst hA
        have h1 := HN4.out ad.block rfl
        exact set_other (p := ⟨w.heap.size, 4, none⟩) (by simp; omega) _
      rw [← hw5] at hz5 hz6
      have H50 := Lib.hid hz5
      have H51 := Lib.hid hz6
      have HB5 := Lib.hid hb5
      have HR5 := Lib.hid hr5
      have HW5 := Lib.hid hw5.symm
      clear hw5 hz5 hz6 hb5 hr5 hRd
      have r0 : w5.cell? ⟨w.heap.size, 0, none⟩ = some (.string m.topic) := cell_of H50.out rfl
      have r1 : w5.cell? ⟨w.heap.size, 1, none⟩ = some (.string m.payload) := cell_of H50.out rfl
      have r2 : w5.cell? ⟨w.heap.size, 2, none⟩ = some (.int .i64 m.qos) := cell_of H50.out rfl
      have r3 : w5.cell? ⟨w.heap.size, 3, none⟩ = some (.bool m.retain) := cell_of H50.out rfl
      have r4 : w5.cell? ⟨w.heap.size, 4, none⟩ = some (.slice A' ((wo m.props 2).length + 1) c') := cell_of H50.out rfl
      have r5 : w5.cell? ⟨w.heap.size, 5, none⟩ = some (.string m.from_) := cell_of H50.out rfl
      have r6 : w5.cell? ⟨w.heap.size, 6, none⟩ = some (.int .i64 m.until_) := cell_of H50.out rfl
      have r7 : w5.cell? ⟨w.heap.size, 7, none⟩ = some (.int .i64 m.seq) := cell_of H50.out rfl
      have r8 : w5.cell? ⟨w.heap.size, 8, none⟩ = some (.string m.group) := cell_of H50.out rfl
      have c0 : w5.cell? ⟨w.heap.size + 1, 0, none⟩ = some (.string ⟨#[]⟩) := cell_of H51.out rfl
      have c1 : w5.cell? ⟨w.heap.size + 1, 1, none⟩ = some (.string ⟨#[]⟩) := cell_of H51.out rfl
      have c2 : w5.cell? ⟨w.heap.size + 1, 2, none⟩ = some (.int .i64 0) := cell_of H51.out rfl
      have c3 : w5.cell? ⟨w.heap.size + 1, 3, none⟩ = some (.bool false) := cell_of H51.out rfl
      have c4 : w5.cell? ⟨w.heap.size + 1, 4, none⟩ = some (.slice none 0 0) := cell_of H51.out rfl
      have c5 : w5.cell? ⟨w.heap.size + 1, 5, none⟩ = some (.string ⟨#[]⟩) := cell_of H51.out rfl
      have c6 : w5.cell? ⟨w.heap.size + 1, 6, none⟩ = some (.int .i64 0) := cell_of H51.out rfl
      have c7 : w5.cell? ⟨w.heap.size + 1, 7, none⟩ = some (.int .i64 0) := cell_of H51.out rfl
      have c8 : w5.cell? ⟨w.heap.size + 1, 8, none⟩ = some (.string ⟨#[]⟩) := cell_of H51.out rfl
      have f0 := free_of H51.out 0
      have f1 := free_of H51.out 1
      have f2 := free_of H51.out 2
      have f3 := free_of H51.out 3
      have f4 := free_of H51.out 4
      have f5 := free_of H51.out 5
      have f6 := free_of H51.out 6
      have f7 := free_of H51.out 7
      have f8 := free_of H51.out 8
      have hp := put9 H51.out (.string m.topic) (.string m.payload) (.int .i64 m.qos) (.bool m.retain) (.slice A' ((wo m.props 2).length + 1) c') (.string m.from_) (.int .i64 m.until_) (.int .i64 m.seq) (.string m.group)
      have p0 := cell_of hp (o := 0) (v := .string m.topic) rfl
      have p1 := cell_of hp (o := 1) (v := .string m.payload) rfl
      have p2 := cell_of hp (o := 2) (v := .int .i64 m.qos) rfl
      have p3 := cell_of hp (o := 3) (v := .bool m.retain) rfl
      have p4 := cell_of hp (o := 4) (v := .slice A' ((wo m.props 2).length + 1) c') rfl
      have p5 := cell_of hp (o := 5) (v := .string m.from_) rfl
      have p6 := cell_of hp (o := 6) (v := .int .i64 m.until_) rfl
      have p7 := cell_of hp (o := 7) (v := .int .i64 m.seq) rfl
      have p8 := cell_of hp (o := 8) (v := .string m.group) rfl
      have HTE := Lib.hid (put9_tch w5 (w.heap.size + 1) (.string m.topic) (.string m.payload) (.int .i64 m.qos) (.bool m.retain) (.slice A' ((wo m.props 2).length + 1) c') (.string m.from_) (.int .i64 m.until_) (.int .i64 m.seq) (.string m.group))
      have key : ∀ w6, Tch [w.heap.size + 1] w5 w6 → PP (.returned (.tuple #[.agg #[.string m.topic, .string m.payload, .int .i64 m.qos, .bool m.retain, .slice A' ((wo m.props 2).length + 1) c', .string m.from_, .int .i64 m.until_, .int .i64 m.seq, .string m.group], .bool true])) w6 := by
        intro w6 ht6
        refine HPP.out _ _ ⟨fun h => (by rw [HCF.out] at h; cases h), fun _ => ⟨{ m with pA := A', pc := c', props := wo m.props 2 ++ [⟨2, told m now, ⟨#[]⟩, ⟨#[]⟩⟩] }, ?_, ⟨rfl, rfl, rfl, rfl, ?_, rfl, rfl, rfl, rfl⟩, HR5.out.block ?_⟩, HB5.out.trans (ht6.below HB5.out.size (by intro i hi; simp at hi; omega))⟩
        · unfold Mg.val
          rw [List.length_append]
          rfl
        · unfold leftP
          rw [if_pos hu]
        · intro ad hA _ hlt
          subst hA
          refine ht6.block _ hlt ?_
          have h1 := HN4.out ad.block rfl
          simp
          omega
      have HE := Lib.hid (key _ HTE.out)
      clear key
      clear hb hz0 hz1 hb3 hN3 hi y0 y1 y2 hwl hr ho ht hloc hsz hz40 hz41 hN4 a0 a1 a2 a3 a4 a5 a6 a7 a8 hR hN hp
      have HW5' := HW5.out
      have hto : told m now = 4294967295 := by unfold told; omega
      rw [hto] at HRUN
      go_wp2_with (at_builtin; first | refine wpList_append_eq rfl _ _ _ rfl rfl rfl HRUN.out ?_)
      exact bodyPost_ret (v := .tuple #[.agg #[.string m.topic, .string m.payload, .int .i64 m.qos, .bool m.retain, .slice A' ((wo m.props 2).length + 1) c', .string m.from_, .int .i64 m.until_, .int .i64 m.seq, .string m.group], .bool true]) (by simp [results, Try.results10, go_sem, *]) rfl HE.out
set_option maxRecDepth 100000 in
set_option maxHeartbeats 4000000 in
theorem rleft_4 (m : Mg) (now : Int) (w : World) (hS : Rd w m.pA (m.props.flatMap Prp.cells)) (hl : m.props.length < 100000) (hm : (Lit.int .i64 m.until_).wf = true) (hnow : (Lit.int .i64 now).wf = true) (hc : come m now = false) (hu : 0 < m.until_) (hn : ¬ now < 0) (hd : ¬ 4294967295 < m.until_ - now) :
    Calls Try.prog 10 #[m.val, .int .i64 now] w (LPost m now w) := by
  generalize hP : LPost m now w = PP
  have HPP := Lib.hid (show ∀ e w', LPost m now w e w' → PP e w' by intro e w' h; rw [← hP]; exact h)
  clear hP
  have hb0 := alloc_below w (.cells #[.string m.topic, .string m.payload, .int .i64 m.qos, .bool m.retain, .slice m.pA m.props.length m.pc, .string m.from_, .int .i64 m.until_, .int .i64 m.seq, .string m.group] 24)
  have hb1 := alloc_below (w.alloc (.cells #[.string m.topic, .string m.payload, .int .i64 m.qos, .bool m.retain, .slice m.pA m.props.length m.pc, .string m.from_, .int .i64 m.until_, .int .i64 m.seq, .string m.group] 24)) (.cells #[.string ⟨#[]⟩, .string ⟨#[]⟩, .int .i64 0, .bool false, .slice none 0 0, .string ⟨#[]⟩, .int .i64 0, .int .i64 0, .string ⟨#[]⟩] 24)
  have hz0 := heap_alloc_new w (.cells #[.string m.topic, .string m.payload, .int .i64 m.qos, .bool m.retain, .slice m.pA m.props.length m.pc, .string m.from_, .int .i64 m.until_, .int .i64 m.seq, .string m.group] 24)
  have hz1 := heap_alloc_new (w.alloc (.cells #[.string m.topic, .string m.payload, .int .i64 m.qos, .bool m.retain, .slice m.pA m.props.length m.pc, .string m.from_, .int .i64 m.until_, .int .i64 m.seq, .string m.group] 24)) (.cells #[.string ⟨#[]⟩, .string ⟨#[]⟩, .int .i64 0, .bool false, .slice none 0 0, .string ⟨#[]⟩, .int .i64 0, .int .i64 0, .string ⟨#[]⟩] 24)
  have hs0 : (w.alloc (.cells #[.string m.topic, .string m.payload, .int .i64 m.qos, .bool m.retain, .slice m.pA m.props.length m.pc, .string m.from_, .int .i64 m.until_, .int .i64 m.seq, .string m.group] 24)).heap.size = w.heap.size + 1 := by simp
  have hs1 : ((w.alloc (.cells #[.string m.topic, .string m.payload, .int .i64 m.qos, .bool m.retain, .slice m.pA m.props.length m.pc, .string m.from_, .int .i64 m.until_, .int .i64 m.seq, .string m.group] 24)).alloc (.cells #[.string ⟨#[]⟩, .string ⟨#[]⟩, .int .i64 0, .bool false, .slice none 0 0, .string ⟨#[]⟩, .int .i64 0, .int .i64 0, .string ⟨#[]⟩] 24)).heap.size = w.heap.size + 1 + 1 := by simp
  have hbW := hb0.trans (hb1.mono hb0.size)
  have hz0' := (hb1.block w.heap.size (by rw [hs0]; omega)).trans hz0
  rw [hs0] at hz1
  have hSW := hS.below hbW
  have HSW0 := Lib.hid hS
  have hC := rcome_any m now ((w.alloc (.cells #[.string m.topic, .string m.payload, .int .i64 m.qos, .bool m.retain, .slice m.pA m.props.length m.pc, .string m.from_, .int .i64 m.until_, .int .i64 m.seq, .string m.group] 24)).alloc (.cells #[.string ⟨#[]⟩, .string ⟨#[]⟩, .int .i64 0, .bool false, .slice none 0 0, .string ⟨#[]⟩, .int .i64 0, .int .i64 0, .string ⟨#[]⟩] 24))
  obtain ⟨W, hW⟩ : ∃ W, W = (w.alloc (.cells #[.string m.topic, .string m.payload, .int .i64 m.qos, .bool m.retain, .slice m.pA m.props.length m.pc, .string m.from_, .int .i64 m.until_, .int .i64 m.seq, .string m.group] 24)).alloc (.cells #[.string ⟨#[]⟩, .string ⟨#[]⟩, .int .i64 0, .bool false, .slice none 0 0, .string ⟨#[]⟩, .int .i64 0, .int .i64 0, .string ⟨#[]⟩] 24) := ⟨_, rfl⟩
  have HW := Lib.hid hW
  rw [← hW] at hz0' hz1 hs1 hbW hSW hC
  have HB0 := Lib.hid hbW
  have HZ0 := Lib.hid hz0'
  have HZ1 := Lib.hid hz1
  have HS1 := Lib.hid hs1
  have HSW := Lib.hid hSW
  unfold Mg.val at hC
  have HC := Lib.hid hC
  have HX := Lib.hid (show come m now = (decide (0 < m.until_) && decide (m.until_ ≤ now)) from rfl)
  clear hb0 hb1 hz0 hz1 hs0 hs1 hbW hz0' hS hSW hC hW
  obtain ⟨hm0, hm1⟩ := bounds_i64 hm
  obtain ⟨hn0, hn1⟩ := bounds_i64 hnow
  clear hm hnow
  have a0 : W.cell? ⟨w.heap.size, 0, none⟩ = some (.string m.topic) := cell_of HZ0.out rfl
  have a1 : W.cell? ⟨w.heap.size, 1, none⟩ = some (.string m.payload) := cell_of HZ0.out rfl
  have a2 : W.cell? ⟨w.heap.size, 2, none⟩ = some (.int .i64 m.qos) := cell_of HZ0.out rfl
  have a3 : W.cell? ⟨w.heap.size, 3, none⟩ = some (.bool m.retain) := cell_of HZ0.out rfl
  have a4 : W.cell? ⟨w.heap.size, 4, none⟩ = some (.slice m.pA m.props.length m.pc) := cell_of HZ0.out rfl
  have a5 : W.cell? ⟨w.heap.size, 5, none⟩ = some (.string m.from_) := cell_of HZ0.out rfl
  have a6 : W.cell? ⟨w.heap.size, 6, none⟩ = some (.int .i64 m.until_) := cell_of HZ0.out rfl
  have a7 : W.cell? ⟨w.heap.size, 7, none⟩ = some (.int .i64 m.seq) := cell_of HZ0.out rfl
  have a8 : W.cell? ⟨w.heap.size, 8, none⟩ = some (.string m.group) := cell_of HZ0.out rfl
  unfold Mg.val
  case _ =>
      rw [hc] at HC
      have HCF := Lib.hid hc
      have hun : ¬ m.until_ ≤ now := by
        intro h
        rw [HX.out, decide_eq_true hu, decide_eq_true h] at hc
        cases hc
      clear hc
      go_enter Try.func10, Try.ntmps10
      go_upto_region 1 with (fail)
      rw [← HW.out]
      clear HW
      go_wp2_with fail
      refine HC.out.mono ?_
      rintro e w2 ⟨rfl, hb⟩
      have hz0 := (hb.block _ (by rw [HS1.out]; omega)).trans HZ0.out
      have hz1 := (hb.block _ (by rw [HS1.out]; omega)).trans HZ1.out
      have HB2 := Lib.hid (HB0.out.trans (hb.mono HB0.out.size))
      have HR := Lib.hid (rwithout_any w2 m.pA m.pc m.props (HSW.out.below hb) (by omega) 2)
      have H20 := Lib.hid hz0
      have H21 := Lib.hid hz1
      have H2S := Lib.hid hb.size
      clear hb a0 a1 a2 a3 a4 a5 a6 a7 a8
      have a0 : w2.cell? ⟨w.heap.size, 0, none⟩ = some (.string m.topic) := cell_of hz0 rfl
      have a1 : w2.cell? ⟨w.heap.size, 1, none⟩ = some (.string m.payload) := cell_of hz0 rfl
      have a2 : w2.cell? ⟨w.heap.size, 2, none⟩ = some (.int .i64 m.qos) := cell_of hz0 rfl
      have a3 : w2.cell? ⟨w.heap.size, 3, none⟩ = some (.bool m.retain) := cell_of hz0 rfl
      have a4 : w2.cell? ⟨w.heap.size, 4, none⟩ = some (.slice m.pA m.props.length m.pc) := cell_of hz0 rfl
      have a5 : w2.cell? ⟨w.heap.size, 5, none⟩ = some (.string m.from_) := cell_of hz0 rfl
      have a6 : w2.cell? ⟨w.heap.size, 6, none⟩ = some (.int .i64 m.until_) := cell_of hz0 rfl
      have a7 : w2.cell? ⟨w.heap.size, 7, none⟩ = some (.int .i64 m.seq) := cell_of hz0 rfl
      have a8 : w2.cell? ⟨w.heap.size, 8, none⟩ = some (.string m.group) := cell_of hz0 rfl
      clear hz0 hz1
      go_wp2_with fail
      refine HR.out.mono ?_
      rintro e w3 ⟨⟨v, rfl, hR, hN⟩, hb⟩
      have hz0 := (hb.block _ (by have := lt_of_block H20.out; omega)).trans H20.out
      have hz1 := (hb.block _ (by have := lt_of_block H21.out; omega)).trans H21.out
      have hb3 := HB2.out.trans (hb.mono HB2.out.size)
      have hN3 : ∀ g, v.ownBlock = some g → w.heap.size + 1 + 1 ≤ g := by
        intro g hg
        have h1 := hN g hg
        have h2 := H2S.out
        rw [HS1.out] at h2
        omega
      obtain ⟨i0, hi, y0, y1, y2⟩ := info_parts info56
      have hwl := wo_le m.props 2
      obtain ⟨v', w4, hr, ho, ht, hloc, hsz⟩ := append_one (P := Try.prog) (ty := 22) Try.underlying22 hi y0 y1 y2 rfl (by decide) hR (Prp.cells ⟨2, told m now, ⟨#[]⟩, ⟨#[]⟩⟩) rfl (by simpa using prp_one [⟨2, told m now, ⟨#[]⟩, ⟨#[]⟩⟩]) (by unfold maxLen; omega) (by omega)
      have hz40 := (ht.block _ (lt_of_block hz0) (by intro h; have := hN3 _ (by simpa using h); omega)).trans hz0
      have hz41 := (ht.block _ (lt_of_block hz1) (by intro h; have := hN3 _ (by simpa using h); omega)).trans hz1
      have HRUN := Lib.hid hr
      have H40 := Lib.hid hz40
      have H41 := Lib.hid hz41
      have hN4 : ∀ g, v'.ownBlock = some g → w.heap.size + 1 + 1 ≤ g := by
        intro g hg
        rcases hloc g hg with h | h
        · exact hN3 g h
        · have := lt_of_block hz1
          omega
      have HN4 := Lib.hid hN4
      have HB4 := Lib.hid (hb3.trans (ht.below hb3.size (by intro i hi; have := hN3 i (by simpa using hi); omega)))
      have HO4 := Lib.hid ho
      unfold Prp.cells at HRUN
      have b0 : w3.cell? ⟨w.heap.size, 0, none⟩ = some (.string m.topic) := cell_of hz0 rfl
      have b1 : w3.cell? ⟨w.heap.size, 1, none⟩ = some (.string m.payload) := cell_of hz0 rfl
      have b2 : w3.cell? ⟨w.heap.size, 2, none⟩ = some (.int .i64 m.qos) := cell_of hz0 rfl
      have b3 : w3.cell? ⟨w.heap.size, 3, none⟩ = some (.bool m.retain) := cell_of hz0 rfl
      have b4 : w3.cell? ⟨w.heap.size, 4, none⟩ = some (.slice m.pA m.props.length m.pc) := cell_of hz0 rfl
      have b5 : w3.cell? ⟨w.heap.size, 5, none⟩ = some (.string m.from_) := cell_of hz0 rfl
      have b6 : w3.cell? ⟨w.heap.size, 6, none⟩ = some (.int .i64 m.until_) := cell_of hz0 rfl
      have b7 : w3.cell? ⟨w.heap.size, 7, none⟩ = some (.int .i64 m.seq) := cell_of hz0 rfl
      have b8 : w3.cell? ⟨w.heap.size, 8, none⟩ = some (.string m.group) := cell_of hz0 rfl
      obtain ⟨A', c', rfl, hRd⟩ := rd_own ho
      have x4 : w4.cell? ⟨w.heap.size, 4, none⟩ = some (.slice m.pA m.props.length m.pc) := cell_of H40.out rfl
      have xf := free_of H40.out 4
      have hz5 : (w4.setCell ⟨w.heap.size, 4, none⟩ (.slice A' ((wo m.props 2).length + 1) c')).heap[w.heap.size]? = some (.cells #[.string m.topic, .string m.payload, .int .i64 m.qos, .bool m.retain, .slice A' ((wo m.props 2).length + 1) c', .string m.from_, .int .i64 m.until_, .int .i64 m.seq, .string m.group] 24 (0, 0)) := set_of H40.out 4 _
      have hz6 : (w4.setCell ⟨w.heap.size, 4, none⟩ (.slice A' ((wo m.props 2).length + 1) c')).heap[w.heap.size + 1]? = some (.cells #[.string ⟨#[]⟩, .string ⟨#[]⟩, .int .i64 0, .bool false, .slice none 0 0, .string ⟨#[]⟩, .int .i64 0, .int .i64 0, .string ⟨#[]⟩] 24 (0, 0)) := (set_other (p := ⟨w.heap.size, 4, none⟩) (by simp) _).trans H41.out
      obtain ⟨w5, hw5⟩ : ∃ w5, w5 = w4.setCell ⟨w.heap.size, 4, none⟩ (.slice A' ((wo m.props 2).length + 1) c') := ⟨_, rfl⟩
      have hb5 : Below w.heap.size w w5 := by
        rw [hw5]
        exact (((Tch.of_below (S := []) HB4.out).setCell (p := ⟨w.heap.size, 4, none⟩) (.inr (Nat.le_refl _)) _).below (Nat.le_refl _) (by simp))
      have hr5 : Rd w5 A' ((wo m.props 2 ++ [(⟨2, told m now, ⟨#[]⟩, ⟨#[]⟩⟩ : Prp)]).flatMap Prp.cells) := by
        rw [List.flatMap_append, hw5]
        refine (show Rd w4 A' ((wo m.props 2).flatMap Prp.cells ++ [(⟨2, told m now, ⟨#[]⟩, ⟨#[]⟩⟩ : Prp)].flatMap Prp.cells) by simpa using hRd).block ?_
        intro ad hA _ _
        subst hA
        have h1 := HN4.out ad.block rfl
        exact set_other (p := ⟨w.heap.size, 4, none⟩) (by simp; omega) _
      rw [← hw5] at hz5 hz6
      have H50 := Lib.hid hz5
      have H51 := Lib.hid hz6
      have HB5 := Lib.hid hb5
      have HR5 := Lib.hid hr5
      have HW5 := Lib.hid hw5.symm
      clear hw5 hz5 hz6 hb5 hr5 hRd
      have r0 : w5.cell? ⟨w.heap.size, 0, none⟩ = some (.string m.topic) := cell_of H50.out rfl
      have r1 : w5.cell? ⟨w.heap.size, 1, none⟩ = some (.string m.payload) := cell_of H50.out rfl
      have r2 : w5.cell? ⟨w.heap.size, 2, none⟩ = some (.int .i64 m.qos) := cell_of H50.out rfl
      have r3 : w5.cell? ⟨w.heap.size, 3, none⟩ = some (.bool m.retain) := cell_of H50.out rfl
      have r4 : w5.cell? ⟨w.heap.size, 4, none⟩ = some (.slice A' ((wo m.props 2).length + 1) c') := cell_of H50.out rfl
      have r5 : w5.cell? ⟨w.heap.size, 5, none⟩ = some (.string m.from_) := cell_of H50.out rfl
      have r6 : w5.cell? ⟨w.heap.size, 6, none⟩ = some (.int .i64 m.until_) := cell_of H50.out rfl
      have r7 : w5.cell? ⟨w.heap.size, 7, none⟩ = some (.int .i64 m.seq) := cell_of H50.out rfl
      have r8 : w5.cell? ⟨w.heap.size, 8, none⟩ = some (.string m.group) := cell_of H50.out rfl
      have c0 : w5.cell? ⟨w.heap.size + 1, 0, none⟩ = some (.string ⟨#[]⟩) := cell_of H51.out rfl
      have c1 : w5.cell? ⟨w.heap.size + 1, 1, none⟩ = some (.string ⟨#[]⟩) := cell_of H51.out rfl
      have c2 : w5.cell? ⟨w.heap.size + 1, 2, none⟩ = some (.int .i64 0) := cell_of H51.out rfl
      have c3 : w5.cell? ⟨w.heap.size + 1, 3, none⟩ = some (.bool false) := cell_of H51.out rfl
      have c4 : w5.cell? ⟨w.heap.size + 1, 4, none⟩ = some (.slice none 0 0) := cell_of H51.out rfl
      have c5 : w5.cell? ⟨w.heap.size + 1, 5, none⟩ = some (.string ⟨#[]⟩) := cell_of H51.out rfl
      have c6 : w5.cell? ⟨w.heap.size + 1, 6, none⟩ = some (.int .i64 0) := cell_of H51.out rfl
      have c7 : w5.cell? ⟨w.heap.size + 1, 7, none⟩ = some (.int .i64 0) := cell_of H51.out rfl
      have c8 : w5.cell? ⟨w.heap.size + 1, 8, none⟩ = some (.string ⟨#[]⟩) := cell_of H51.out rfl
      have f0 := free_of H51.out 0
      have f1 := free_of H51.out 1
      have f2 := free_of H51.out 2
      have f3 := free_of H51.out 3
      have f4 := free_of H51.out 4
      have f5 := free_of H51.out 5
      have f6 := free_of H51.out 6
      have f7 := free_of H51.out 7
      have f8 := free_of H51.out 8
      have hp := put9 H51.out (.string m.topic) (.string m.payload) (.int .i64 m.qos) (.bool m.retain) (.slice A' ((wo m.props 2).length + 1) c') (.string m.from_) (.int .i64 m.until_) (.int .i64 m.seq) (.string m.group)
      have p0 := cell_of hp (o := 0) (v := .string m.topic) rfl
      have p1 := cell_of hp (o := 1) (v := .string m.payload) rfl
      have p2 := cell_of hp (o := 2) (v := .int .i64 m.qos) rfl
      have p3 := cell_of hp (o := 3) (v := .bool m.retain) rfl
      have p4 := cell_of hp (o := 4) (v := .slice A' ((wo m.props 2).length + 1) c') rfl
      have p5 := cell_of hp (o := 5) (v := .string m.from_) rfl
      have p6 := cell_of hp (o := 6) (v := .int .i64 m.until_) rfl
      have p7 := cell_of hp (o := 7) (v := .int .i64 m.seq) rfl
      have p8 := cell_of hp (o := 8) (v := .string m.group) rfl
      have HTE := Lib.hid (put9_tch w5 (w.heap.size + 1) (.string m.topic) (.string m.payload) (.int .i64 m.qos) (.bool m.retain) (.slice A' ((wo m.props 2).length + 1) c') (.string m.from_) (.int .i64 m.until_) (.int .i64 m.seq) (.string m.group))
      have key : ∀ w6, Tch [w.heap.size + 1] w5 w6 → PP (.returned (.tuple #[.agg #[.string m.topic, .string m.payload, .int .i64 m.qos, .bool m.retain, .slice A' ((wo m.props 2).length + 1) c', .string m.from_, .int .i64 m.until_, .int .i64 m.seq, .string m.group], .bool true])) w6 := by
        intro w6 ht6
        refine HPP.out _ _ ⟨fun h => (by rw [HCF.out] at h; cases h), fun _ => ⟨{ m with pA := A', pc := c', props := wo m.props 2 ++ [⟨2, told m now, ⟨#[]⟩, ⟨#[]⟩⟩] }, ?_, ⟨rfl, rfl, rfl, rfl, ?_, rfl, rfl, rfl, rfl⟩, HR5.out.block ?_⟩, HB5.out.trans (ht6.below HB5.out.size (by intro i hi; simp at hi; omega))⟩
        · unfold Mg.val
          rw [List.length_append]
          rfl
        · unfold leftP
          rw [if_pos hu]
        · intro ad hA _ hlt
          subst hA
          refine ht6.block _ hlt ?_
          have h1 := HN4.out ad.block rfl
          simp
          omega
      have HE := Lib.hid (key _ HTE.out)
      clear key
      clear hb hz0 hz1 hb3 hN3 hi y0 y1 y2 hwl hr ho ht hloc hsz hz40 hz41 hN4 a0 a1 a2 a3 a4 a5 a6 a7 a8 hR hN hp
      have HW5' := HW5.out
      have hto : told m now = m.until_ - now := by unfold told; omega
      rw [hto] at HRUN
      go_wp2_with (at_builtin; first | refine wpList_append_eq rfl _ _ _ rfl rfl rfl HRUN.out ?_)
      exact bodyPost_ret (v := .tuple #[.agg #[.string m.topic, .string m.payload, .int .i64 m.qos, .bool m.retain, .slice A' ((wo m.props 2).length + 1) c', .string m.from_, .int .i64 m.until_, .int .i64 m.seq, .string m.group], .bool true]) (by simp [results, Try.results10, go_sem, *]) rfl HE.out
theorem rleft_any (m : Mg) (now : Int) (w : World) (hS : Rd w m.pA (m.props.flatMap Prp.cells)) (hl : m.props.length < 100000) (hm : (Lit.int .i64 m.until_).wf = true) (hnow : (Lit.int .i64 now).wf = true) :
    Calls Try.prog 10 #[m.val, .int .i64 now] w (LPost m now w) := by
  cases hc : come m now with
  | true => exact rleft_come m now w hS hl hm hnow hc
  | false =>
    by_cases hu : 0 < m.until_
    · by_cases hn : now < 0
      · by_cases hd : 4294967295 < m.until_
        · exact rleft_1 m now w hS hl hm hnow hc hu hn hd
        · exact rleft_2 m now w hS hl hm hnow hc hu hn hd
      · by_cases hd : 4294967295 < m.until_ - now
        · exact rleft_3 m now w hS hl hm hnow hc hu hn hd
        · exact rleft_4 m now w hS hl hm hnow hc hu hn hd
    · exact rleft_stay m now w hS hl hm hnow hc hu
end Go.Proofs.Ytjcdkgdeoeboaaa.QuW
