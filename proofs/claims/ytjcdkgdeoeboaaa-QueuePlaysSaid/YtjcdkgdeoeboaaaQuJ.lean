/- Queues: taken from, rid of what came. -/
import Derived.Test.YtjcdkgdeoeboaaaQuI
set_option linter.unusedVariables false
set_option linter.unusedSimpArgs false
namespace Go.Proofs.Ytjcdkgdeoeboaaa.QuW
open Go.RowKit Go.Proofs.Ytjcdkgdeoeboaaa.Tc

theorem Step.behind {T B : Nat} {w W w2 : World} {s : Nat} {most : Int} {v v2 : Value} {L : List Mg} (hb : Below w.heap.size w W) (h : Step T B W s most v L w2 v2) : Step T B w s most v L w2 v2 :=
  ⟨h.q, (Tch.of_below hb).trans h.tch, (Stp.of_below hb).trans h.stp, fun g hg => (h.loc g hg).imp id (fun h1 => by have := hb.size; omega)⟩
theorem Step.kept {T B : Nat} {S : List Nat} {w w1 w2 : World} {s : Nat} {most : Int} {v v1 : Value} {L : List Mg} (h : Step T B w s most v L w1 v1) (ht : Tch S w1 w2) (hS : ∀ i ∈ S, ¬ Fix B w1 i ∧ w.heap.size ≤ i) (hs : s ∉ S) (hv : ∀ g, v1.ownBlock = some g → g ∉ S) : Step T B w s most v L w2 v1 :=
  ⟨h.q.kept ht (Stp.of_tch ht (fun i hi => (hS i hi).1)) hs hv, h.tch.then ht (fun i hi => .inr (hS i hi).2), h.stp.trans (Stp.of_tch ht (fun i hi => (hS i hi).1)), h.loc⟩
set_option maxRecDepth 100000 in
set_option maxHeartbeats 4000000 in
theorem pop_any {B : Nat} {w : World} {s : Nat} {most : Int} {v : Value} {L : List Mg} (h : Q 43 B w s most v L) (hl : L.length < 100000) (now : Int) :
    Calls Try.prog 14 #[.pointer (some ⟨s, 0, none⟩), .int .i64 now] w (FirstPost 43 B w s most v L now true) := by
  generalize hP : FirstPost 43 B w s most v L now true = PP
  have HPP := Lib.hid (show ∀ e w', FirstPost 43 B w s most v L now true e w' → PP e w' by intro e w' h; rw [← hP]; exact h)
  clear hP
  have hb0 := alloc_below w (.cells #[.string ⟨#[]⟩, .string ⟨#[]⟩, .int .i64 0, .bool false, .slice none 0 0, .string ⟨#[]⟩, .int .i64 0, .int .i64 0, .string ⟨#[]⟩] 24)
  have hz0 := heap_alloc_new w (.cells #[.string ⟨#[]⟩, .string ⟨#[]⟩, .int .i64 0, .bool false, .slice none 0 0, .string ⟨#[]⟩, .int .i64 0, .int .i64 0, .string ⟨#[]⟩] 24)
  have hs0 : (w.alloc (.cells #[.string ⟨#[]⟩, .string ⟨#[]⟩, .int .i64 0, .bool false, .slice none 0 0, .string ⟨#[]⟩, .int .i64 0, .int .i64 0, .string ⟨#[]⟩] 24)).heap.size = w.heap.size + 1 := by simp
  have HF := Lib.hid (first_any (h.below hb0) hl now)
  have HB := Lib.hid h.bB
  have HSN := Lib.hid (lt_of_block h.st)
  have HV := Lib.hid (fun g (hg : v.ownBlock = some g) => h.win.lt hg)
  have HB0 := Lib.hid hb0
  have HZ0 := Lib.hid hz0
  have HS0 := Lib.hid hs0
  clear hb0 hz0 hs0 h
  go_enter Try.func14, Try.ntmps14
  go_wp2_with fail
  refine HF.out.mono ?_
  rintro e w2 ⟨hn, hc, v1, hst⟩
  simp only [Bool.false_eq_true, if_false] at hst
  have hnv1 : ∀ g, v1.ownBlock = some g → g ≠ w.heap.size := by
    intro g hg
    rcases hst.loc g hg with h1 | h1
    · have := HV.out g h1; omega
    · rw [HS0.out] at h1; omega
  have hz2 := (hst.tch.block w.heap.size (lt_of_block HZ0.out) (by
    intro hm
    rcases List.mem_cons.1 hm with h1 | h1
    · have := HSN.out; omega
    · have := HV.out _ (by simpa using h1); omega)).trans HZ0.out
  have HS2 := Lib.hid (hst.behind HB0.out)
  have HZ2 := Lib.hid hz2
  have HNV := Lib.hid hnv1
  clear hz2 hnv1 hst
  cases hd : L.dropWhile fun m => come m now with
  | nil =>
    obtain rfl := hn hd
    have HD := Lib.hid hd
    rw [hd] at HS2
    unfold Mg.val mg0
    clear hn hc hd
    have hbx := alloc_below w2 (.cells #[.string ⟨#[]⟩, .string ⟨#[]⟩, .int .i64 0, .bool false, .slice none 0 0, .string ⟨#[]⟩, .int .i64 0, .int .i64 0, .string ⟨#[]⟩] 24)
    have hx0 := heap_alloc_new w2 (.cells #[.string ⟨#[]⟩, .string ⟨#[]⟩, .int .i64 0, .bool false, .slice none 0 0, .string ⟨#[]⟩, .int .i64 0, .int .i64 0, .string ⟨#[]⟩] 24)
    obtain ⟨w3, hw3⟩ : ∃ w3, w3 = w2.alloc (.cells #[.string ⟨#[]⟩, .string ⟨#[]⟩, .int .i64 0, .bool false, .slice none 0 0, .string ⟨#[]⟩, .int .i64 0, .int .i64 0, .string ⟨#[]⟩] 24) := ⟨_, rfl⟩
    have HW3 := Lib.hid hw3
    rw [← hw3] at hbx hx0
    have hS3 := HS2.out.below hbx
    have hZ3 := (hbx.block _ (lt_of_block HZ2.out)).trans HZ2.out
    have HS3 := Lib.hid hS3
    have HX3 := Lib.hid hx0
    have HZ3 := Lib.hid hZ3
    clear hw3
    go_upto_region 2 with (fail)
    rw [← HW3.out]
    clear HW3
    have y0 : w3.cell? ⟨w2.heap.size, 0, none⟩ = some (.string ⟨#[]⟩) := cell_of HX3.out rfl
    have y1 : w3.cell? ⟨w2.heap.size, 1, none⟩ = some (.string ⟨#[]⟩) := cell_of HX3.out rfl
    have y2 : w3.cell? ⟨w2.heap.size, 2, none⟩ = some (.int .i64 0) := cell_of HX3.out rfl
    have y3 : w3.cell? ⟨w2.heap.size, 3, none⟩ = some (.bool false) := cell_of HX3.out rfl
    have y4 : w3.cell? ⟨w2.heap.size, 4, none⟩ = some (.slice none 0 0) := cell_of HX3.out rfl
    have y5 : w3.cell? ⟨w2.heap.size, 5, none⟩ = some (.string ⟨#[]⟩) := cell_of HX3.out rfl
    have y6 : w3.cell? ⟨w2.heap.size, 6, none⟩ = some (.int .i64 0) := cell_of HX3.out rfl
    have y7 : w3.cell? ⟨w2.heap.size, 7, none⟩ = some (.int .i64 0) := cell_of HX3.out rfl
    have y8 : w3.cell? ⟨w2.heap.size, 8, none⟩ = some (.string ⟨#[]⟩) := cell_of HX3.out rfl
    have c0 : w3.cell? ⟨w.heap.size, 0, none⟩ = some (.string ⟨#[]⟩) := cell_of HZ3.out rfl
    have c1 : w3.cell? ⟨w.heap.size, 1, none⟩ = some (.string ⟨#[]⟩) := cell_of HZ3.out rfl
    have c2 : w3.cell? ⟨w.heap.size, 2, none⟩ = some (.int .i64 0) := cell_of HZ3.out rfl
    have c3 : w3.cell? ⟨w.heap.size, 3, none⟩ = some (.bool false) := cell_of HZ3.out rfl
    have c4 : w3.cell? ⟨w.heap.size, 4, none⟩ = some (.slice none 0 0) := cell_of HZ3.out rfl
    have c5 : w3.cell? ⟨w.heap.size, 5, none⟩ = some (.string ⟨#[]⟩) := cell_of HZ3.out rfl
    have c6 : w3.cell? ⟨w.heap.size, 6, none⟩ = some (.int .i64 0) := cell_of HZ3.out rfl
    have c7 : w3.cell? ⟨w.heap.size, 7, none⟩ = some (.int .i64 0) := cell_of HZ3.out rfl
    have c8 : w3.cell? ⟨w.heap.size, 8, none⟩ = some (.string ⟨#[]⟩) := cell_of HZ3.out rfl
    have f0 := free_of HZ3.out 0
    have f1 := free_of HZ3.out 1
    have f2 := free_of HZ3.out 2
    have f3 := free_of HZ3.out 3
    have f4 := free_of HZ3.out 4
    have f5 := free_of HZ3.out 5
    have f6 := free_of HZ3.out 6
    have f7 := free_of HZ3.out 7
    have f8 := free_of HZ3.out 8
    have hp := put9 HZ3.out (.string ⟨#[]⟩) (.string ⟨#[]⟩) (.int .i64 0) (.bool false) (.slice none 0 0) (.string ⟨#[]⟩) (.int .i64 0) (.int .i64 0) (.string ⟨#[]⟩)
    have p0 := cell_of hp (o := 0) (v := .string ⟨#[]⟩) rfl
    have p1 := cell_of hp (o := 1) (v := .string ⟨#[]⟩) rfl
    have p2 := cell_of hp (o := 2) (v := .int .i64 0) rfl
    have p3 := cell_of hp (o := 3) (v := .bool false) rfl
    have p4 := cell_of hp (o := 4) (v := .slice none 0 0) rfl
    have p5 := cell_of hp (o := 5) (v := .string ⟨#[]⟩) rfl
    have p6 := cell_of hp (o := 6) (v := .int .i64 0) rfl
    have p7 := cell_of hp (o := 7) (v := .int .i64 0) rfl
    have p8 := cell_of hp (o := 8) (v := .string ⟨#[]⟩) rfl
    have HTE := Lib.hid (put9_tch w3 (w.heap.size) (.string ⟨#[]⟩) (.string ⟨#[]⟩) (.int .i64 0) (.bool false) (.slice none 0 0) (.string ⟨#[]⟩) (.int .i64 0) (.int .i64 0) (.string ⟨#[]⟩))
    have HE := Lib.hid (finish (.returned (.tuple #[mg0.val, .bool false])) HPP.out HB.out HSN.out HS3.out HZ3.out HTE.out HNV.out (by
      intro w6 hst6 hst7
      exact ⟨fun _ => rfl, fun m R h => (by rw [HD.out] at h; cases h), v1, by rw [HD.out]; simpa using hst6⟩))
    clear hp
    go_wp2_with fail
    exact bodyPost_ret (v := .tuple #[.agg #[.string ⟨#[]⟩, .string ⟨#[]⟩, .int .i64 0, .bool false, .slice none 0 0, .string ⟨#[]⟩, .int .i64 0, .int .i64 0, .string ⟨#[]⟩], .bool false]) (by simp [mg0, Mg.val, results, Try.results14, go_sem, *]) rfl HE.out
  | cons m R =>
    obtain ⟨m', rfl, hbare, hok⟩ := hc m R hd
    have HD := Lib.hid hd
    rw [hd] at HS2
    have HBARE := Lib.hid hbare
    have HOK2 := Lib.hid hok
    unfold Mg.val
    clear hn hc hd hbare hok
    have hbx := alloc_below w2 (.cells #[.string m'.topic, .string m'.payload, .int .i64 m'.qos, .bool m'.retain, .slice m'.pA m'.props.length m'.pc, .string m'.from_, .int .i64 m'.until_, .int .i64 m'.seq, .string m'.group] 24)
    have hx0 := heap_alloc_new w2 (.cells #[.string m'.topic, .string m'.payload, .int .i64 m'.qos, .bool m'.retain, .slice m'.pA m'.props.length m'.pc, .string m'.from_, .int .i64 m'.until_, .int .i64 m'.seq, .string m'.group] 24)
    obtain ⟨w3, hw3⟩ : ∃ w3, w3 = w2.alloc (.cells #[.string m'.topic, .string m'.payload, .int .i64 m'.qos, .bool m'.retain, .slice m'.pA m'.props.length m'.pc, .string m'.from_, .int .i64 m'.until_, .int .i64 m'.seq, .string m'.group] 24) := ⟨_, rfl⟩
    have HW3 := Lib.hid hw3
    rw [← hw3] at hbx hx0
    have hS3 := HS2.out.below hbx
    have hZ3 := (hbx.block _ (lt_of_block HZ2.out)).trans HZ2.out
    have HS3 := Lib.hid hS3
    have HX3 := Lib.hid hx0
    have HZ3 := Lib.hid hZ3
    have HOK3 := Lib.hid (HOK2.out.below hbx)
    clear hw3
    go_upto_region 2 with (fail)
    rw [← HW3.out]
    clear HW3
    have y0 : w3.cell? ⟨w2.heap.size, 0, none⟩ = some (.string m'.topic) := cell_of HX3.out rfl
    have y1 : w3.cell? ⟨w2.heap.size, 1, none⟩ = some (.string m'.payload) := cell_of HX3.out rfl
    have y2 : w3.cell? ⟨w2.heap.size, 2, none⟩ = some (.int .i64 m'.qos) := cell_of HX3.out rfl
    have y3 : w3.cell? ⟨w2.heap.size, 3, none⟩ = some (.bool m'.retain) := cell_of HX3.out rfl
    have y4 : w3.cell? ⟨w2.heap.size, 4, none⟩ = some (.slice m'.pA m'.props.length m'.pc) := cell_of HX3.out rfl
    have y5 : w3.cell? ⟨w2.heap.size, 5, none⟩ = some (.string m'.from_) := cell_of HX3.out rfl
    have y6 : w3.cell? ⟨w2.heap.size, 6, none⟩ = some (.int .i64 m'.until_) := cell_of HX3.out rfl
    have y7 : w3.cell? ⟨w2.heap.size, 7, none⟩ = some (.int .i64 m'.seq) := cell_of HX3.out rfl
    have y8 : w3.cell? ⟨w2.heap.size, 8, none⟩ = some (.string m'.group) := cell_of HX3.out rfl
    obtain ⟨g, o, cap, rfl, hcap, hcm, ht1, ht2⟩ := HS3.out.q.win.tail
    have k1 : w3.cell? ⟨s, 1, none⟩ = some (.slice (some ⟨g, o, none⟩) (R.length + 1) cap) := cell_of HS3.out.q.st rfl
    have kf := free_of HS3.out.q.st 1
    have hc1 : (1 : Int) ≤ R.length + 1 := by omega
    have hc2 : (R.length : Int) + 1 ≤ cap := by omega
    have HT1 := Lib.hid ht1
    have HT2 := Lib.hid ht2
    unfold maxLen at hcm
    clear ht1 ht2
    have hx0' : ∀ u, (w3.setCell ⟨s, 1, none⟩ u).heap[w2.heap.size]? = some (.cells #[.string m'.topic, .string m'.payload, .int .i64 m'.qos, .bool m'.retain, .slice m'.pA m'.props.length m'.pc, .string m'.from_, .int .i64 m'.until_, .int .i64 m'.seq, .string m'.group] 24 (0, 0)) := fun u => (set_other (p := ⟨s, 1, none⟩) (by have h1 := lt_of_block HS2.out.q.st; simp; omega) u).trans HX3.out
    have hz0' : ∀ u, (w3.setCell ⟨s, 1, none⟩ u).heap[w.heap.size]? = some (.cells #[.string ⟨#[]⟩, .string ⟨#[]⟩, .int .i64 0, .bool false, .slice none 0 0, .string ⟨#[]⟩, .int .i64 0, .int .i64 0, .string ⟨#[]⟩] 24 (0, 0)) := fun u => (set_other (p := ⟨s, 1, none⟩) (by have h1 := HSN.out; simp; omega) u).trans HZ3.out
    by_cases hone : cap = 1
    case pos =>
      obtain ⟨hw, rfl⟩ := HT1.out hone
      have HS4 := Lib.hid (HS3.out.put HB.out (by decide) (by decide) hw (by simp) (fun g' hg => .inl hg))
      obtain ⟨w4, hw4⟩ : ∃ w4, w4 = w3.setCell ⟨s, 1, none⟩ (.slice (some ⟨g, o, none⟩) 0 0) := ⟨_, rfl⟩
      have hx4 := hx0' (.slice (some ⟨g, o, none⟩) 0 0)
      have hz4 := hz0' (.slice (some ⟨g, o, none⟩) 0 0)
      rw [← hw4] at HS4 hx4 hz4
      have HX4 := Lib.hid hx4
      have HZ4 := Lib.hid hz4
      have hst4 : Stp B w3 w4 := by
        have hp := HS3.out.q.put (by decide) (by decide) (S := []) (Tch.refl [] w3) (by simp) (by simp) hw (by simp) (fun g' hg => HS3.out.q.nv g' hg)
        rw [hw4]
        exact hp.2.2
      have HOK4 := Lib.hid (HOK3.out.stp hst4)
      have hw4' := hw4.symm
      subst hone
      clear hw hst4 hx4 hz4 hx0' hz0' hw4 y0 y1 y2 y3 y4 y5 y6 y7 y8
      have z0 : w4.cell? ⟨w2.heap.size, 0, none⟩ = some (.string m'.topic) := cell_of HX4.out rfl
      have z1 : w4.cell? ⟨w2.heap.size, 1, none⟩ = some (.string m'.payload) := cell_of HX4.out rfl
      have z2 : w4.cell? ⟨w2.heap.size, 2, none⟩ = some (.int .i64 m'.qos) := cell_of HX4.out rfl
      have z3 : w4.cell? ⟨w2.heap.size, 3, none⟩ = some (.bool m'.retain) := cell_of HX4.out rfl
      have z4 : w4.cell? ⟨w2.heap.size, 4, none⟩ = some (.slice m'.pA m'.props.length m'.pc) := cell_of HX4.out rfl
      have z5 : w4.cell? ⟨w2.heap.size, 5, none⟩ = some (.string m'.from_) := cell_of HX4.out rfl
      have z6 : w4.cell? ⟨w2.heap.size, 6, none⟩ = some (.int .i64 m'.until_) := cell_of HX4.out rfl
      have z7 : w4.cell? ⟨w2.heap.size, 7, none⟩ = some (.int .i64 m'.seq) := cell_of HX4.out rfl
      have z8 : w4.cell? ⟨w2.heap.size, 8, none⟩ = some (.string m'.group) := cell_of HX4.out rfl
      have c0 : w4.cell? ⟨w.heap.size, 0, none⟩ = some (.string ⟨#[]⟩) := cell_of HZ4.out rfl
      have c1 : w4.cell? ⟨w.heap.size, 1, none⟩ = some (.string ⟨#[]⟩) := cell_of HZ4.out rfl
      have c2 : w4.cell? ⟨w.heap.size, 2, none⟩ = some (.int .i64 0) := cell_of HZ4.out rfl
      have c3 : w4.cell? ⟨w.heap.size, 3, none⟩ = some (.bool false) := cell_of HZ4.out rfl
      have c4 : w4.cell? ⟨w.heap.size, 4, none⟩ = some (.slice none 0 0) := cell_of HZ4.out rfl
      have c5 : w4.cell? ⟨w.heap.size, 5, none⟩ = some (.string ⟨#[]⟩) := cell_of HZ4.out rfl
      have c6 : w4.cell? ⟨w.heap.size, 6, none⟩ = some (.int .i64 0) := cell_of HZ4.out rfl
      have c7 : w4.cell? ⟨w.heap.size, 7, none⟩ = some (.int .i64 0) := cell_of HZ4.out rfl
      have c8 : w4.cell? ⟨w.heap.size, 8, none⟩ = some (.string ⟨#[]⟩) := cell_of HZ4.out rfl
      have f0 := free_of HZ4.out 0
      have f1 := free_of HZ4.out 1
      have f2 := free_of HZ4.out 2
      have f3 := free_of HZ4.out 3
      have f4 := free_of HZ4.out 4
      have f5 := free_of HZ4.out 5
      have f6 := free_of HZ4.out 6
      have f7 := free_of HZ4.out 7
      have f8 := free_of HZ4.out 8
      have hp := put9 HZ4.out (.string m'.topic) (.string m'.payload) (.int .i64 m'.qos) (.bool m'.retain) (.slice m'.pA m'.props.length m'.pc) (.string m'.from_) (.int .i64 m'.until_) (.int .i64 m'.seq) (.string m'.group)
      have p0 := cell_of hp (o := 0) (v := .string m'.topic) rfl
      have p1 := cell_of hp (o := 1) (v := .string m'.payload) rfl
      have p2 := cell_of hp (o := 2) (v := .int .i64 m'.qos) rfl
      have p3 := cell_of hp (o := 3) (v := .bool m'.retain) rfl
      have p4 := cell_of hp (o := 4) (v := .slice m'.pA m'.props.length m'.pc) rfl
      have p5 := cell_of hp (o := 5) (v := .string m'.from_) rfl
      have p6 := cell_of hp (o := 6) (v := .int .i64 m'.until_) rfl
      have p7 := cell_of hp (o := 7) (v := .int .i64 m'.seq) rfl
      have p8 := cell_of hp (o := 8) (v := .string m'.group) rfl
      have HTE := Lib.hid (put9_tch w4 (w.heap.size) (.string m'.topic) (.string m'.payload) (.int .i64 m'.qos) (.bool m'.retain) (.slice m'.pA m'.props.length m'.pc) (.string m'.from_) (.int .i64 m'.until_) (.int .i64 m'.seq) (.string m'.group))
      have HE := Lib.hid (finish (.returned (.tuple #[.agg #[.string m'.topic, .string m'.payload, .int .i64 m'.qos, .bool m'.retain, .slice m'.pA m'.props.length m'.pc, .string m'.from_, .int .i64 m'.until_, .int .i64 m'.seq, .string m'.group], .bool true])) HPP.out HB.out HSN.out HS4.out HZ4.out HTE.out (fun g' hg => HNV.out g' hg) (by
        intro w6 hst6 hst7
        refine ⟨fun h => (by rw [HD.out] at h; cases h), fun m2 R2 h => ?_, _, by rw [HD.out]; simpa using hst6⟩
        rw [HD.out] at h
        injection h with h1 h2
        subst h1
        exact ⟨m', rfl, HBARE.out, HOK4.out.stp hst7⟩))
      clear hp
      go_wp2_with fail
      exact bodyPost_ret (v := .tuple #[.agg #[.string m'.topic, .string m'.payload, .int .i64 m'.qos, .bool m'.retain, .slice m'.pA m'.props.length m'.pc, .string m'.from_, .int .i64 m'.until_, .int .i64 m'.seq, .string m'.group], .bool true]) (by simp [results, Try.results14, go_sem, *]) rfl HE.out
    case neg =>
      have hw := HT2.out hone
      have HS4 := Lib.hid (HS3.out.put HB.out (by decide) (by decide) hw (fun y hy => HS3.out.q.ok y (by simp [hy])) (fun g' hg => .inl hg))
      obtain ⟨w4, hw4⟩ : ∃ w4, w4 = w3.setCell ⟨s, 1, none⟩ (.slice (some ⟨g, o + 9, none⟩) R.length (cap - 1)) := ⟨_, rfl⟩
      have hx4 := hx0' (.slice (some ⟨g, o + 9, none⟩) R.length (cap - 1))
      have hz4 := hz0' (.slice (some ⟨g, o + 9, none⟩) R.length (cap - 1))
      rw [← hw4] at HS4 hx4 hz4
      have HX4 := Lib.hid hx4
      have HZ4 := Lib.hid hz4
      have hst4 : Stp B w3 w4 := by
        have hp := HS3.out.q.put (by decide) (by decide) (S := []) (Tch.refl [] w3) (by simp) (by simp) hw (fun y hy => HS3.out.q.ok y (by simp [hy])) (fun g' hg => HS3.out.q.nv g' hg)
        rw [hw4]
        exact hp.2.2
      have HOK4 := Lib.hid (HOK3.out.stp hst4)
      have hw4' := hw4.symm
      clear hw hst4 hx4 hz4 hx0' hz0' hw4 y0 y1 y2 y3 y4 y5 y6 y7 y8
      have z0 : w4.cell? ⟨w2.heap.size, 0, none⟩ = some (.string m'.topic) := cell_of HX4.out rfl
      have z1 : w4.cell? ⟨w2.heap.size, 1, none⟩ = some (.string m'.payload) := cell_of HX4.out rfl
      have z2 : w4.cell? ⟨w2.heap.size, 2, none⟩ = some (.int .i64 m'.qos) := cell_of HX4.out rfl
      have z3 : w4.cell? ⟨w2.heap.size, 3, none⟩ = some (.bool m'.retain) := cell_of HX4.out rfl
      have z4 : w4.cell? ⟨w2.heap.size, 4, none⟩ = some (.slice m'.pA m'.props.length m'.pc) := cell_of HX4.out rfl
      have z5 : w4.cell? ⟨w2.heap.size, 5, none⟩ = some (.string m'.from_) := cell_of HX4.out rfl
      have z6 : w4.cell? ⟨w2.heap.size, 6, none⟩ = some (.int .i64 m'.until_) := cell_of HX4.out rfl
      have z7 : w4.cell? ⟨w2.heap.size, 7, none⟩ = some (.int .i64 m'.seq) := cell_of HX4.out rfl
      have z8 : w4.cell? ⟨w2.heap.size, 8, none⟩ = some (.string m'.group) := cell_of HX4.out rfl
      have c0 : w4.cell? ⟨w.heap.size, 0, none⟩ = some (.string ⟨#[]⟩) := cell_of HZ4.out rfl
      have c1 : w4.cell? ⟨w.heap.size, 1, none⟩ = some (.string ⟨#[]⟩) := cell_of HZ4.out rfl
      have c2 : w4.cell? ⟨w.heap.size, 2, none⟩ = some (.int .i64 0) := cell_of HZ4.out rfl
      have c3 : w4.cell? ⟨w.heap.size, 3, none⟩ = some (.bool false) := cell_of HZ4.out rfl
      have c4 : w4.cell? ⟨w.heap.size, 4, none⟩ = some (.slice none 0 0) := cell_of HZ4.out rfl
      have c5 : w4.cell? ⟨w.heap.size, 5, none⟩ = some (.string ⟨#[]⟩) := cell_of HZ4.out rfl
      have c6 : w4.cell? ⟨w.heap.size, 6, none⟩ = some (.int .i64 0) := cell_of HZ4.out rfl
      have c7 : w4.cell? ⟨w.heap.size, 7, none⟩ = some (.int .i64 0) := cell_of HZ4.out rfl
      have c8 : w4.cell? ⟨w.heap.size, 8, none⟩ = some (.string ⟨#[]⟩) := cell_of HZ4.out rfl
      have f0 := free_of HZ4.out 0
      have f1 := free_of HZ4.out 1
      have f2 := free_of HZ4.out 2
      have f3 := free_of HZ4.out 3
      have f4 := free_of HZ4.out 4
      have f5 := free_of HZ4.out 5
      have f6 := free_of HZ4.out 6
      have f7 := free_of HZ4.out 7
      have f8 := free_of HZ4.out 8
      have hp := put9 HZ4.out (.string m'.topic) (.string m'.payload) (.int .i64 m'.qos) (.bool m'.retain) (.slice m'.pA m'.props.length m'.pc) (.string m'.from_) (.int .i64 m'.until_) (.int .i64 m'.seq) (.string m'.group)
      have p0 := cell_of hp (o := 0) (v := .string m'.topic) rfl
      have p1 := cell_of hp (o := 1) (v := .string m'.payload) rfl
      have p2 := cell_of hp (o := 2) (v := .int .i64 m'.qos) rfl
      have p3 := cell_of hp (o := 3) (v := .bool m'.retain) rfl
      have p4 := cell_of hp (o := 4) (v := .slice m'.pA m'.props.length m'.pc) rfl
      have p5 := cell_of hp (o := 5) (v := .string m'.from_) rfl
      have p6 := cell_of hp (o := 6) (v := .int .i64 m'.until_) rfl
      have p7 := cell_of hp (o := 7) (v := .int .i64 m'.seq) rfl
      have p8 := cell_of hp (o := 8) (v := .string m'.group) rfl
      have HTE := Lib.hid (put9_tch w4 (w.heap.size) (.string m'.topic) (.string m'.payload) (.int .i64 m'.qos) (.bool m'.retain) (.slice m'.pA m'.props.length m'.pc) (.string m'.from_) (.int .i64 m'.until_) (.int .i64 m'.seq) (.string m'.group))
      have HE := Lib.hid (finish (.returned (.tuple #[.agg #[.string m'.topic, .string m'.payload, .int .i64 m'.qos, .bool m'.retain, .slice m'.pA m'.props.length m'.pc, .string m'.from_, .int .i64 m'.until_, .int .i64 m'.seq, .string m'.group], .bool true])) HPP.out HB.out HSN.out HS4.out HZ4.out HTE.out (fun g' hg => HNV.out g' hg) (by
        intro w6 hst6 hst7
        refine ⟨fun h => (by rw [HD.out] at h; cases h), fun m2 R2 h => ?_, _, by rw [HD.out]; simpa using hst6⟩
        rw [HD.out] at h
        injection h with h1 h2
        subst h1
        exact ⟨m', rfl, HBARE.out, HOK4.out.stp hst7⟩))
      clear hp
      go_wp2_with fail
      exact bodyPost_ret (v := .tuple #[.agg #[.string m'.topic, .string m'.payload, .int .i64 m'.qos, .bool m'.retain, .slice m'.pA m'.props.length m'.pc, .string m'.from_, .int .i64 m'.until_, .int .i64 m'.seq, .string m'.group], .bool true]) (by simp [results, Try.results14, go_sem, *]) rfl HE.out
theorem keep_map (L : List Mg) (now : Int) : (L.filter fun m => !come m now).map bare = (L.map bare).filter fun m => !come m now := by
  rw [List.filter_map]
  rfl
def ExpPost (T B : Nat) (w : World) (s : Nat) (most : Int) (v : Value) (L : List Mg) (now : Int) (e : Ending) (w' : World) : Prop :=
  e = .returned (.int .i64 ((L.length : Int) - ((L.filter fun m => !come m now).length : Int))) ∧ ∃ v', Step T B w s most v (L.filter fun m => !come m now) w' v'
set_option maxRecDepth 100000 in
set_option maxHeartbeats 4000000 in
theorem expire_any {B : Nat} {w : World} {s : Nat} {most : Int} {v : Value} {L : List Mg} (h : Q 43 B w s most v L) (hl : L.length < 100000) (now : Int) :
    Calls Try.prog 21 #[.pointer (some ⟨s, 0, none⟩), .int .i64 now] w (ExpPost 43 B w s most v L now) := by
  generalize hP : ExpPost 43 B w s most v L now = PP
  have HPP := Lib.hid (show ∀ e w', ExpPost 43 B w s most v L now e w' → PP e w' by intro e w' h; rw [← hP]; exact h)
  clear hP
  have hb0 := alloc_below w (.cells #[.int .i64 now] 3)
  have hz0 := heap_alloc_new w (.cells #[.int .i64 now] 3)
  have hs0 : (w.alloc (.cells #[.int .i64 now] 3)).heap.size = w.heap.size + 1 := by simp
  have hq := h.below hb0
  have HL := Lib.hid (len_any hq)
  have HQ := Lib.hid hq
  have HB := Lib.hid h.bB
  have HSN := Lib.hid (lt_of_block h.st)
  have HS := Lib.hid (Step.of_below h hb0)
  have HZ0 := Lib.hid hz0
  have HS0 := Lib.hid hs0
  have hfl := List.length_filter_le (fun m => !come m now) L
  have HVL := Lib.hid (fun g (hg : v.ownBlock = some g) => h.win.lt hg)
  have hE := enters_of Try.func35 (by kernel_rfl) rfl
  obtain ⟨A, c, rfl, hrd⟩ := hq.win.rd
  have k1 : (w.alloc (.cells #[.int .i64 now] 3)).cell? ⟨s, 1, none⟩ = some (.slice A L.length c) := cell_of hq.st rfl
  have HC := Lib.hid (cloneM_any _ A c L hrd (by omega))
  clear hb0 hz0 hs0 hq hrd h
  by_cases h0 : L.length = 0
  case pos =>
    obtain rfl : L = [] := List.eq_nil_of_length_eq_zero h0
    have HE := Lib.hid (HPP.out (.returned (.int .i64 0)) _ ⟨rfl, _, HS.out⟩)
    clear h0 hfl
    go_enter Try.func21, Try.ntmps21
    go_wp2_with fail
    refine HL.out.mono ?_
    rintro e w2 ⟨rfl, rfl⟩
    go_wp2_with fail
    refine HL.out.mono ?_
    rintro e w2 ⟨rfl, rfl⟩
    go_wp2_with fail
    exact HE.out
  case neg =>
    have hpos : (0 : Int) < L.length := by omega
    go_enter Try.func21, Try.ntmps21
    go_wp2_with fail
    refine HL.out.mono ?_
    rintro e w2 ⟨rfl, rfl⟩
    go_wp2_with fail
    refine HC.out.mono ?_
    rintro e w2 ⟨⟨v1, rfl, hR, hN⟩, hb⟩
    have hz2 := (hb.block _ (lt_of_block HZ0.out)).trans HZ0.out
    have hcell : w2.cell? ⟨w.heap.size, 0, none⟩ = some (.int .i64 now) := cell_of hz2 rfl
    have HD := Lib.hid (deleteM_any 35 w.heap.size (.int .i64 now) (fun m => come m now) hE (fun x W h => exp_fn now _ x W h) w2 v1 L hR (by omega) hcell (by
      intro g hg e
      have := hN g hg
      rw [HS0.out] at this
      omega))
    have HS2 := Lib.hid (HS.out.below hb)
    have HTY := Lib.hid (fun g (hg : v1.ownBlock = some g) => own_type hR hg)
    have HN := Lib.hid hN
    have HSZ := Lib.hid hb.size
    clear hz2 hcell hR hN hb k1
    go_wp2_with fail
    refine HD.out.mono ?_
    rintro e w3 ⟨⟨v2, rfl, hR, hN⟩, ht⟩
    have hS3 := HS2.out.kept ht (by
      intro i hi
      have hg : v1.ownBlock = some i := by simpa using hi
      have h1 := HN.out i hg
      rw [HS0.out] at h1
      refine ⟨?_, by omega⟩
      intro hf
      obtain ⟨cur, hcur⟩ := HTY.out i hg
      rcases hf with hf | ⟨cur2, f, hc⟩
      · have := HB.out; omega
      · rw [hcur] at hc; injection hc with hc; injection hc with _ hc; exact absurd hc (by decide)) (by
      intro hi
      have h1 := HN.out s (by simpa using hi)
      rw [HS0.out] at h1
      have := HSN.out
      omega) (by
      intro g hg hi
      have h1 := HN.out g (by simpa using hi)
      rw [HS0.out] at h1
      have := HVL.out g hg
      omega)
    have hwin := win_own hR
    have hS4 := hS3.put HB.out (by decide) (by decide) hwin (fun y hy => hS3.q.ok y (List.mem_filter.1 hy).1) (by
      intro g hg
      have h1 := HN.out g (hN g hg)
      rw [HS0.out] at h1
      exact .inr (by omega))
    obtain ⟨A2, c2, hv2, -⟩ := hwin.rd
    obtain ⟨K, hK⟩ : ∃ K, K = L.filter fun m => !come m now := ⟨_, rfl⟩
    have hE4 := HPP.out (.returned (.int .i64 ((L.length : Int) - ((L.filter fun m => !come m now).length : Int)))) _ ⟨rfl, _, hS4⟩
    rw [← hK] at hfl hv2 hS4 hE4
    subst hv2
    have HE := Lib.hid hE4
    have HLL := Lib.hid (len_any hS4.q)
    have k2 : w3.cell? ⟨s, 1, none⟩ = some (.slice A L.length c) := cell_of hS3.q.st rfl
    have kf := free_of hS3.q.st 1
    clear hR hN ht hS3 hS4 hwin hK hE4
    go_wp2_with fail
    refine HLL.out.mono ?_
    rintro e w5 ⟨rfl, rfl⟩
    go_wp2_with fail
    exact HE.out
end Go.Proofs.Ytjcdkgdeoeboaaa.QuW
