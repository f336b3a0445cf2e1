/- Queues: the first one, taken, thrown away. -/
import Derived.Test.YtjcdkgdeoeboaaaQuH
set_option linter.unusedVariables false
set_option linter.unusedSimpArgs false
namespace Go.Proofs.Ytjcdkgdeoeboaaa.QuW
open Go.RowKit Go.Proofs.Ytjcdkgdeoeboaaa.Tc

theorem Step.below {T B : Nat} {w w1 w2 : World} {s : Nat} {most : Int} {v v1 : Value} {L : List Mg} (h : Step T B w s most v L w1 v1) (hb : Below w1.heap.size w1 w2) : Step T B w s most v L w2 v1 :=
  ⟨h.q.below hb, h.tch.trans (Tch.of_below hb), h.stp.trans (Stp.of_below hb), h.loc⟩
theorem Step.put {T B : Nat} {w w1 : World} {s : Nat} {most : Int} {v v1 v2 : Value} {L1 L2 : List Mg} (h : Step T B w s most v L1 w1 v1) (hB : B ≤ w.heap.size) (hT : 24 ≠ T) (hT2 : T ≠ 56) (hwin : Win w1 v2 L2) (hok : ∀ m ∈ L2, Ok B w1 m) (hloc : ∀ g, v2.ownBlock = some g → v1.ownBlock = some g ∨ w.heap.size ≤ g) :
    Step T B w s most v L2 (w1.setCell ⟨s, 1, none⟩ v2) v2 := by
  have hp := h.q.put hT hT2 (S := []) (Tch.refl [] w1) (by simp) (by simp) hwin hok (by
    intro g hg
    rcases hloc g hg with h1 | h1
    · exact h.q.nv g h1
    · omega)
  refine ⟨hp.1, h.tch.trans (hp.2.1.mono (by intro i hi; simp at hi; simp [hi])), h.stp.trans hp.2.2, fun g hg => ?_⟩
  rcases hloc g hg with h1 | h1
  · exact h.loc g h1
  · exact .inr h1
theorem drop_map (L : List Mg) (now : Int) : (L.dropWhile fun m => come m now).map bare = (L.map bare).dropWhile fun m => come m now := by
  induction L with
  | nil => rfl
  | cons m L ih =>
    rw [List.map_cons, List.dropWhile_cons, List.dropWhile_cons, come_bare]
    split
    · exact ih
    · rfl
/-- How many there are, by the cell. -/
def lenAt (w : World) (s : Nat) : Nat := match w.cell? ⟨s, 1, none⟩ with
  | some (.slice _ n _) => n
  | _ => 0
theorem lenAt_q {T B : Nat} {w : World} {s : Nat} {most : Int} {v : Value} {L : List Mg} (h : Q T B w s most v L) : lenAt w s = L.length := by
  obtain ⟨A, c, rfl, -⟩ := h.win.rd
  have : w.cell? ⟨s, 1, none⟩ = some (.slice A L.length c) := cell_of h.st rfl
  unfold lenAt
  rw [this]
def FirstPost (T B : Nat) (w : World) (s : Nat) (most : Int) (v : Value) (L : List Mg) (now : Int) (pop : Bool) (e : Ending) (w' : World) : Prop :=
  ((L.dropWhile fun m => come m now) = [] → e = .returned (.tuple #[mg0.val, .bool false])) ∧ (∀ m R, (L.dropWhile fun m => come m now) = m :: R → ∃ m', e = .returned (.tuple #[m'.val, .bool true]) ∧ bare m' = bare m ∧ Ok B w' m') ∧
    ∃ v', Step T B w s most v (if pop = true then (L.dropWhile fun m => come m now).tail else L.dropWhile fun m => come m now) w' v'
/-- The answer is stored in a cell of the call's own. -/
theorem finish {T B : Nat} {w w1 w2 : World} {s : Nat} {most : Int} {v v1 : Value} {R : List Mg} (e : Ending) {X Y : Ending → World → Prop} {c : Array Value} (hPP : ∀ e w', X e w' → Y e w') (hB : B ≤ w.heap.size) (hs : s < w.heap.size) (h : Step T B w s most v R w1 v1) (hz : w1.heap[w.heap.size]? = some (.cells c 24 (0, 0)))
    (ht : Tch [w.heap.size] w1 w2) (hv1 : ∀ g, v1.ownBlock = some g → g ≠ w.heap.size) (hx : ∀ w2, Step T B w s most v R w2 v1 → Stp B w1 w2 → X e w2) : Y e w2 := by
  have st : Stp B w1 w2 := Stp.of_tch ht (by
    intro i hi hf
    obtain rfl : i = w.heap.size := by simpa using hi
    rcases hf with hf | ⟨cur, f, hc⟩
    · omega
    · rw [hz] at hc; injection hc with hc; injection hc with _ hc; exact absurd hc (by decide))
  refine hPP _ _ (hx w2 ⟨h.q.kept ht st (by simp; omega) (by intro g hg; have := hv1 g hg; simp; omega), ?_, h.stp.trans st, h.loc⟩ st)
  exact h.tch.then ht (fun i hi => .inr (by simp at hi; omega))
set_option maxRecDepth 100000 in
set_option maxHeartbeats 4000000 in
theorem first_any {B : Nat} {w : World} {s : Nat} {most : Int} {v : Value} {L : List Mg} (h : Q 43 B w s most v L) (hl : L.length < 100000) (now : Int) :
    Calls Try.prog 19 #[.pointer (some ⟨s, 0, none⟩), .int .i64 now] w (FirstPost 43 B w s most v L now false) := by
  generalize hP : FirstPost 43 B w s most v L now false = PP
  have HPP := Lib.hid (show ∀ e w', FirstPost 43 B w s most v L now false e w' → PP e w' by intro e w' h; rw [← hP]; exact h)
  clear hP
  have hb0 := alloc_below w (.cells #[.string ⟨#[]⟩, .string ⟨#[]⟩, .int .i64 0, .bool false, .slice none 0 0, .string ⟨#[]⟩, .int .i64 0, .int .i64 0, .string ⟨#[]⟩] 24)
  have hz0 := heap_alloc_new w (.cells #[.string ⟨#[]⟩, .string ⟨#[]⟩, .int .i64 0, .bool false, .slice none 0 0, .string ⟨#[]⟩, .int .i64 0, .int .i64 0, .string ⟨#[]⟩] 24)
  obtain ⟨W, hW⟩ : ∃ W, W = w.alloc (.cells #[.string ⟨#[]⟩, .string ⟨#[]⟩, .int .i64 0, .bool false, .slice none 0 0, .string ⟨#[]⟩, .int .i64 0, .int .i64 0, .string ⟨#[]⟩] 24) := ⟨_, rfl⟩
  have HW := Lib.hid hW
  rw [← hW] at hb0 hz0
  have HB := Lib.hid h.bB
  have HSN := Lib.hid (lt_of_block h.st)
  have HV := Lib.hid (fun g (hg : v.ownBlock = some g) => h.win.lt hg)
  have HST := Lib.hid (Step.of_below h hb0)
  have HZ := Lib.hid hz0
  clear hb0 hz0 hW h
  go_enter Try.func19, Try.ntmps19
  go_upto_region 1 with (fail)
  rw [← HW.out]
  clear HW
  go_loopw [] (fun wr => ∃ (v1 : Value) (R : List Mg), Step 43 B w s most v R wr v1 ∧ (R.dropWhile fun m => come m now) = (L.dropWhile fun m => come m now) ∧ R.length ≤ L.length ∧ (∀ g, v1.ownBlock = some g → v.ownBlock = some g) ∧ wr.heap[w.heap.size]? = some (.cells #[.string ⟨#[]⟩, .string ⟨#[]⟩, .int .i64 0, .bool false, .slice none 0 0, .string ⟨#[]⟩, .int .i64 0, .int .i64 0, .string ⟨#[]⟩] 24 (0, 0))) (fun wr => lenAt wr s)
  case atStart => exact ⟨v, L, HST.out, rfl, Nat.le_refl _, fun g hg => hg, HZ.out⟩
  case round =>
    obtain ⟨v1, R, hst, hd, hle, how, hz⟩ := hrel
    have HOW := Lib.hid how
    clear how
    have HS := Lib.hid hst
    have HD := Lib.hid hd
    have HZ2 := Lib.hid hz
    have hlen := lenAt_q hst.q
    cases R with
    | nil =>
      have HL := Lib.hid (len_any hst.q)
      clear hst hd hz
      go_wp2_with fail
      refine HL.out.mono ?_
      rintro e w2 ⟨rfl, rfl⟩
      go_wp2_with fail
      refine HL.out.mono ?_
      rintro e w2 ⟨rfl, rfl⟩
      have c0 : wr.cell? ⟨w.heap.size, 0, none⟩ = some (.string ⟨#[]⟩) := cell_of HZ2.out rfl
      have c1 : wr.cell? ⟨w.heap.size, 1, none⟩ = some (.string ⟨#[]⟩) := cell_of HZ2.out rfl
      have c2 : wr.cell? ⟨w.heap.size, 2, none⟩ = some (.int .i64 0) := cell_of HZ2.out rfl
      have c3 : wr.cell? ⟨w.heap.size, 3, none⟩ = some (.bool false) := cell_of HZ2.out rfl
      have c4 : wr.cell? ⟨w.heap.size, 4, none⟩ = some (.slice none 0 0) := cell_of HZ2.out rfl
      have c5 : wr.cell? ⟨w.heap.size, 5, none⟩ = some (.string ⟨#[]⟩) := cell_of HZ2.out rfl
      have c6 : wr.cell? ⟨w.heap.size, 6, none⟩ = some (.int .i64 0) := cell_of HZ2.out rfl
      have c7 : wr.cell? ⟨w.heap.size, 7, none⟩ = some (.int .i64 0) := cell_of HZ2.out rfl
      have c8 : wr.cell? ⟨w.heap.size, 8, none⟩ = some (.string ⟨#[]⟩) := cell_of HZ2.out rfl
      have f0 := free_of HZ2.out 0
      have f1 := free_of HZ2.out 1
      have f2 := free_of HZ2.out 2
      have f3 := free_of HZ2.out 3
      have f4 := free_of HZ2.out 4
      have f5 := free_of HZ2.out 5
      have f6 := free_of HZ2.out 6
      have f7 := free_of HZ2.out 7
      have f8 := free_of HZ2.out 8
      have hp := put9 HZ2.out (.string ⟨#[]⟩) (.string ⟨#[]⟩) (.int .i64 0) (.bool false) (.slice none 0 0) (.string ⟨#[]⟩) (.int .i64 0) (.int .i64 0) (.string ⟨#[]⟩)
      have p0 := cell_of hp (o := 0) (v := .string ⟨#[]⟩) rfl
      have p1 := cell_of hp (o := 1) (v := .string ⟨#[]⟩) rfl
      have p2 := cell_of hp (o := 2) (v := .int .i64 0) rfl
      have p3 := cell_of hp (o := 3) (v := .bool false) rfl
      have p4 := cell_of hp (o := 4) (v := .slice none 0 0) rfl
      have p5 := cell_of hp (o := 5) (v := .string ⟨#[]⟩) rfl
      have p6 := cell_of hp (o := 6) (v := .int .i64 0) rfl
      have p7 := cell_of hp (o := 7) (v := .int .i64 0) rfl
      have p8 := cell_of hp (o := 8) (v := .string ⟨#[]⟩) rfl
      have HTE := Lib.hid (put9_tch wr (w.heap.size) (.string ⟨#[]⟩) (.string ⟨#[]⟩) (.int .i64 0) (.bool false) (.slice none 0 0) (.string ⟨#[]⟩) (.int .i64 0) (.int .i64 0) (.string ⟨#[]⟩))
      have hbz : Below wr.heap.size wr wr := Below.refl _ _
      have HE := Lib.hid (finish (.returned (.tuple #[mg0.val, .bool false])) HPP.out HB.out HSN.out HS.out HZ2.out HTE.out (fun g hg => by have := HV.out g (HOW.out g hg); omega) (by
        intro w6 hst6 hst7
        exact ⟨fun _ => rfl, fun m R' h => (by rw [← HD.out] at h; cases h), v1, by rw [← HD.out]; exact hst6⟩))
      clear hp hbz
      go_wp2_with fail
      exact bodyPost_ret (v := .tuple #[.agg #[.string ⟨#[]⟩, .string ⟨#[]⟩, .int .i64 0, .bool false, .slice none 0 0, .string ⟨#[]⟩, .int .i64 0, .int .i64 0, .string ⟨#[]⟩], .bool false]) (by simp [mg0, Mg.val, results, Try.results19, go_sem, *]) rfl HE.out
    | cons m R' =>
      have HL := Lib.hid (len_any hst.q)
      have HC := Lib.hid (come_any m now wr)
      have hmok := hst.q.ok m (by simp)
      obtain ⟨g, o, cap, rfl, hcap, hcm, ht1, ht2⟩ := hst.q.win.tail
      have k1 : wr.cell? ⟨s, 1, none⟩ = some (.slice (some ⟨g, o, none⟩) (R'.length + 1) cap) := cell_of hst.q.st rfl
      obtain ⟨A, cc, hv, hrd⟩ := hst.q.win.rd
      injection hv with hv1 hv2 hv3
      subst hv1
      obtain ⟨g', o', hA, c0, c1, c2, c3, c4, c5, c6, c7, c8⟩ := rd_msg hrd (k := 0) rfl
      injection hA with hA
      injection hA with hA1 hA2
      subst hA1 hA2 hv3
      simp only [Nat.zero_mul, Nat.add_zero] at c0 c1 c2 c3 c4 c5 c6 c7 c8
      simp only [List.length_cons] at hlen hle
      have hz1 : (0 : Int) < R'.length + 1 := by omega
      have hc1 : (1 : Int) ≤ R'.length + 1 := by omega
      have hc2 : (R'.length : Int) + 1 ≤ cap := by omega
      have HMOK := Lib.hid hmok
      have HT1 := Lib.hid ht1
      have HT2 := Lib.hid ht2
      unfold Mg.val at HC
      unfold maxLen at hcm
      clear hst hd hz hmok hrd ht1 ht2 hv2
      cases hcome : come m now with
      | true =>
        rw [hcome] at HC
        have HCO := Lib.hid hcome
        clear hcome
        go_wp2_with fail
        refine HL.out.mono ?_
        rintro e w2 ⟨rfl, rfl⟩
        go_wp2_with fail
        refine HC.out.mono ?_
        rintro e w2 ⟨rfl, hb⟩
        have HS2 := Lib.hid (HS.out.below hb)
        have HZ3 := Lib.hid ((hb.block _ (lt_of_block HZ2.out)).trans HZ2.out)
        have HB2 := Lib.hid hb
        clear hb k1 c0 c1 c2 c3 c4 c5 c6 c7 c8
        have k1 : w2.cell? ⟨s, 1, none⟩ = some (.slice (some ⟨g, o, none⟩) (R'.length + 1) cap) := cell_of HS2.out.q.st rfl
        have kf := free_of HS2.out.q.st 1
        by_cases hone : cap = 1
        case pos =>
          obtain ⟨hw, rfl⟩ := HT1.out hone
          have HS3 := Lib.hid (HS2.out.put HB.out (by decide) (by decide) (hw.below HB2.out) (by simp) (fun g' hg => .inl hg))
          have HZ4 := Lib.hid (fun u => (set_other (p := ⟨s, 1, none⟩) (by have := HSN.out; simp; omega) u).trans HZ3.out)
          subst hone
          have hl2 := lenAt_q HS3.out.q
          simp only [List.length_nil] at hl2
          clear hw
          go_wp2_with fail
          go_roundw
          case rel => exact ⟨_, [], HS3.out, by rw [← HD.out, List.dropWhile_cons, if_pos HCO.out], by simp, HOW.out, HZ4.out _⟩
          case measure => rw [hl2, hlen]; omega
        case neg =>
          have HS3 := Lib.hid (HS2.out.put HB.out (by decide) (by decide) ((HT2.out hone).below HB2.out) (fun y hy => HS2.out.q.ok y (by simp [hy])) (fun g' hg => .inl hg))
          have HZ4 := Lib.hid (fun u => (set_other (p := ⟨s, 1, none⟩) (by have := HSN.out; simp; omega) u).trans HZ3.out)
          have hl2 := lenAt_q HS3.out.q
          go_wp2_with fail
          go_roundw
          case rel => exact ⟨_, R', HS3.out, by rw [← HD.out, List.dropWhile_cons, if_pos HCO.out], by omega, HOW.out, HZ4.out _⟩
          case measure => rw [hl2, hlen]; omega
      | false =>
        rw [hcome] at HC
        have HNE := Lib.hid (show ¬ come m now = true by rw [hcome]; exact Bool.false_ne_true)
        clear hcome
        go_wp2_with fail
        refine HL.out.mono ?_
        rintro e w2 ⟨rfl, rfl⟩
        go_wp2_with fail
        refine HC.out.mono ?_
        rintro e w2 ⟨rfl, hb⟩
        have HS2 := Lib.hid (HS.out.below hb)
        have HZ3 := Lib.hid ((hb.block _ (lt_of_block HZ2.out)).trans HZ2.out)
        have d0 := (Same.of_below hb).cell c0
        have d1 := (Same.of_below hb).cell c1
        have d2 := (Same.of_below hb).cell c2
        have d3 := (Same.of_below hb).cell c3
        have d4 := (Same.of_below hb).cell c4
        have d5 := (Same.of_below hb).cell c5
        have d6 := (Same.of_below hb).cell c6
        have d7 := (Same.of_below hb).cell c7
        have d8 := (Same.of_below hb).cell c8
        have HMO2 := Lib.hid (HMOK.out.below hb)
        have HL2 := Lib.hid (len_any HS2.out.q)
        clear hb k1 c0 c1 c2 c3 c4 c5 c6 c7 c8
        have k1 : w2.cell? ⟨s, 1, none⟩ = some (.slice (some ⟨g, o, none⟩) (R'.length + 1) cap) := cell_of HS2.out.q.st rfl
        go_wp2_with fail
        refine HL2.out.mono ?_
        rintro e w3 ⟨rfl, rfl⟩
        have hnz : ((R'.length : Int) + 1 == 0) = false := beq_eq_false_iff_ne.2 (by omega)
        have hbx := alloc_below w2 (.cells #[.string m.topic, .string m.payload, .int .i64 m.qos, .bool m.retain, .slice m.pA m.props.length m.pc, .string m.from_, .int .i64 m.until_, .int .i64 m.seq, .string m.group] 24)
        have hx0 := heap_alloc_new w2 (.cells #[.string m.topic, .string m.payload, .int .i64 m.qos, .bool m.retain, .slice m.pA m.props.length m.pc, .string m.from_, .int .i64 m.until_, .int .i64 m.seq, .string m.group] 24)
        have hxs : (w2.alloc (.cells #[.string m.topic, .string m.payload, .int .i64 m.qos, .bool m.retain, .slice m.pA m.props.length m.pc, .string m.from_, .int .i64 m.until_, .int .i64 m.seq, .string m.group] 24)).heap.size = w2.heap.size + 1 := by simp
        obtain ⟨w3, hw3⟩ : ∃ w3, w3 = w2.alloc (.cells #[.string m.topic, .string m.payload, .int .i64 m.qos, .bool m.retain, .slice m.pA m.props.length m.pc, .string m.from_, .int .i64 m.until_, .int .i64 m.seq, .string m.group] 24) := ⟨_, rfl⟩
        have HW3 := Lib.hid hw3
        rw [← hw3] at hbx hx0 hxs
        have HCL := Lib.hid (cloneP_any w3 m.pA m.pc m.props ((HMO2.out.below hbx).rd) (by have := HMOK.out.few; omega))
        have HX := Lib.hid hx0
        have HXS := Lib.hid hxs
        have HBX := Lib.hid hbx
        have x0 : w3.cell? ⟨w2.heap.size, 0, none⟩ = some (.string m.topic) := cell_of HX.out rfl
        have x1 : w3.cell? ⟨w2.heap.size, 1, none⟩ = some (.string m.payload) := cell_of HX.out rfl
        have x2 : w3.cell? ⟨w2.heap.size, 2, none⟩ = some (.int .i64 m.qos) := cell_of HX.out rfl
        have x3 : w3.cell? ⟨w2.heap.size, 3, none⟩ = some (.bool m.retain) := cell_of HX.out rfl
        have x4 : w3.cell? ⟨w2.heap.size, 4, none⟩ = some (.slice m.pA m.props.length m.pc) := cell_of HX.out rfl
        have x5 : w3.cell? ⟨w2.heap.size, 5, none⟩ = some (.string m.from_) := cell_of HX.out rfl
        have x6 : w3.cell? ⟨w2.heap.size, 6, none⟩ = some (.int .i64 m.until_) := cell_of HX.out rfl
        have x7 : w3.cell? ⟨w2.heap.size, 7, none⟩ = some (.int .i64 m.seq) := cell_of HX.out rfl
        have x8 : w3.cell? ⟨w2.heap.size, 8, none⟩ = some (.string m.group) := cell_of HX.out rfl
        clear hw3 hbx hx0 hxs
        go_upto_region 6 with (fail)
        rw [← HW3.out]
        clear HW3 d0 d1 d2 d3 d4 d5 d6 d7 d8 k1
        go_wp2_with fail
        refine HCL.out.mono ?_
        rintro e w4 ⟨⟨v, rfl, hR, hN⟩, hb⟩
        have hty : ∀ ad, v.ownBlock = some ad → ∃ cur, w4.heap[ad]? = some (.cells cur 56 (0, 0)) := fun ad hd => own_type hR hd
        obtain ⟨A1, cA, rfl, hRd⟩ := rd_own hR
        have hz0 := (hb.block _ (lt_of_block HX.out)).trans HX.out
        have hb4 := HBX.out.trans (hb.mono HBX.out.size)
        have HN3 := Lib.hid (show ∀ ad, A1 = some ad → w2.heap.size + 1 ≤ ad.block by
          intro ad had
          subst had
          have h1 := hN ad.block rfl
          rw [HXS.out] at h1
          exact h1)
        have x4' : w4.cell? ⟨w2.heap.size, 4, none⟩ = some (.slice m.pA m.props.length m.pc) := cell_of hz0 rfl
        have xf := free_of hz0 4
        have hz5 : (w4.setCell ⟨w2.heap.size, 4, none⟩ (.slice A1 m.props.length cA)).heap[w2.heap.size]? = some (.cells #[.string m.topic, .string m.payload, .int .i64 m.qos, .bool m.retain, .slice A1 m.props.length cA, .string m.from_, .int .i64 m.until_, .int .i64 m.seq, .string m.group] 24 (0, 0)) := set_of hz0 4 _
        obtain ⟨wA, hwA⟩ : ∃ wA, wA = w4.setCell ⟨w2.heap.size, 4, none⟩ (.slice A1 m.props.length cA) := ⟨_, rfl⟩
        have hbA : Below w2.heap.size w2 wA := by
          rw [hwA]
          exact (((Tch.of_below (S := []) hb4).setCell (p := ⟨w2.heap.size, 4, none⟩) (.inr (Nat.le_refl _)) _).below (Nat.le_refl _) (by simp))
        have hok : Ok B wA { m with pA := A1, pc := cA } := by
          refine ⟨?_, ?_, HMOK.out.wf, HMOK.out.few⟩
          · rw [hwA]
            refine hRd.block ?_
            intro ad hA _ _
            have h1 := HN3.out ad hA
            exact set_other (p := ⟨w2.heap.size, 4, none⟩) (by simp; omega) _
          · intro ad hA _
            have h1 := HN3.out ad hA
            dsimp only at hA
            subst hA
            obtain ⟨cur, hcur⟩ := hty ad.block rfl
            refine .inr ⟨cur, (0, 0), ?_⟩
            rw [hwA]
            exact (set_other (p := ⟨w2.heap.size, 4, none⟩) (by simp; omega) _).trans hcur
        rw [← hwA] at hz5
        have HXA := Lib.hid hz5
        have HSA := Lib.hid (HS2.out.below hbA)
        have HZA := Lib.hid ((hbA.block _ (lt_of_block HZ3.out)).trans HZ3.out)
        have HOK := Lib.hid hok
        have HWA' := hwA.symm
        clear hty hRd hR hN hb hz0 hb4 hz5 hbA hok hwA x0 x1 x2 x3 x4 x5 x6 x7 x8
        have y0 : wA.cell? ⟨w2.heap.size, 0, none⟩ = some (.string m.topic) := cell_of HXA.out rfl
        have y1 : wA.cell? ⟨w2.heap.size, 1, none⟩ = some (.string m.payload) := cell_of HXA.out rfl
        have y2 : wA.cell? ⟨w2.heap.size, 2, none⟩ = some (.int .i64 m.qos) := cell_of HXA.out rfl
        have y3 : wA.cell? ⟨w2.heap.size, 3, none⟩ = some (.bool m.retain) := cell_of HXA.out rfl
        have y4 : wA.cell? ⟨w2.heap.size, 4, none⟩ = some (.slice A1 m.props.length cA) := cell_of HXA.out rfl
        have y5 : wA.cell? ⟨w2.heap.size, 5, none⟩ = some (.string m.from_) := cell_of HXA.out rfl
        have y6 : wA.cell? ⟨w2.heap.size, 6, none⟩ = some (.int .i64 m.until_) := cell_of HXA.out rfl
        have y7 : wA.cell? ⟨w2.heap.size, 7, none⟩ = some (.int .i64 m.seq) := cell_of HXA.out rfl
        have y8 : wA.cell? ⟨w2.heap.size, 8, none⟩ = some (.string m.group) := cell_of HXA.out rfl
        have c0 : wA.cell? ⟨w.heap.size, 0, none⟩ = some (.string ⟨#[]⟩) := cell_of HZA.out rfl
        have c1 : wA.cell? ⟨w.heap.size, 1, none⟩ = some (.string ⟨#[]⟩) := cell_of HZA.out rfl
        have c2 : wA.cell? ⟨w.heap.size, 2, none⟩ = some (.int .i64 0) := cell_of HZA.out rfl
        have c3 : wA.cell? ⟨w.heap.size, 3, none⟩ = some (.bool false) := cell_of HZA.out rfl
        have c4 : wA.cell? ⟨w.heap.size, 4, none⟩ = some (.slice none 0 0) := cell_of HZA.out rfl
        have c5 : wA.cell? ⟨w.heap.size, 5, none⟩ = some (.string ⟨#[]⟩) := cell_of HZA.out rfl
        have c6 : wA.cell? ⟨w.heap.size, 6, none⟩ = some (.int .i64 0) := cell_of HZA.out rfl
        have c7 : wA.cell? ⟨w.heap.size, 7, none⟩ = some (.int .i64 0) := cell_of HZA.out rfl
        have c8 : wA.cell? ⟨w.heap.size, 8, none⟩ = some (.string ⟨#[]⟩) := cell_of HZA.out rfl
        have f0 := free_of HZA.out 0
        have f1 := free_of HZA.out 1
        have f2 := free_of HZA.out 2
        have f3 := free_of HZA.out 3
        have f4 := free_of HZA.out 4
        have f5 := free_of HZA.out 5
        have f6 := free_of HZA.out 6
        have f7 := free_of HZA.out 7
        have f8 := free_of HZA.out 8
        have hp := put9 HZA.out (.string m.topic) (.string m.payload) (.int .i64 m.qos) (.bool m.retain) (.slice A1 m.props.length cA) (.string m.from_) (.int .i64 m.until_) (.int .i64 m.seq) (.string m.group)
        have p0 := cell_of hp (o := 0) (v := .string m.topic) rfl
        have p1 := cell_of hp (o := 1) (v := .string m.payload) rfl
        have p2 := cell_of hp (o := 2) (v := .int .i64 m.qos) rfl
        have p3 := cell_of hp (o := 3) (v := .bool m.retain) rfl
        have p4 := cell_of hp (o := 4) (v := .slice A1 m.props.length cA) rfl
        have p5 := cell_of hp (o := 5) (v := .string m.from_) rfl
        have p6 := cell_of hp (o := 6) (v := .int .i64 m.until_) rfl
        have p7 := cell_of hp (o := 7) (v := .int .i64 m.seq) rfl
        have p8 := cell_of hp (o := 8) (v := .string m.group) rfl
        have HTE := Lib.hid (put9_tch wA (w.heap.size) (.string m.topic) (.string m.payload) (.int .i64 m.qos) (.bool m.retain) (.slice A1 m.props.length cA) (.string m.from_) (.int .i64 m.until_) (.int .i64 m.seq) (.string m.group))
        have HE := Lib.hid (finish (.returned (.tuple #[.agg #[.string m.topic, .string m.payload, .int .i64 m.qos, .bool m.retain, .slice A1 m.props.length cA, .string m.from_, .int .i64 m.until_, .int .i64 m.seq, .string m.group], .bool true])) HPP.out HB.out HSN.out HSA.out HZA.out HTE.out (fun g hg => by have := HV.out g (HOW.out g hg); omega) (by
          intro w6 hst6 hst7
          refine ⟨fun h => (by rw [← HD.out, List.dropWhile_cons, if_neg HNE.out] at h; cases h), fun m2 R2 h => ?_, _, by rw [← HD.out, List.dropWhile_cons, if_neg HNE.out]; exact hst6⟩
          rw [← HD.out, List.dropWhile_cons, if_neg HNE.out] at h
          injection h with h1 h2
          subst h1
          exact ⟨{ m with pA := A1, pc := cA }, rfl, rfl, HOK.out.stp hst7⟩))
        clear hp
        go_wp2_with fail
        exact bodyPost_ret (v := .tuple #[.agg #[.string m.topic, .string m.payload, .int .i64 m.qos, .bool m.retain, .slice A1 m.props.length cA, .string m.from_, .int .i64 m.until_, .int .i64 m.seq, .string m.group], .bool true]) (by simp [results, Try.results19, go_sem, *]) rfl HE.out
end Go.Proofs.Ytjcdkgdeoeboaaa.QuW
