/- Queues: by the document taken from; few acts; lists compared; queues that nobody made. -/
import Derived.Test.YtjcdkgdeoeboaaaQuM
import Derived.Test.YtjcdkgdeoeboaaaQuN
set_option linter.unusedVariables false
set_option linter.unusedSimpArgs false
namespace Go.Proofs.Ytjcdkgdeoeboaaa.QuW
open Go.RowKit Go.Proofs.Ytjcdkgdeoeboaaa.Tc

theorem Win.drop {w : World} {v : Value} {L : List Mg} (h : Win w v L) {k : Nat} (hk : k < L.length) : ∃ g o cap, v = .slice (some ⟨g, o, none⟩) L.length cap ∧ L.length ≤ cap ∧ cap ≤ maxLen ∧ (cap = k + 1 → Win w (.slice (some ⟨g, o, none⟩) 0 0) (L.drop (k + 1)) ∧ L.length = k + 1) ∧ (cap ≠ k + 1 → Win w (.slice (some ⟨g, o + (k + 1) * 9, none⟩) (L.length - (k + 1)) (cap - (k + 1))) (L.drop (k + 1))) := by
  rcases h with ⟨_, h0⟩ | ⟨g, o, cap, cur, rfl, hh, h1, h2, h3, h4⟩
  · rw [h0] at hk; simp at hk
  · refine ⟨g, o, cap, rfl, h1, h2, fun hc => ?_, fun hc => ?_⟩
    · have h5 : L.length = k + 1 := by omega
      rw [List.drop_of_length_le (by omega)]
      exact ⟨.inr ⟨g, o, 0, cur, rfl, hh, Nat.le_refl _, by omega, by omega, fun j u hu => by simp at hu⟩, h5⟩
    · refine .inr ⟨g, o + (k + 1) * 9, cap - (k + 1), cur, by rw [List.length_drop], hh, by rw [List.length_drop]; omega, by omega, by omega, fun j u hu => ?_⟩
      have := h4 ((k + 1) * 9 + j) u (by
        have e : L.flatMap Mg.vals = (L.take (k + 1)).flatMap Mg.vals ++ (L.drop (k + 1)).flatMap Mg.vals := by rw [← List.flatMap_append, List.take_append_drop]
        have hl : ((L.take (k + 1)).flatMap Mg.vals).length = (k + 1) * 9 := by rw [fl_len msg_len, List.length_take]; congr 1; omega
        rw [e, List.getElem?_append_right (by rw [hl]; omega), hl, show (k + 1) * 9 + j - (k + 1) * 9 = j by omega]
        exact hu)
      rw [show o + (k + 1) * 9 + j = o + ((k + 1) * 9 + j) by omega]
      exact this
theorem drop_key {L : List Mg} {now : Int} : ∀ k ≤ L.length, (∀ (j : Nat) (m : Mg), j < k → L[j]? = some m → come m now = true) → (L.dropWhile fun m => come m now) = (L.drop k).dropWhile fun m => come m now := by
  intro k
  induction k with
  | zero => intro _ _; rw [List.drop_zero]
  | succ k ih =>
    intro hk h
    rw [ih (by omega) (fun j m hj hm => h j m (by omega) hm)]
    have hx : L[k]? = some L[k] := List.getElem?_eq_getElem (by omega)
    rw [drop_cons hx, List.dropWhile_cons, if_pos (h k _ (by omega) hx)]
theorem drop_at {L : List Mg} {now : Int} {k : Nat} {x : Mg} (hx : L[k]? = some x) (hn : ∀ (j : Nat) (m : Mg), j < k → L[j]? = some m → come m now = true) : (L.dropWhile fun m => come m now) = (L.drop k).dropWhile fun m => come m now :=
  drop_key k (by have := (List.getElem?_eq_some_iff.1 hx).1; omega) hn
theorem drop_none {L : List Mg} {now : Int} (hn : ∀ (j : Nat) (m : Mg), j < L.length → L[j]? = some m → come m now = true) : (L.dropWhile fun m => come m now) = [] := by
  rw [drop_key L.length (Nat.le_refl _) hn, List.drop_length]
  rfl
set_option maxRecDepth 100000 in
set_option maxHeartbeats 4000000 in
theorem rpop_any {B : Nat} {w : World} {s : Nat} {most : Int} {v : Value} {L : List Mg} (h : Q 41 B w s most v L) (hl : L.length < 100000) (now : Int) :
    Calls Try.prog 18 #[.pointer (some ⟨s, 0, none⟩), .int .i64 now] w (FirstPost 41 B w s most v L now true) := by
  generalize hP : FirstPost 41 B w s most v L now true = PP
  have HPP := Lib.hid (show ∀ e w', FirstPost 41 B w s most v L now true e w' → PP e w' by intro e w' h; rw [← hP]; exact h)
  clear hP
  have hb0 := alloc_below w (.cells #[.string ⟨#[]⟩, .string ⟨#[]⟩, .int .i64 0, .bool false, .slice none 0 0, .string ⟨#[]⟩, .int .i64 0, .int .i64 0, .string ⟨#[]⟩] 24)
  have hz0 := heap_alloc_new w (.cells #[.string ⟨#[]⟩, .string ⟨#[]⟩, .int .i64 0, .bool false, .slice none 0 0, .string ⟨#[]⟩, .int .i64 0, .int .i64 0, .string ⟨#[]⟩] 24)
  obtain ⟨W, hW⟩ : ∃ W, W = w.alloc (.cells #[.string ⟨#[]⟩, .string ⟨#[]⟩, .int .i64 0, .bool false, .slice none 0 0, .string ⟨#[]⟩, .int .i64 0, .int .i64 0, .string ⟨#[]⟩] 24) := ⟨_, rfl⟩
  have HW := Lib.hid hW
  rw [← hW] at hb0 hz0
  have HB := Lib.hid h.bB
  have HSN := Lib.hid (lt_of_block h.st)
  have HV := Lib.hid (fun g (hg : v.ownBlock = some g) => h.win.lt hg)
  have HQ := Lib.hid h
  have HB0 := Lib.hid hb0
  have HZ := Lib.hid hz0
  clear hb0 hz0 hW
  obtain ⟨A, c, rfl, -⟩ := h.win.rd
  clear h
  go_enter Try.func18, Try.ntmps18
  go_upto_region 1 with (fail)
  rw [← HW.out]
  clear HW
  go_wp2
  go_loopw [6] (fun x wr => ∃ k : Nat, k ≤ L.length ∧ x = .int .i64 k ∧ (∀ (j : Nat) (m : Mg), j < k → L[j]? = some m → come m now = true) ∧ Below W.heap.size W wr) (fun x _ => L.length - (intOf x).toNat)
  case atStart => exact ⟨0, by omega, rfl, by intro j m h; omega, Below.refl _ _⟩
  case round =>
    obtain ⟨k, hk, rfl, hn, hbr⟩ := hrel
    have HBR := Lib.hid (HB0.out.trans (hbr.mono HB0.out.size))
    have HBW := Lib.hid hbr
    have HN := Lib.hid hn
    have hq := HQ.out.below HBR.out
    have k1 : wr.cell? ⟨s, 1, none⟩ = some (.slice A L.length c) := cell_of hq.st rfl
    by_cases hlt : k < L.length
    · obtain ⟨x, hx⟩ : ∃ x, L[k]? = some x := ⟨_, List.getElem?_eq_getElem hlt⟩
      obtain ⟨A0, c0', hv, hrd⟩ := hq.win.rd
      injection hv with hv1 hv2 hv3
      subst hv1 hv3
      obtain ⟨b, off, rfl, c0, c1, c2, c3, c4, c5, c6, c7, c8⟩ := rd_msg hrd hx
      have HC := Lib.hid (rcome_any x now wr)
      have HX := Lib.hid hx
      unfold Mg.val at HC
      clear hx hq hrd hn hbr hv2
      cases hcome : come x now with
      | true =>
        rw [hcome] at HC
        have HCO := Lib.hid hcome
        clear hcome
        go_wp2_with fail
        refine HC.out.mono ?_
        rintro e w2 ⟨rfl, hb⟩
        have HB2 := Lib.hid (HBW.out.trans (hb.mono HBW.out.size))
        have HN1 := Lib.hid (show ∀ (j : Nat) (m : Mg), j < k + 1 → L[j]? = some m → come m now = true by
          intro j y hj hy
          by_cases e2 : j = k
          · subst e2; have := HX.out; rw [hy] at this; injection this with this; rw [this]; exact HCO.out
          · exact HN.out j y (by omega) hy)
        clear hb k1 c0 c1 c2 c3 c4 c5 c6 c7 c8
        go_wp2_with fail
        go_roundw
        case rel => exact ⟨k + 1, by omega, by go_num, HN1.out, HB2.out⟩
        case measure => simp [intOf]; omega
      | false =>
        rw [hcome] at HC
        have HNE := Lib.hid (show ¬ come x now = true by rw [hcome]; exact Bool.false_ne_true)
        clear hcome
        go_wp2_with fail
        refine HC.out.mono ?_
        rintro e w2 ⟨rfl, hb⟩
        have hb2 := HBR.out.trans (hb.mono HBR.out.size)
        have hb2W := HBW.out.trans (hb.mono HBW.out.size)
        have d0 := (Same.of_below hb).cell c0
        have d1 := (Same.of_below hb).cell c1
        have d2 := (Same.of_below hb).cell c2
        have d3 := (Same.of_below hb).cell c3
        have d4 := (Same.of_below hb).cell c4
        have d5 := (Same.of_below hb).cell c5
        have d6 := (Same.of_below hb).cell c6
        have d7 := (Same.of_below hb).cell c7
        have d8 := (Same.of_below hb).cell c8
        have k2 := (Same.of_below hb).cell k1
        have hb3 := alloc_below w2 (.cells #[.string x.topic, .string x.payload, .int .i64 x.qos, .bool x.retain, .slice x.pA x.props.length x.pc, .string x.from_, .int .i64 x.until_, .int .i64 x.seq, .string x.group] 24)
        have hx3 := heap_alloc_new w2 (.cells #[.string x.topic, .string x.payload, .int .i64 x.qos, .bool x.retain, .slice x.pA x.props.length x.pc, .string x.from_, .int .i64 x.until_, .int .i64 x.seq, .string x.group] 24)
        obtain ⟨w3, hw3⟩ : ∃ w3, w3 = w2.alloc (.cells #[.string x.topic, .string x.payload, .int .i64 x.qos, .bool x.retain, .slice x.pA x.props.length x.pc, .string x.from_, .int .i64 x.until_, .int .i64 x.seq, .string x.group] 24) := ⟨_, rfl⟩
        have HW3 := Lib.hid hw3
        rw [← hw3] at hb3 hx3
        have hS3 : Step 41 B w s most (.slice (some ⟨b, off, none⟩) L.length c) L w3 (.slice (some ⟨b, off, none⟩) L.length c) := (Step.of_below HQ.out hb2).below hb3
        have hz3 := (hb3.block _ (lt_of_block ((hb2W.block _ (lt_of_block HZ.out)).trans HZ.out))).trans ((hb2W.block _ (lt_of_block HZ.out)).trans HZ.out)
        have hszz : w.heap.size < w2.heap.size := lt_of_block ((hb2W.block _ (lt_of_block HZ.out)).trans HZ.out)
        have HS3 := Lib.hid hS3
        have HX3 := Lib.hid hx3
        have HZ3 := Lib.hid hz3
        have hdd : (L.dropWhile fun m => come m now) = x :: L.drop (k + 1) := by
          rw [drop_at HX.out HN.out, drop_cons HX.out, List.dropWhile_cons, if_neg HNE.out]
        have HD := Lib.hid hdd
        have hxok := hS3.q.ok x (List.mem_of_getElem? HX.out)
        obtain ⟨g, o, cap, hv, hcap, hcm, ht1, ht2⟩ := hS3.q.win.drop hlt
        injection hv with hv1 hv2 hv3
        injection hv1 with hv1
        injection hv1 with hv1 hv4
        subst hv1 hv4 hv3
        have kk : w3.cell? ⟨s, 1, none⟩ = some (.slice (some ⟨b, off, none⟩) L.length c) := cell_of hS3.q.st rfl
        have kf := free_of hS3.q.st 1
        have hx0' : ∀ u, (w3.setCell ⟨s, 1, none⟩ u).heap[w2.heap.size]? = some (.cells #[.string x.topic, .string x.payload, .int .i64 x.qos, .bool x.retain, .slice x.pA x.props.length x.pc, .string x.from_, .int .i64 x.until_, .int .i64 x.seq, .string x.group] 24 (0, 0)) := fun u => (set_other (p := ⟨s, 1, none⟩) (by have h1 := HSN.out; simp; omega) u).trans HX3.out
        have hz0' : ∀ u, (w3.setCell ⟨s, 1, none⟩ u).heap[w.heap.size]? = some (.cells #[.string ⟨#[]⟩, .string ⟨#[]⟩, .int .i64 0, .bool false, .slice none 0 0, .string ⟨#[]⟩, .int .i64 0, .int .i64 0, .string ⟨#[]⟩] 24 (0, 0)) := fun u => (set_other (p := ⟨s, 1, none⟩) (by have h1 := HSN.out; simp; omega) u).trans HZ3.out
        have i1 : (k : Int) + 1 ≤ L.length := by omega
        have i2 : (L.length : Int) ≤ c := by omega
        unfold maxLen at hcm
        clear hb hb2 hb2W hb3 hx3 hw3 hS3 hz3 hdd k1 c0 c1 c2 c3 c4 c5 c6 c7 c8 hv2
        go_upto_region 6 with (fail)
        rw [← HW3.out]
        clear HW3 d0 d1 d2 d3 d4 d5 d6 d7 d8 k2
        by_cases hone : c = k + 1
        case pos =>
          obtain ⟨hw, hLk⟩ := ht1 hone
          have HS4 := Lib.hid (HS3.out.put HB.out (by decide) (by decide) hw (fun y hy => HS3.out.q.ok y (List.mem_of_mem_drop hy)) (fun g' hg => .inl hg))
          have hst4 : Stp B w3 (w3.setCell ⟨s, 1, none⟩ (.slice (some ⟨b, off, none⟩) 0 0)) := (HS3.out.q.put (by decide) (by decide) (S := []) (Tch.refl [] w3) (by simp) (by simp) hw (fun y hy => HS3.out.q.ok y (List.mem_of_mem_drop hy)) (fun g' hg => HS3.out.q.nv g' hg)).2.2
          obtain ⟨w4, hw4⟩ : ∃ w4, w4 = w3.setCell ⟨s, 1, none⟩ (.slice (some ⟨b, off, none⟩) 0 0) := ⟨_, rfl⟩
          have hx4 := hx0' (.slice (some ⟨b, off, none⟩) 0 0)
          have hz4 := hz0' (.slice (some ⟨b, off, none⟩) 0 0)
          rw [← hw4] at HS4 hx4 hz4 hst4
          have HX4 := Lib.hid hx4
          have HZ4 := Lib.hid hz4
          have HOK4 := Lib.hid (hxok.stp hst4)
          have hw4' := hw4.symm
          subst hone
          clear hw hst4 hx4 hz4 hx0' hz0' hw4 hxok ht1 ht2 HQ HC
          have z0 : w4.cell? ⟨w2.heap.size, 0, none⟩ = some (.string x.topic) := cell_of HX4.out rfl
          have z1 : w4.cell? ⟨w2.heap.size, 1, none⟩ = some (.string x.payload) := cell_of HX4.out rfl
          have z2 : w4.cell? ⟨w2.heap.size, 2, none⟩ = some (.int .i64 x.qos) := cell_of HX4.out rfl
          have z3 : w4.cell? ⟨w2.heap.size, 3, none⟩ = some (.bool x.retain) := cell_of HX4.out rfl
          have z4 : w4.cell? ⟨w2.heap.size, 4, none⟩ = some (.slice x.pA x.props.length x.pc) := cell_of HX4.out rfl
          have z5 : w4.cell? ⟨w2.heap.size, 5, none⟩ = some (.string x.from_) := cell_of HX4.out rfl
          have z6 : w4.cell? ⟨w2.heap.size, 6, none⟩ = some (.int .i64 x.until_) := cell_of HX4.out rfl
          have z7 : w4.cell? ⟨w2.heap.size, 7, none⟩ = some (.int .i64 x.seq) := cell_of HX4.out rfl
          have z8 : w4.cell? ⟨w2.heap.size, 8, none⟩ = some (.string x.group) := cell_of HX4.out rfl
          have c0 : w4.cell? ⟨w.heap.size, 0, none⟩ = some (.string ⟨#[]⟩) := cell_of HZ4.out rfl
          have c1 : w4.cell? ⟨w.heap.size, 1, none⟩ = some (.string ⟨#[]⟩) := cell_of HZ4.out rfl
          have c2 : w4.cell? ⟨w.heap.size, 2, none⟩ = some (.int .i64 0) := cell_of HZ4.out rfl
          have c3 : w4.cell? ⟨w.heap.size, 3, none⟩ = some (.bool false) := cell_of HZ4.out rfl
          have c4 : w4.cell? ⟨w.heap.size, 4, none⟩ = some (.slice none 0 0) := cell_of HZ4.out rfl
          have c5 : w4.cell? ⟨w.heap.size, 5, none⟩ = some (.string ⟨#[]⟩) := cell_of HZ4.out rfl
          have c6 : w4.cell? ⟨w.heap.size, 6, none⟩ = some (.int .i64 0) := cell_of HZ4.out rfl
          have c7 : w4.cell? ⟨w.heap.size, 7, none⟩ = some (.int .i64 0) := cell_of HZ4.out rfl
          have c8 : w4.cell? ⟨w.heap.size, 8, none⟩ = some (.string ⟨#[]⟩) := cell_of HZ4.out rfl
          have f0 := free_of HZ4.out 0
          have f1 := free_of HZ4.out 1
          have f2 := free_of HZ4.out 2
          have f3 := free_of HZ4.out 3
          have f4 := free_of HZ4.out 4
          have f5 := free_of HZ4.out 5
          have f6 := free_of HZ4.out 6
          have f7 := free_of HZ4.out 7
          have f8 := free_of HZ4.out 8
          have hp := put9 HZ4.out (.string x.topic) (.string x.payload) (.int .i64 x.qos) (.bool x.retain) (.slice x.pA x.props.length x.pc) (.string x.from_) (.int .i64 x.until_) (.int .i64 x.seq) (.string x.group)
          have p0 := cell_of hp (o := 0) (v := .string x.topic) rfl
          have p1 := cell_of hp (o := 1) (v := .string x.payload) rfl
          have p2 := cell_of hp (o := 2) (v := .int .i64 x.qos) rfl
          have p3 := cell_of hp (o := 3) (v := .bool x.retain) rfl
          have p4 := cell_of hp (o := 4) (v := .slice x.pA x.props.length x.pc) rfl
          have p5 := cell_of hp (o := 5) (v := .string x.from_) rfl
          have p6 := cell_of hp (o := 6) (v := .int .i64 x.until_) rfl
          have p7 := cell_of hp (o := 7) (v := .int .i64 x.seq) rfl
          have p8 := cell_of hp (o := 8) (v := .string x.group) rfl
          have HTE := Lib.hid (put9_tch w4 (w.heap.size) (.string x.topic) (.string x.payload) (.int .i64 x.qos) (.bool x.retain) (.slice x.pA x.props.length x.pc) (.string x.from_) (.int .i64 x.until_) (.int .i64 x.seq) (.string x.group))
          have HE := Lib.hid (finish (.returned (.tuple #[.agg #[.string x.topic, .string x.payload, .int .i64 x.qos, .bool x.retain, .slice x.pA x.props.length x.pc, .string x.from_, .int .i64 x.until_, .int .i64 x.seq, .string x.group], .bool true])) HPP.out HB.out HSN.out HS4.out HZ4.out HTE.out (fun g' hg => by have := HV.out g' hg; omega) (by
            intro w6 hst6 hst7
            refine ⟨fun h => (by rw [HD.out] at h; cases h), fun m2 R2 h => ?_, _, by rw [HD.out]; simpa using hst6⟩
            rw [HD.out] at h
            injection h with h1 h2
            subst h1
            exact ⟨x, rfl, rfl, HOK4.out.stp hst7⟩))
          clear hp
          go_wp2_with fail
          exact bodyPost_ret (v := .tuple #[.agg #[.string x.topic, .string x.payload, .int .i64 x.qos, .bool x.retain, .slice x.pA x.props.length x.pc, .string x.from_, .int .i64 x.until_, .int .i64 x.seq, .string x.group], .bool true]) (by simp [results, Try.results18, go_sem, *]) rfl HE.out
        case neg =>
          have hw := ht2 hone
          have HS4 := Lib.hid (HS3.out.put HB.out (by decide) (by decide) hw (fun y hy => HS3.out.q.ok y (List.mem_of_mem_drop hy)) (fun g' hg => .inl hg))
          have hst4 : Stp B w3 (w3.setCell ⟨s, 1, none⟩ (.slice (some ⟨b, off + (k + 1) * 9, none⟩) (L.length - (k + 1)) (c - (k + 1)))) := (HS3.out.q.put (by decide) (by decide) (S := []) (Tch.refl [] w3) (by simp) (by simp) hw (fun y hy => HS3.out.q.ok y (List.mem_of_mem_drop hy)) (fun g' hg => HS3.out.q.nv g' hg)).2.2
          obtain ⟨w4, hw4⟩ : ∃ w4, w4 = w3.setCell ⟨s, 1, none⟩ (.slice (some ⟨b, off + (k + 1) * 9, none⟩) (L.length - (k + 1)) (c - (k + 1))) := ⟨_, rfl⟩
          have hx4 := hx0' (.slice (some ⟨b, off + (k + 1) * 9, none⟩) (L.length - (k + 1)) (c - (k + 1)))
          have hz4 := hz0' (.slice (some ⟨b, off + (k + 1) * 9, none⟩) (L.length - (k + 1)) (c - (k + 1)))
          rw [← hw4] at HS4 hx4 hz4 hst4
          have HX4 := Lib.hid hx4
          have HZ4 := Lib.hid hz4
          have HOK4 := Lib.hid (hxok.stp hst4)
          have hw4' := hw4.symm
          skip
          clear hw hst4 hx4 hz4 hx0' hz0' hw4 hxok ht1 ht2 HQ HC
          have z0 : w4.cell? ⟨w2.heap.size, 0, none⟩ = some (.string x.topic) := cell_of HX4.out rfl
          have z1 : w4.cell? ⟨w2.heap.size, 1, none⟩ = some (.string x.payload) := cell_of HX4.out rfl
          have z2 : w4.cell? ⟨w2.heap.size, 2, none⟩ = some (.int .i64 x.qos) := cell_of HX4.out rfl
          have z3 : w4.cell? ⟨w2.heap.size, 3, none⟩ = some (.bool x.retain) := cell_of HX4.out rfl
          have z4 : w4.cell? ⟨w2.heap.size, 4, none⟩ = some (.slice x.pA x.props.length x.pc) := cell_of HX4.out rfl
          have z5 : w4.cell? ⟨w2.heap.size, 5, none⟩ = some (.string x.from_) := cell_of HX4.out rfl
          have z6 : w4.cell? ⟨w2.heap.size, 6, none⟩ = some (.int .i64 x.until_) := cell_of HX4.out rfl
          have z7 : w4.cell? ⟨w2.heap.size, 7, none⟩ = some (.int .i64 x.seq) := cell_of HX4.out rfl
          have z8 : w4.cell? ⟨w2.heap.size, 8, none⟩ = some (.string x.group) := cell_of HX4.out rfl
          have c0 : w4.cell? ⟨w.heap.size, 0, none⟩ = some (.string ⟨#[]⟩) := cell_of HZ4.out rfl
          have c1 : w4.cell? ⟨w.heap.size, 1, none⟩ = some (.string ⟨#[]⟩) := cell_of HZ4.out rfl
          have c2 : w4.cell? ⟨w.heap.size, 2, none⟩ = some (.int .i64 0) := cell_of HZ4.out rfl
          have c3 : w4.cell? ⟨w.heap.size, 3, none⟩ = some (.bool false) := cell_of HZ4.out rfl
          have c4 : w4.cell? ⟨w.heap.size, 4, none⟩ = some (.slice none 0 0) := cell_of HZ4.out rfl
          have c5 : w4.cell? ⟨w.heap.size, 5, none⟩ = some (.string ⟨#[]⟩) := cell_of HZ4.out rfl
          have c6 : w4.cell? ⟨w.heap.size, 6, none⟩ = some (.int .i64 0) := cell_of HZ4.out rfl
          have c7 : w4.cell? ⟨w.heap.size, 7, none⟩ = some (.int .i64 0) := cell_of HZ4.out rfl
          have c8 : w4.cell? ⟨w.heap.size, 8, none⟩ = some (.string ⟨#[]⟩) := cell_of HZ4.out rfl
          have f0 := free_of HZ4.out 0
          have f1 := free_of HZ4.out 1
          have f2 := free_of HZ4.out 2
          have f3 := free_of HZ4.out 3
          have f4 := free_of HZ4.out 4
          have f5 := free_of HZ4.out 5
          have f6 := free_of HZ4.out 6
          have f7 := free_of HZ4.out 7
          have f8 := free_of HZ4.out 8
          have hp := put9 HZ4.out (.string x.topic) (.string x.payload) (.int .i64 x.qos) (.bool x.retain) (.slice x.pA x.props.length x.pc) (.string x.from_) (.int .i64 x.until_) (.int .i64 x.seq) (.string x.group)
          have p0 := cell_of hp (o := 0) (v := .string x.topic) rfl
          have p1 := cell_of hp (o := 1) (v := .string x.payload) rfl
          have p2 := cell_of hp (o := 2) (v := .int .i64 x.qos) rfl
          have p3 := cell_of hp (o := 3) (v := .bool x.retain) rfl
          have p4 := cell_of hp (o := 4) (v := .slice x.pA x.props.length x.pc) rfl
          have p5 := cell_of hp (o := 5) (v := .string x.from_) rfl
          have p6 := cell_of hp (o := 6) (v := .int .i64 x.until_) rfl
          have p7 := cell_of hp (o := 7) (v := .int .i64 x.seq) rfl
          have p8 := cell_of hp (o := 8) (v := .string x.group) rfl
          have HTE := Lib.hid (put9_tch w4 (w.heap.size) (.string x.topic) (.string x.payload) (.int .i64 x.qos) (.bool x.retain) (.slice x.pA x.props.length x.pc) (.string x.from_) (.int .i64 x.until_) (.int .i64 x.seq) (.string x.group))
          have HE := Lib.hid (finish (.returned (.tuple #[.agg #[.string x.topic, .string x.payload, .int .i64 x.qos, .bool x.retain, .slice x.pA x.props.length x.pc, .string x.from_, .int .i64 x.until_, .int .i64 x.seq, .string x.group], .bool true])) HPP.out HB.out HSN.out HS4.out HZ4.out HTE.out (fun g' hg => by have := HV.out g' hg; omega) (by
            intro w6 hst6 hst7
            refine ⟨fun h => (by rw [HD.out] at h; cases h), fun m2 R2 h => ?_, _, by rw [HD.out]; simpa using hst6⟩
            rw [HD.out] at h
            injection h with h1 h2
            subst h1
            exact ⟨x, rfl, rfl, HOK4.out.stp hst7⟩))
          clear hp
          go_wp2_with fail
          exact bodyPost_ret (v := .tuple #[.agg #[.string x.topic, .string x.payload, .int .i64 x.qos, .bool x.retain, .slice x.pA x.props.length x.pc, .string x.from_, .int .i64 x.until_, .int .i64 x.seq, .string x.group], .bool true]) (by simp [results, Try.results18, go_sem, *]) rfl HE.out
    · obtain rfl : k = L.length := by omega
      have hdd := drop_none HN.out
      have HD := Lib.hid hdd
      have hS2 : Step 41 B w s most (.slice A L.length c) L wr (.slice A L.length c) := Step.of_below HQ.out HBR.out
      have hz2 := (HBW.out.block _ (lt_of_block HZ.out)).trans HZ.out
      have kf := free_of hq.st 1
      have HS4 := Lib.hid (hS2.put (v2 := .slice none 0 0) (L2 := []) HB.out (by decide) (by decide) (Win.nil _) (by simp) (by intro g hg; simp [Value.ownBlock] at hg))
      obtain ⟨w4, hw4⟩ : ∃ w4, w4 = wr.setCell ⟨s, 1, none⟩ (.slice none 0 0) := ⟨_, rfl⟩
      have hz4 : (wr.setCell ⟨s, 1, none⟩ (.slice none 0 0)).heap[w.heap.size]? = some (.cells #[.string ⟨#[]⟩, .string ⟨#[]⟩, .int .i64 0, .bool false, .slice none 0 0, .string ⟨#[]⟩, .int .i64 0, .int .i64 0, .string ⟨#[]⟩] 24 (0, 0)) := (set_other (p := ⟨s, 1, none⟩) (by have h1 := HSN.out; simp; omega) _).trans hz2
      rw [← hw4] at HS4 hz4
      have HZ4 := Lib.hid hz4
      have hw4' := hw4.symm
      clear hdd hS2 hz2 hw4 hz4 hn hbr hq HQ
      have c0 : w4.cell? ⟨w.heap.size, 0, none⟩ = some (.string ⟨#[]⟩) := cell_of HZ4.out rfl
      have c1 : w4.cell? ⟨w.heap.size, 1, none⟩ = some (.string ⟨#[]⟩) := cell_of HZ4.out rfl
      have c2 : w4.cell? ⟨w.heap.size, 2, none⟩ = some (.int .i64 0) := cell_of HZ4.out rfl
      have c3 : w4.cell? ⟨w.heap.size, 3, none⟩ = some (.bool false) := cell_of HZ4.out rfl
      have c4 : w4.cell? ⟨w.heap.size, 4, none⟩ = some (.slice none 0 0) := cell_of HZ4.out rfl
      have c5 : w4.cell? ⟨w.heap.size, 5, none⟩ = some (.string ⟨#[]⟩) := cell_of HZ4.out rfl
      have c6 : w4.cell? ⟨w.heap.size, 6, none⟩ = some (.int .i64 0) := cell_of HZ4.out rfl
      have c7 : w4.cell? ⟨w.heap.size, 7, none⟩ = some (.int .i64 0) := cell_of HZ4.out rfl
      have c8 : w4.cell? ⟨w.heap.size, 8, none⟩ = some (.string ⟨#[]⟩) := cell_of HZ4.out rfl
      have f0 := free_of HZ4.out 0
      have f1 := free_of HZ4.out 1
      have f2 := free_of HZ4.out 2
      have f3 := free_of HZ4.out 3
      have f4 := free_of HZ4.out 4
      have f5 := free_of HZ4.out 5
      have f6 := free_of HZ4.out 6
      have f7 := free_of HZ4.out 7
      have f8 := free_of HZ4.out 8
      have hp := put9 HZ4.out (.string ⟨#[]⟩) (.string ⟨#[]⟩) (.int .i64 0) (.bool false) (.slice none 0 0) (.string ⟨#[]⟩) (.int .i64 0) (.int .i64 0) (.string ⟨#[]⟩)
      have p0 := cell_of hp (o := 0) (v := .string ⟨#[]⟩) rfl
      have p1 := cell_of hp (o := 1) (v := .string ⟨#[]⟩) rfl
      have p2 := cell_of hp (o := 2) (v := .int .i64 0) rfl
      have p3 := cell_of hp (o := 3) (v := .bool false) rfl
      have p4 := cell_of hp (o := 4) (v := .slice none 0 0) rfl
      have p5 := cell_of hp (o := 5) (v := .string ⟨#[]⟩) rfl
      have p6 := cell_of hp (o := 6) (v := .int .i64 0) rfl
      have p7 := cell_of hp (o := 7) (v := .int .i64 0) rfl
      have p8 := cell_of hp (o := 8) (v := .string ⟨#[]⟩) rfl
      have HTE := Lib.hid (put9_tch w4 (w.heap.size) (.string ⟨#[]⟩) (.string ⟨#[]⟩) (.int .i64 0) (.bool false) (.slice none 0 0) (.string ⟨#[]⟩) (.int .i64 0) (.int .i64 0) (.string ⟨#[]⟩))
      have HE := Lib.hid (finish (.returned (.tuple #[mg0.val, .bool false])) HPP.out HB.out HSN.out HS4.out HZ4.out HTE.out (by intro g hg; simp [Value.ownBlock] at hg) (by
        intro w6 hst6 hst7
        exact ⟨fun _ => rfl, fun m R' h => (by rw [HD.out] at h; cases h), _, by rw [HD.out]; simpa using hst6⟩))
      clear hp
      go_wp2_with fail
      exact bodyPost_ret (v := .tuple #[.agg #[.string ⟨#[]⟩, .string ⟨#[]⟩, .int .i64 0, .bool false, .slice none 0 0, .string ⟨#[]⟩, .int .i64 0, .int .i64 0, .string ⟨#[]⟩], .bool false]) (by simp [mg0, Mg.val, results, Try.results18, go_sem, *]) rfl HE.out
set_option maxRecDepth 100000 in
set_option maxHeartbeats 4000000 in
theorem same_any (w : World) (A C : Option Addr) (ca cc : Nat) (L M : List Mg) (hA : Rd w A (L.flatMap Mg.vals)) (hC : Rd w C (M.flatMap Mg.vals)) (hLM : L.map bare = M.map bare) (hlen : L.length ≤ 1000000)
    (hLo : ∀ m ∈ L, Rd w m.pA (m.props.flatMap Prp.cells) ∧ m.props.length ≤ 70) (hMo : ∀ m ∈ M, Rd w m.pA (m.props.flatMap Prp.cells)) :
    Calls Try.prog 23 #[.slice A L.length ca, .slice C M.length cc] w fun e w' => e = .returned (.bool true) ∧ Below w.heap.size w w' := by
  have HA := Lib.hid hA
  have HC := Lib.hid hC
  have HLO := Lib.hid hLo
  have HMO := Lib.hid hMo
  have HLM := Lib.hid hLM
  have hl : L.length = M.length := by have := congrArg List.length hLM; simpa using this
  rw [← hl]
  have HLL := Lib.hid hl
  clear hA hC hLo hMo hLM hl
  go_enter Try.func23, Try.ntmps23
  go_wp2
  go_loopw [5] (fun x wr => ∃ k : Nat, k ≤ L.length ∧ x = .int .i64 k ∧ Below w.heap.size w wr) (fun x _ => L.length - (intOf x).toNat)
  case atStart => exact ⟨0, by omega, rfl, Below.refl _ _⟩
  case round =>
    obtain ⟨k, hk, rfl, hbr⟩ := hrel
    have HB := Lib.hid hbr
    by_cases hlk : k < L.length
    · obtain ⟨x, hx⟩ : ∃ x, L[k]? = some x := ⟨_, List.getElem?_eq_getElem hlk⟩
      obtain ⟨y, hy⟩ : ∃ y, M[k]? = some y := ⟨_, List.getElem?_eq_getElem (by have := HLL.out; omega)⟩
      have hsim : Sim x y := by
        have h1 : (L.map bare)[k]? = (M.map bare)[k]? := by rw [HLM.out]
        rw [List.getElem?_map, List.getElem?_map, hx, hy] at h1
        exact sim_of (by simpa using h1)
      obtain ⟨b, off, rfl, c0, c1, c2, c3, c4, c5, c6, c7, c8⟩ := rd_msg (HA.out.below hbr) hx
      obtain ⟨b2, off2, rfl, d0, d1, d2, d3, d4, d5, d6, d7, d8⟩ := rd_msg (HC.out.below hbr) hy
      have hxo := HLO.out x (List.mem_of_getElem? hx)
      have hyo := HMO.out y (List.mem_of_getElem? hy)
      have HSM := Lib.hid (fun n : Wd (Gr wr) => samem_any x y hsim n.w ((hxo.1.below hbr).below n.ok) ((hyo.below hbr).below n.ok) (by have := hxo.2; omega))
      unfold Mg.val at HSM
      have g0 := fun n : Wd (Gr wr) => n.cell c0
      have g1 := fun n : Wd (Gr wr) => n.cell c1
      have g2 := fun n : Wd (Gr wr) => n.cell c2
      have g3 := fun n : Wd (Gr wr) => n.cell c3
      have g4 := fun n : Wd (Gr wr) => n.cell c4
      have g5 := fun n : Wd (Gr wr) => n.cell c5
      have g6 := fun n : Wd (Gr wr) => n.cell c6
      have g7 := fun n : Wd (Gr wr) => n.cell c7
      have g8 := fun n : Wd (Gr wr) => n.cell c8
      have k0 := fun n : Wd (Gr wr) => n.cell d0
      have k1 := fun n : Wd (Gr wr) => n.cell d1
      have k2 := fun n : Wd (Gr wr) => n.cell d2
      have k3 := fun n : Wd (Gr wr) => n.cell d3
      have k4 := fun n : Wd (Gr wr) => n.cell d4
      have k5 := fun n : Wd (Gr wr) => n.cell d5
      have k6 := fun n : Wd (Gr wr) => n.cell d6
      have k7 := fun n : Wd (Gr wr) => n.cell d7
      have k8 := fun n : Wd (Gr wr) => n.cell d8
      have hk1 : (k : Int) < L.length := by omega
      clear hx hy hsim hxo hyo hbr c0 c1 c2 c3 c4 c5 c6 c7 c8 d0 d1 d2 d3 d4 d5 d6 d7 d8
      go_wp2_with fail
      refine wp_region_cls (Gr wr) (gr_drew wr) (by kernel_rfl) (by kernel_rfl) ?_
      repeat (go_big_quiet_step ((go_at_call 11; exact cls_call (HSM.out _))))
      refine wpQuiet_nil ?_
      rintro wq ⟨nq, hnq⟩
      have hq := nq.ok
      rw [← hnq] at hq
      have HBQ := Lib.hid (HB.out.trans (hq.mono HB.out.size))
      clear hq hnq nq g0 k0 g1 k1 g2 k2 g3 k3 g4 k4 g5 k5 g6 k6 g7 k7 g8 k8
      go_wp2
      go_roundw
      case rel => exact ⟨k + 1, by omega, by go_num, HBQ.out⟩
      case measure => simp [intOf]; omega
    · obtain rfl : k = L.length := by omega
      clear hbr
      go_wp2
      go_ret
      exact ⟨rfl, HB.out⟩
end Go.Proofs.Ytjcdkgdeoeboaaa.QuW
