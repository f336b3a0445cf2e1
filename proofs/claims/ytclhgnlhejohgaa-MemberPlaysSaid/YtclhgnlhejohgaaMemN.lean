/- MemberPlays: the walk (under way). -/
import Derived.Test.YtclhgnlhejohgaaMemM
import Derived.Test.YtclhgnlhejohgaaOrd
set_option linter.unusedVariables false
set_option linter.unusedSimpArgs false
namespace Go.Proofs.Ytclhgnlhejohgaa.MemW
open Go.RowKit Go.Proofs.Ytclhgnlhejohgaa.Tc Go.Proofs.Ytclhgnlhejohgaa.MemP
open Go.Proofs.Ytclhgnlhejohgaa.PickW (OwnS Newer kS kI cells9 str_cell strs_new alloc_below)
set_option maxRecDepth 100000 in
set_option maxHeartbeats 2000000 in
theorem plays_law (w : World) (A : Option Addr) (la ca : Nat) (l : List Act_) (hA : l.length = la ∧ SliceIs kAct w A l) :
    Calls Try.prog 10 #[.slice A la ca] w fun e w' => e = .returned (.bool true) ∧ Below w.heap.size w w' := by
  obtain ⟨rfl, hA⟩ := hA
  have HA := Lib.hid hA
  have HFA := Lib.hid (few_any w A ca l hA)
  have HW := Lib.hid (awake_end (Below.refl w.heap.size w))
  have HM := Lib.hid (Two.made w)
  clear hA
  go_enter Try.func10, Try.ntmps10
  go_wp2_with fail
  refine HFA.out.mono ?_
  rintro e w1 ⟨⟨fa, rfl, hfa⟩, rfl⟩
  have HFEW := Lib.hid hfa
  clear hfa HFA
  cases fa with
  | false =>
    go_wp2_with fail
    refine HW.out.mono ?_
    rintro e w2 ⟨rfl, hb⟩
    have HB := Lib.hid hb
    clear hb
    go_wp2_with fail
    go_ret
    exact ⟨rfl, HB.out⟩
  | true =>
    obtain ⟨h60, hsz⟩ := HFEW.out rfl
    have HSZ := Lib.hid hsz
    clear hsz HFEW HW
    go_wp2_with fail
    go_loopw [6] (fun x wr => ∃ (k : Nat) (v v2 : Value) (ms : List Mem) (gen : Int), k ≤ l.length ∧ x = .int .i64 k ∧ 0 ≤ gen ∧ gen ≤ k ∧ ms.length ≤ k ∧ MemP.Inv ms gen ∧ Two w wr v v2 ms gen) (fun x _ => l.length - (intOf x).toNat)
    case atStart => exact ⟨0, _, _, _, 0, by omega, rfl, by omega, by omega, by simp, MemP.Inv.nil, HM.out⟩
    case round =>
      obtain ⟨k, v, v2, ms, gen, hk, rfl, hg0, hg1, hms, hinv, htwo⟩ := hrel
      have HT := Lib.hid htwo
      have HINV := Lib.hid hinv
      clear hinv
      by_cases hlt : k < l.length
      · obtain ⟨x, hx⟩ : ∃ x, l[k]? = some x := ⟨_, List.getElem?_eq_getElem hlt⟩
        obtain ⟨b, off, hAA, hb, c0, c1, c2, hq⟩ := act_cells (HA.out.below htwo.st.bel) hx
        have HCELL := Lib.hid (show ∀ w', Below w.heap.size w w' → w'.cell? ⟨b, off + k * 3, none⟩ = some (.int .i64 x.kind) ∧ w'.cell? ⟨b, off + k * 3 + 1, none⟩ = some (.string x.client) ∧ w'.cell? ⟨b, off + k * 3 + 2, none⟩ = some (.int .i64 x.qos) by
          intro w' hb'
          obtain ⟨b', off', hA2, -, d0, d1, d2, -⟩ := act_cells (HA.out.below hb') hx
          rw [hAA] at hA2
          injection hA2 with hA2
          injection hA2 with h1 h2
          subst h1
          subst h2
          exact ⟨d0, d1, d2⟩)
        have hcs : x.client.size ≤ 100 := by
          have := HSZ.out k hlt
          rw [List.getElem?_eq_getElem hlt] at hx
          injection hx with hx
          rw [hx] at this
          exact this
        have HQ := Lib.hid hq
        have HD := Lib.hid (do_any wr.drew _ v ms gen (HT.out.below (Dr.below (dr_drew wr))).st.at_ (by omega) hg0 (by omega) x.kind x.client (by unfold maxLen; omega) x.qos hq)
        have HI2 := Lib.hid (act_inv HINV.out x.kind x.client x.qos)
        have HG2 := Lib.hid (act_gen ms gen x.kind x.client x.qos)
        have HL2 := Lib.hid (act_len ms gen x.kind x.client x.qos)
        have hk0 : (0 : Int) ≤ (k : Int) := by omega
        have hk1 : (k : Int) < l.length := by omega
        clear hx hb hq htwo
        subst hAA
        go_upto_region 8 with (fail)
        have q0 := fun n : Wd (Gr w) => (HCELL.out n.w n.ok).1
        have q1 := fun n : Wd (Gr w) => (HCELL.out n.w n.ok).2.1
        have q2 := fun n : Wd (Gr w) => (HCELL.out n.w n.ok).2.2
        have HS0 := Lib.hid (HT.out.below (Dr.below (dr_drew wr))).st.bel
        clear c0 c1 c2
        refine wp_region_G (n := 21) (Gr w) rfl (by kernel_rfl) HS0.out (fun hS => ?_)
        refine wpAnyG_seg (fuel := 11) [0, 1, 2, 6, 7, 8, 3, 9, 4, 10] rfl rfl (by kernel_rfl) (fun _ _ d _ _ h => by cases d <;> exact h) hS ?_
        repeat (go_big_quiet_step (fail))
        refine wpQuiet_nil ?_
        refine wpAnyG_alone (fuel := 10) 5 (by kernel_rfl) rfl hS (fun K hK => ?_)
        go_simp
        refine HD.out.mono ?_
        intro e w5 hp
        obtain ⟨v5, rfl, hmid⟩ := (HT.out.below (Dr.below (dr_drew wr))).act hp
        have HM5 := Lib.hid hmid
        have HRD := Lib.hid (rdo_any w5 _ v2 ms gen hmid.rat HINV.out (by omega) hg0 (by omega) x.kind x.client (by unfold maxLen; omega) x.qos HQ.out)
        rw [ract_act HINV.out] at HRD
        have HB5 := Lib.hid hmid.st.bel
        clear hp hmid
        go_wp2_with fail
        refine hK.out (Gr w) _ _ (fun _ h => h) HB5.out (fun hS => ?_)
        clear hK K
        refine wpAnyG_alone (fuel := 9) 11 (by kernel_rfl) rfl hS (fun K hK => ?_)
        go_simp
        refine HRD.out.mono ?_
        rintro e w6 ⟨v6, rfl, hra, hnw, htc⟩
        have hmid6 := HM5.out.act hra hnw htc
        have HT6 := Lib.hid hmid6.two
        have HB6 := Lib.hid hmid6.st.bel
        have HDN := Lib.hid (do_nil w6 x.kind x.client x.qos)
        clear hra hnw htc hmid6
        go_wp2_with fail
        refine hK.out (Gr w) _ _ (fun _ h => h) HB6.out (fun hS => ?_)
        clear hK K
        refine wpAnyG_seg (fuel := 2) [12, 13, 14, 15, 16, 17, 18] rfl rfl (by kernel_rfl) (fun _ _ d _ _ h => by cases d <;> exact h) hS ?_
        repeat (go_big_quiet_step (fail))
        refine wpQuiet_nil ?_
        refine wpAnyG_alone (fuel := 1) 19 (by kernel_rfl) rfl hS (fun K hK => ?_)
        go_simp
        refine HDN.out.mono ?_
        rintro e w7 ⟨rfl, hb7⟩
        have HT7 := Lib.hid (HT6.out.below hb7)
        have HB7 := Lib.hid (HT6.out.below hb7).st.bel
        clear hb7
        go_wp2_with fail
        refine hK.out (Gr w) _ _ (fun _ h => h) HB7.out (fun hS => ?_)
        clear hK K
        refine wpAnyG_seg (fuel := 0) [20] rfl rfl (by kernel_rfl) (fun _ _ d _ _ h => by cases d <;> exact h) hS ?_
        repeat (go_big_quiet_step (fail))
        refine wpQuiet_nil ?_
        refine wpAnyG_end (by kernel_rfl) ?_
        clear q0 q1 q2
        obtain ⟨g0, g1, g2⟩ := HCELL.out w7 HT7.out.st.bel
        have hg2 : (act ms gen x.kind x.client x.qos).2.2 = gen + (if (act ms gen x.kind x.client x.qos).1 = true then 1 else 0) := HG2.out
        have hl2 := HL2.out
        have HINV2 := Lib.hid HI2.out
        have hg20 : 0 ≤ (act ms gen x.kind x.client x.qos).2.2 := by rw [hg2]; split <;> omega
        have hg2k : (act ms gen x.kind x.client x.qos).2.2 ≤ k + 1 := by rw [hg2]; split <;> omega
        clear hg2 HG2 HL2 HI2 HT HT6 HM5 HD HRD HDN HINV HS0 HB5 HB6 HB7
        generalize act ms gen x.kind x.client x.qos = r at *
        obtain ⟨rb, ms2, gen2⟩ := r
        simp only at hg20 hg2k hl2
        have HGET := Lib.hid (get_any _ _ _ _ _ HT7.out.st.at_ x.client)
        obtain ⟨gx, hgx⟩ : ∃ gx, (MemP.get ms2 x.client).getD zero = gx := ⟨_, rfl⟩
        obtain ⟨gi, hgi⟩ : ∃ gi, (MemP.get ms2 x.client).isSome = gi := ⟨_, rfl⟩
        rw [hgx, hgi] at HGET
        have HGX := Lib.hid hgx
        have HGI := Lib.hid hgi
        clear hgx hgi
        simp only [val] at HGET
        go_wp2_with fail
        refine HGET.out.mono ?_
        rintro e w8 ⟨rfl, hb8⟩
        have HT8 := Lib.hid ((HT7.out.below hb8).below (alloc_below w8 (.cells #[.string gx.client, .int .i64 gx.since, .int .i64 gx.qos, .bool gx.online] 66)))
        obtain ⟨j0, j1, j2⟩ := HCELL.out _ HT8.out.st.bel
        have hz8 := heap_alloc_new w8 (.cells #[.string gx.client, .int .i64 gx.since, .int .i64 gx.qos, .bool gx.online] 66)
        have hrg := rget_any _ _ _ _ _ HT8.out.rat x.client (by omega)
        rw [HGX.out, HGI.out] at hrg
        simp only [val] at hrg
        have HRG := Lib.hid hrg
        clear hb8 HGET hrg HT7
        go_wp2_with fail
        refine HRG.out.mono ?_
        rintro e w9 ⟨rfl, hb9⟩
        obtain ⟨WW, hWW⟩ : ∃ WW, WW = w9.alloc (.cells #[.string gx.client, .int .i64 gx.since, .int .i64 gx.qos, .bool gx.online] 66) := ⟨_, rfl⟩
        have hbW : Below w9.heap.size w9 WW := by rw [hWW]; exact alloc_below w9 _
        have hT9 := (HT8.out.below hb9).below hbW
        have hx9 := ((hbW.mono hb9.size).block w8.heap.size (lt_of_block hz8)).trans ((hb9.block w8.heap.size (lt_of_block hz8)).trans hz8)
        have hy9 : WW.heap[w9.heap.size]? = some (.cells #[.string gx.client, .int .i64 gx.since, .int .i64 gx.qos, .bool gx.online] 66 (0, 0)) := by rw [hWW]; exact heap_alloc_new w9 _
        obtain ⟨A2, cap2, rfl, -⟩ := hT9.rat.row.form
        have HKEEP := Lib.hid (show ∀ w', Below WW.heap.size WW w' → w'.cell? ⟨w8.heap.size, 0, none⟩ = some (.string gx.client) ∧ w'.cell? ⟨w8.heap.size, 1, none⟩ = some (.int .i64 gx.since) ∧ w'.cell? ⟨w8.heap.size, 2, none⟩ = some (.int .i64 gx.qos) ∧ w'.cell? ⟨w8.heap.size, 3, none⟩ = some (.bool gx.online) ∧ w'.cell? ⟨w9.heap.size, 0, none⟩ = some (.string gx.client) ∧ w'.cell? ⟨w9.heap.size, 1, none⟩ = some (.int .i64 gx.since) ∧ w'.cell? ⟨w9.heap.size, 2, none⟩ = some (.int .i64 gx.qos) ∧ w'.cell? ⟨w9.heap.size, 3, none⟩ = some (.bool gx.online) ∧ w'.cell? ⟨w.heap.size + 1, 0, none⟩ = some (.slice A2 ms2.length cap2) ∧ w'.cell? ⟨w.heap.size + 1, 1, none⟩ = some (.int .i64 gen2) by
          intro w' hb'
          have h1 := (hb'.block _ (lt_of_block hx9)).trans hx9
          have h2 := (hb'.block _ (lt_of_block hy9)).trans hy9
          have h3 := (hb'.block _ (lt_of_block hT9.rat.st)).trans hT9.rat.st
          exact ⟨cell_of h1 rfl, cell_of h1 rfl, cell_of h1 rfl, cell_of h1 rfl, cell_of h2 rfl, cell_of h2 rfl, cell_of h2 rfl, cell_of h2 rfl, cell_of h3 rfl, cell_of h3 rfl⟩)
        have HT9 := Lib.hid hT9
        have HWW := Lib.hid hWW
        have t1 := str_eq (rfl : gx.client = gx.client)
        clear hT9 hx9 hy9 hbW hWW hb9 hz8 HT8 HRG
        go_upto_region 12 with (fail)
        rw [← HWW.out]
        have HB10 := Lib.hid (Dr.below (dr_drew WW))
        have HALL := Lib.hid (all_any WW.drew _ _ _ _ (HT9.out.below (Dr.below (dr_drew WW))).st.at_ (by omega))
        have q0 := fun n : Wd (Gr WW) => (HKEEP.out n.w n.ok).1
        have q1 := fun n : Wd (Gr WW) => (HKEEP.out n.w n.ok).2.1
        have q2 := fun n : Wd (Gr WW) => (HKEEP.out n.w n.ok).2.2.1
        have q3 := fun n : Wd (Gr WW) => (HKEEP.out n.w n.ok).2.2.2.1
        have q4 := fun n : Wd (Gr WW) => (HKEEP.out n.w n.ok).2.2.2.2.1
        have q5 := fun n : Wd (Gr WW) => (HKEEP.out n.w n.ok).2.2.2.2.2.1
        have q6 := fun n : Wd (Gr WW) => (HKEEP.out n.w n.ok).2.2.2.2.2.2.1
        have q7 := fun n : Wd (Gr WW) => (HKEEP.out n.w n.ok).2.2.2.2.2.2.2.1
        have q8 := fun n : Wd (Gr WW) => (HKEEP.out n.w n.ok).2.2.2.2.2.2.2.2.1
        have q9 := fun n : Wd (Gr WW) => (HKEEP.out n.w n.ok).2.2.2.2.2.2.2.2.2
        refine wp_region_G (n := 42) (Gr WW) rfl (by kernel_rfl) HB10.out (fun hS => ?_)
        refine wpAnyG_seg (fuel := 28) [0, 1, 2, 3, 4, 5, 6, 7, 8, 9, 11, 12, 13, 14] rfl rfl (by kernel_rfl) (fun _ _ d _ _ h => by cases d <;> exact h) hS ?_
        repeat (go_big_quiet_step (fail))
        refine wpQuiet_nil ?_
        refine wpAnyG_alone (fuel := 27) 10 (by kernel_rfl) rfl hS (fun K hK => ?_)
        go_simp
        refine HALL.out.mono ?_
        rintro e w10 ⟨⟨va, rfl, hr⟩, hb⟩
        have HBA := Lib.hid (then_below HB10.out hb)
        obtain ⟨A10, cp10, rfl, hS10⟩ := hr.form
        have hT10 := HT9.out.below HBA.out
        obtain ⟨A2', cap2', hA2, hS2⟩ := hT10.rat.row.form
        injection hA2 with hA2 _ hcc
        subst hcc
        subst hA2
        have HSM := Lib.hid (same_mems w10 _ _ cp10 cap2 ms2 hS10 hS2)
        clear hr hb hS10 hS2 hT10 HALL
        go_wp2_with fail
        refine hK.out (Gr WW) _ _ (fun _ h => h) HBA.out (fun hS => ?_)
        clear hK K
        refine wpAnyG_alone (fuel := 26) 15 (by kernel_rfl) rfl hS (fun K hK => ?_)
        go_simp
        refine HSM.out.mono ?_
        rintro e w11 ⟨rfl, hd⟩
        have HB11 := Lib.hid (then_below HBA.out (Dr.below hd))
        have HHE := Lib.hid (here_any w11 _ _ _ _ (HT9.out.below HB11.out).st.at_ (by omega))
        clear hd HSM
        go_wp2_with fail
        refine hK.out (Gr WW) _ _ (fun _ h => h) HB11.out (fun hS => ?_)
        clear hK K
        refine wpAnyG_seg (fuel := 21) [16, 17, 18, 19, 21] rfl rfl (by kernel_rfl) (fun _ _ d _ _ h => by cases d <;> exact h) hS ?_
        repeat (go_big_quiet_step (fail))
        refine wpQuiet_nil ?_
        refine wpAnyG_alone (fuel := 20) 20 (by kernel_rfl) rfl hS (fun K hK => ?_)
        go_simp
        refine HHE.out.mono ?_
        rintro e w12 ⟨⟨vh, rfl, hr⟩, hb⟩
        obtain ⟨Ah, ch, rfl, hSh⟩ := hr.form
        have HSH := Lib.hid hSh
        have HB12 := Lib.hid (then_below HB11.out hb)
        have HRH := Lib.hid (rhere_any w12 _ _ _ _ (HT9.out.below HB12.out).rat (by omega))
        clear hr hb hSh HHE
        go_wp2_with fail
        refine hK.out (Gr WW) _ _ (fun _ h => h) HB12.out (fun hS => ?_)
        clear hK K
        refine wpAnyG_alone (fuel := 19) 22 (by kernel_rfl) rfl hS (fun K hK => ?_)
        go_simp
        refine HRH.out.mono ?_
        rintro e w13 ⟨⟨vr, rfl, hr⟩, hb⟩
        obtain ⟨Ar, cr, rfl, hSr⟩ := hr.form
        have HB13 := Lib.hid (then_below HB12.out hb)
        have HSTX := Lib.hid (same_texts w13 _ _ ch cr (here ms2) (HSH.out.below hb) hSr)
        clear hr hb hSr HRH HSH
        go_wp2_with fail
        refine hK.out (Gr WW) _ _ (fun _ h => h) HB13.out (fun hS => ?_)
        clear hK K
        refine wpAnyG_alone (fuel := 18) 23 (by kernel_rfl) rfl hS (fun K hK => ?_)
        go_simp
        refine HSTX.out.mono ?_
        rintro e w14 ⟨rfl, hd⟩
        have HB14 := Lib.hid (then_below HB13.out (Dr.below hd))
        have HOW := Lib.hid (owner_any w14 _ _ _ _ (HT9.out.below HB14.out).st.at_ (by omega))
        clear hd HSTX
        go_wp2_with fail
        refine hK.out (Gr WW) _ _ (fun _ h => h) HB14.out (fun hS => ?_)
        clear hK K
        refine wpAnyG_seg (fuel := 13) [24, 25, 26, 27, 29] rfl rfl (by kernel_rfl) (fun _ _ d _ _ h => by cases d <;> exact h) hS ?_
        repeat (go_big_quiet_step (fail))
        refine wpQuiet_nil ?_
        refine wpAnyG_alone (fuel := 12) 28 (by kernel_rfl) rfl hS (fun K hK => ?_)
        go_simp
        refine HOW.out.mono ?_
        rintro e w15 ⟨rfl, hb⟩
        have HB15 := Lib.hid (then_below HB14.out hb)
        have HRO := Lib.hid (rowner_any w15 _ _ _ _ (HT9.out.below HB15.out).rat (by omega))
        clear hb HOW
        go_wp2_with fail
        refine hK.out (Gr WW) _ _ (fun _ h => h) HB15.out (fun hS => ?_)
        clear hK K
        refine wpAnyG_alone (fuel := 11) 30 (by kernel_rfl) rfl hS (fun K hK => ?_)
        go_simp
        refine HRO.out.mono ?_
        rintro e w16 ⟨rfl, hb⟩
        have HB16 := Lib.hid (then_below HB15.out hb)
        have HGE := Lib.hid (gen_any w16 _ _ _ _ (HT9.out.below HB16.out).st.at_)
        clear hb HRO
        go_wp2_with fail
        refine hK.out (Gr WW) _ _ (fun _ h => h) HB16.out (fun hS => ?_)
        clear hK K
        refine wpAnyG_seg (fuel := 3) [31, 32, 33, 34, 36, 37, 38, 39] rfl rfl (by kernel_rfl) (fun _ _ d _ _ h => by cases d <;> exact h) hS ?_
        repeat (go_big_quiet_step (fail))
        refine wpQuiet_nil ?_
        refine wpAnyG_alone (fuel := 2) 35 (by kernel_rfl) rfl hS (fun K hK => ?_)
        go_simp
        refine HGE.out.mono ?_
        rintro e w17 ⟨rfl, rfl⟩
        clear HGE
        go_wp2_with fail
        refine hK.out (Gr WW) _ _ (fun _ h => h) HB16.out (fun hS => ?_)
        clear hK K
        refine wpAnyG_seg (fuel := 0) [40, 41] rfl rfl (by kernel_rfl) (fun _ _ d _ _ h => by cases d <;> exact h) hS ?_
        repeat (go_big_quiet_step (fail))
        refine wpQuiet_nil ?_
        refine wpAnyG_end (by kernel_rfl) ?_
        clear q0 q1 q2 q3 q4 q5 q6 q7 q8 q9
        have HTE := Lib.hid (HT9.out.below HB16.out)
        go_wp2
        go_roundw
        case rel => exact ⟨k + 1, _, _, ms2, gen2, by omega, by go_num, hg20, by omega, by omega, HINV2.out, HTE.out⟩
        case measure => simp [intOf]; omega
      · obtain rfl : k = l.length := by omega
        have HBW := Lib.hid htwo.st.bel
        have HWE := Lib.hid (awake_end htwo.st.bel)
        have HN1 := Lib.hid (all_nil wr)
        have HN2 := Lib.hid (here_nil wr)
        have HN3 := Lib.hid (gen_nil wr)
        have HN4 := Lib.hid (owner_nil wr)
        clear htwo
        go_wp2_with fail
        refine HN1.out.mono ?_
        rintro e w2 ⟨rfl, rfl⟩
        go_wp2_with fail
        refine HN2.out.mono ?_
        rintro e w2 ⟨rfl, rfl⟩
        go_wp2_with fail
        refine HN3.out.mono ?_
        rintro e w2 ⟨rfl, rfl⟩
        go_wp2_with fail
        refine HN4.out.mono ?_
        rintro e w2 ⟨rfl, rfl⟩
        go_wp2_with fail
        refine HWE.out.mono ?_
        rintro e w2 ⟨rfl, hb⟩
        have HB := Lib.hid hb
        clear hb
        go_wp2_with fail
        go_ret
        exact ⟨rfl, HB.out⟩
end Go.Proofs.Ytclhgnlhejohgaa.MemW
