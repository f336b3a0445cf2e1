/- A group's queue: what is under way is with a member that is connected. -/
import Derived.Test.YtclhgnlhejohgaaGqU
set_option linter.unusedVariables false
set_option linter.unusedSimpArgs false
namespace Go.Proofs.Ytclhgnlhejohgaa.GrpW
open Go.RowKit Go.Proofs.Ytclhgnlhejohgaa.Tc Go.Proofs.Ytclhgnlhejohgaa.GrpP
open Go.Proofs.Ytclhgnlhejohgaa.PickP (has)
open Go.Proofs.Ytclhgnlhejohgaa.MemP (Mem)
open Go.Proofs.Ytclhgnlhejohgaa.LaneW (OwnIt pr)
set_option maxRecDepth 100000 in
set_option maxHeartbeats 16000000 in
theorem sound_law (W : World) (st most : Int) (A : Option Addr) (len cap : Nat) (l : List GA) (hst : (Lit.int .i64 st).wf = true) (hmost : (Lit.int .i64 most).wf = true) (hl : l.length = len ∧ SliceIs kGA W A l) :
    Calls Try.prog 13 #[.int .i64 st, .int .i64 most, .slice A len cap] W fun e w' => e = .returned (.bool true) ∧ Below W.heap.size W w' := by
  obtain ⟨rfl, hS⟩ := hl
  have hlen := hS.len
  unfold maxLen at hlen
  have HS := Lib.hid hS
  have HF := Lib.hid (few_any W A cap l 40 (by omega) hS)
  rw [show ((40 : Nat) : Int) = 40 from rfl] at HF
  have HM0 := Lib.hid (bounds_i64 hmost).1
  have HM1 := Lib.hid (bounds_i64 hmost).2
  clear hst hmost
  generalize hP : (fun (e : Ending) (w' : World) => e = .returned (.bool true) ∧ Below W.heap.size W w') = PP
  have HPP := Lib.hid (show ∀ w', Below W.heap.size W w' → PP (.returned (.bool true)) w' from fun w' h1 => by
    rw [← hP]
    exact ⟨rfl, h1⟩)
  clear hP hS
  go_enter Try.func13, Try.ntmps13
  go_wp2_with fail
  refine HF.out.mono ?_
  rintro e w1 ⟨⟨fb, rfl, hfb⟩, hb1⟩
  have HFB := Lib.hid hfb
  have HBW := Lib.hid hb1
  clear hfb hb1
  cases fb with
  | false =>
    go_wp2_with fail
    refine (awake_any _).mono ?_
    rintro e wz ⟨rfl, hbz⟩
    have HE := Lib.hid (HPP.out wz (then_below (HBW.out) hbz))
    clear hbz
    go_wp2_with fail
    exact HE.out
  | true =>
    have HFEW := Lib.hid (HFB.out rfl)
    clear HFB
    have HNEW := Lib.hid (new_any w1 ⟨#[103]⟩ st most w1.heap.size (Nat.le_refl _))
    go_wp2_with fail
    refine HNEW.out.mono ?_
    rintro e w2 ⟨rfl, hg2, hb2⟩
    have HL0 := Lib.hid (Lw.new w1 hg2 hb2)
    obtain ⟨g, hgg⟩ : ∃ g, g = w1.heap.size + 1 := ⟨_, rfl⟩
    rw [← hgg] at HL0 ⊢
    clear hg2 hb2 HNEW HF hgg
    go_wp2_with fail
    go_loopw [8] (fun y wr => ∃ (k : Nat) (mv iv : Value) (S : GS), k ≤ l.length ∧ y = .int .i64 k ∧ Lw w1 g w1.heap.size st most k wr mv iv S) (fun y _ => l.length - (intOf y).toNat)
    case atStart => exact ⟨0, _, _, _, by omega, rfl, HL0.out⟩
    case round =>
      obtain ⟨k, mv, iv, S, hk, rfl, hlw⟩ := hrel
      have HLW := Lib.hid hlw
      clear hlw HL0
      by_cases hlt : k < l.length
      · obtain ⟨wo, rfl⟩ : ∃ wo, wo = wr := ⟨_, rfl⟩
        obtain ⟨x, hx⟩ : ∃ x, l[k]? = some x := ⟨_, List.getElem?_eq_getElem hlt⟩
        have hbase : Below W.heap.size W wo := HBW.out.trans ((HLW.out.bel).mono HBW.out.size)
        obtain ⟨b, off, hA, hb, hcx, hwf, hps, hfs⟩ := ga_cells (HS.out.below hbase) hx
        obtain ⟨-, -, -, -, -, -, -, hfs0⟩ := ga_cells HS.out hx
        have HFX0 := Lib.hid hfs0
        clear hfs0
        subst hA
        have c0 : wo.cell? ⟨b, off + k * 13, none⟩ = some (.int .i64 x.kind) := hcx 0 _ rfl
        have c1 : wo.cell? ⟨b, off + k * 13 + 1, none⟩ = some (.string x.client) := hcx 1 _ rfl
        have c2 : wo.cell? ⟨b, off + k * 13 + 2, none⟩ = some (.string x.msg.topic) := hcx 2 _ rfl
        have c3 : wo.cell? ⟨b, off + k * 13 + 3, none⟩ = some (.string x.msg.payload) := hcx 3 _ rfl
        have c4 : wo.cell? ⟨b, off + k * 13 + 4, none⟩ = some (.int .i64 x.msg.qos) := hcx 4 _ rfl
        have c5 : wo.cell? ⟨b, off + k * 13 + 5, none⟩ = some (.bool x.msg.retain) := hcx 5 _ rfl
        have c6 : wo.cell? ⟨b, off + k * 13 + 6, none⟩ = some (.slice x.msg.pA x.msg.props.length x.msg.pc) := hcx 6 _ rfl
        have c7 : wo.cell? ⟨b, off + k * 13 + 7, none⟩ = some (.string x.msg.from_) := hcx 7 _ rfl
        have c8 : wo.cell? ⟨b, off + k * 13 + 8, none⟩ = some (.int .i64 x.msg.until_) := hcx 8 _ rfl
        have c9 : wo.cell? ⟨b, off + k * 13 + 9, none⟩ = some (.int .i64 x.msg.seq) := hcx 9 _ rfl
        have c10 : wo.cell? ⟨b, off + k * 13 + 10, none⟩ = some (.string x.msg.group) := hcx 10 _ rfl
        have c11 : wo.cell? ⟨b, off + k * 13 + 11, none⟩ = some (.int .i64 x.n) := hcx 11 _ rfl
        have c12 : wo.cell? ⟨b, off + k * 13 + 12, none⟩ = some (.slice x.fA x.free.length x.fc) := hcx 12 _ rfl
        have hsm : SmallG x := by
          obtain ⟨hk', rfl⟩ := List.getElem?_eq_some_iff.1 hx
          exact HFEW.out.2 k hk'
        have hk40 : k < 40 := by have := HFEW.out.1; omega
        obtain ⟨wB, hwB⟩ : ∃ wB, wB = wo.alloc (.cells #[.int .i64 x.kind, .string x.client, .string x.msg.topic, .string x.msg.payload, .int .i64 x.msg.qos, .bool x.msg.retain, .slice x.msg.pA x.msg.props.length x.msg.pc, .string x.msg.from_, .int .i64 x.msg.until_, .int .i64 x.msg.seq, .string x.msg.group, .int .i64 x.n, .slice x.fA x.free.length x.fc] 81) := ⟨_, rfl⟩
        have hbB : Below wo.heap.size wo wB := by rw [hwB]; exact alloc_below _ _
        have hzB : wB.heap[wo.heap.size]? = some (.cells #[.int .i64 x.kind, .string x.client, .string x.msg.topic, .string x.msg.payload, .int .i64 x.msg.qos, .bool x.msg.retain, .slice x.msg.pA x.msg.props.length x.msg.pc, .string x.msg.from_, .int .i64 x.msg.until_, .int .i64 x.msg.seq, .string x.msg.group, .int .i64 x.n, .slice x.fA x.free.length x.fc] 81 (0, 0)) := by rw [hwB]; exact heap_alloc_new wo _
        obtain ⟨wC, hwC⟩ : ∃ wC, wC = wB.setCell ⟨wo.heap.size, 9, none⟩ (.int .i64 ((k : Int) + 1)) := ⟨_, rfl⟩
        have hzC : wC.heap[wo.heap.size]? = some (.cells #[.int .i64 x.kind, .string x.client, .string x.msg.topic, .string x.msg.payload, .int .i64 x.msg.qos, .bool x.msg.retain, .slice x.msg.pA x.msg.props.length x.msg.pc, .string x.msg.from_, .int .i64 x.msg.until_, .int .i64 ((k : Int) + 1), .string x.msg.group, .int .i64 x.n, .slice x.fA x.free.length x.fc] 81 (0, 0)) := by rw [hwC]; exact set_of hzB 9 _
        have hbC : Below wo.heap.size wo wC := by
          rw [hwC]
          exact (((Tch.of_below (S := []) hbB).setCell (p := ⟨wo.heap.size, 9, none⟩) (.inr (Nat.le_refl _)) _).below (Nat.le_refl _) (by simp))
        have HWB := Lib.hid hwB
        have HWC := Lib.hid hwC.symm
        have HBB := Lib.hid hbB
        have HBC := Lib.hid hbC
        have HZC := Lib.hid hzC
        have HFX := Lib.hid (hfs.below hbC)
        have HLC := Lib.hid (HLW.out.below hbC)
        have HRA := Lib.hid (num_ra (w := wC) (k := k) (by omega) hwf (hps.below hbC) (hfs.below hbC) hsm)
        have HK40 := Lib.hid hk40
        have HBASE := Lib.hid hbase
        have e0 : wB.cell? ⟨wo.heap.size, 0, none⟩ = some (.int .i64 x.kind) := cell_of hzB rfl
        have e1 : wB.cell? ⟨wo.heap.size, 1, none⟩ = some (.string x.client) := cell_of hzB rfl
        have e2 : wB.cell? ⟨wo.heap.size, 2, none⟩ = some (.string x.msg.topic) := cell_of hzB rfl
        have e3 : wB.cell? ⟨wo.heap.size, 3, none⟩ = some (.string x.msg.payload) := cell_of hzB rfl
        have e4 : wB.cell? ⟨wo.heap.size, 4, none⟩ = some (.int .i64 x.msg.qos) := cell_of hzB rfl
        have e5 : wB.cell? ⟨wo.heap.size, 5, none⟩ = some (.bool x.msg.retain) := cell_of hzB rfl
        have e6 : wB.cell? ⟨wo.heap.size, 6, none⟩ = some (.slice x.msg.pA x.msg.props.length x.msg.pc) := cell_of hzB rfl
        have e7 : wB.cell? ⟨wo.heap.size, 7, none⟩ = some (.string x.msg.from_) := cell_of hzB rfl
        have e8 : wB.cell? ⟨wo.heap.size, 8, none⟩ = some (.int .i64 x.msg.until_) := cell_of hzB rfl
        have e9 : wB.cell? ⟨wo.heap.size, 9, none⟩ = some (.int .i64 x.msg.seq) := cell_of hzB rfl
        have e10 : wB.cell? ⟨wo.heap.size, 10, none⟩ = some (.string x.msg.group) := cell_of hzB rfl
        have e11 : wB.cell? ⟨wo.heap.size, 11, none⟩ = some (.int .i64 x.n) := cell_of hzB rfl
        have e12 : wB.cell? ⟨wo.heap.size, 12, none⟩ = some (.slice x.fA x.free.length x.fc) := cell_of hzB rfl
        have f9 := free_of hzB 9
        have HZB := Lib.hid hzB
        have HFB := Lib.hid (hfs.below hbB)
        clear hx hbase hb hcx hwf hps hfs hsm hwB hbB hzB hwC hzC hbC
        go_upto_region 8 with (fail)
        rw [← HWB.out]
        by_cases hc : x.client = ByteArray.empty
        · rw [hc] at e1
          clear hc
          go_wp2_with fail
          refine (awake_any _).mono ?_
          rintro e wz ⟨rfl, hbz⟩
          have HE := Lib.hid (HPP.out wz (then_below (then_below HBASE.out HBB.out) hbz))
          clear hbz
          go_wp2_with fail
          exact HE.out
        · obtain ⟨a1, a2⟩ := ne_empty hc
          have HIN := Lib.hid (PickW.in_any wB x.fA x.fc x.free HFB.out ByteArray.empty)
          clear hc
          go_wp2_with fail
          refine HIN.out.mono ?_
          rintro e wB2 ⟨rfl, hwB2⟩
          subst hwB2
          cases hin : has x.free ByteArray.empty with
          | true =>
            clear hin
            go_wp2_with fail
            refine (awake_any _).mono ?_
            rintro e wz ⟨rfl, hbz⟩
            have HE := Lib.hid (HPP.out wz (then_below (then_below HBASE.out HBB.out) hbz))
            clear hbz
            go_wp2_with fail
            exact HE.out
          | false =>
            clear hin HIN
            go_upto_region 11 with (fail)
            rw [HWC.out]
            clear HWC HWB c0 c1 c2 c3 c4 c5 c6 c7 c8 c9 c10 c11 c12 e0 e1 e2 e3 e4 e5 e6 e7 e8 e9 e10 e11 e12 f9
            have e0 : wC.cell? ⟨wo.heap.size, 0, none⟩ = some (.int .i64 x.kind) := cell_of HZC.out rfl
            have e1 : wC.cell? ⟨wo.heap.size, 1, none⟩ = some (.string x.client) := cell_of HZC.out rfl
            have e2 : wC.cell? ⟨wo.heap.size, 2, none⟩ = some (.string x.msg.topic) := cell_of HZC.out rfl
            have e3 : wC.cell? ⟨wo.heap.size, 3, none⟩ = some (.string x.msg.payload) := cell_of HZC.out rfl
            have e4 : wC.cell? ⟨wo.heap.size, 4, none⟩ = some (.int .i64 x.msg.qos) := cell_of HZC.out rfl
            have e5 : wC.cell? ⟨wo.heap.size, 5, none⟩ = some (.bool x.msg.retain) := cell_of HZC.out rfl
            have e6 : wC.cell? ⟨wo.heap.size, 6, none⟩ = some (.slice x.msg.pA x.msg.props.length x.msg.pc) := cell_of HZC.out rfl
            have e7 : wC.cell? ⟨wo.heap.size, 7, none⟩ = some (.string x.msg.from_) := cell_of HZC.out rfl
            have e8 : wC.cell? ⟨wo.heap.size, 8, none⟩ = some (.int .i64 x.msg.until_) := cell_of HZC.out rfl
            have e9 : wC.cell? ⟨wo.heap.size, 9, none⟩ = some (.int .i64 ((k : Int) + 1)) := cell_of HZC.out rfl
            have e10 : wC.cell? ⟨wo.heap.size, 10, none⟩ = some (.string x.msg.group) := cell_of HZC.out rfl
            have e11 : wC.cell? ⟨wo.heap.size, 11, none⟩ = some (.int .i64 x.n) := cell_of HZC.out rfl
            have e12 : wC.cell? ⟨wo.heap.size, 12, none⟩ = some (.slice x.fA x.free.length x.fc) := cell_of HZC.out rfl
            have HRUN := Lib.hid (run_any HLC.out.gp k (by have := HK40.out; omega) HLC.out.iv_ (by rw [HLC.out.most_]; exact HM0.out) (by rw [HLC.out.most_]; exact HM1.out) (num x k) HRA.out (num_seq x k))
            unfold GA.val num at HRUN
            dsimp only at HRUN
            go_wp2_with fail
            refine HRUN.out.mono ?_
            rintro e w5 ⟨m, s, ok, mv5, iv5, S5, rfl, hg5, hf5, hst5, hln5, hok5⟩
            have HL5 := Lib.hid (HLC.out.step hg5 hf5 hst5)
            have HX5 := Lib.hid ((hf5.block _ (lt_of_block HZC.out) (.inr (not_mut HZC.out (by decide) (by decide) (by decide) (by decide)))).trans HZC.out)
            have HLN5 := Lib.hid hln5
            have HOK5 := Lib.hid hok5
            clear hg5 hf5 hst5 hln5 hok5 e0 e1 e2 e3 e4 e5 e6 e7 e8 e9 e10 e11 e12
            obtain ⟨W6, hW6⟩ : ∃ W6, W6 = w5.alloc (.cells #[.string m.topic, .string m.payload, .int .i64 m.qos, .bool m.retain, .slice m.pA m.props.length m.pc, .string m.from_, .int .i64 m.until_, .int .i64 m.seq, .string m.group] 43) := ⟨_, rfl⟩
            have hb6 : Below w5.heap.size w5 W6 := by rw [hW6]; exact alloc_below _ _
            have hz6 : W6.heap[w5.heap.size]? = some (.cells #[.string m.topic, .string m.payload, .int .i64 m.qos, .bool m.retain, .slice m.pA m.props.length m.pc, .string m.from_, .int .i64 m.until_, .int .i64 m.seq, .string m.group] 43 (0, 0)) := by rw [hW6]; exact heap_alloc_new w5 _
            have m7 : W6.cell? ⟨w5.heap.size, 7, none⟩ = some (.int .i64 m.seq) := cell_of hz6 rfl
            have x6 := (hb6.block _ (lt_of_block HX5.out)).trans HX5.out
            have y12 : W6.cell? ⟨wo.heap.size, 12, none⟩ = some (.slice x.fA x.free.length x.fc) := cell_of x6 rfl
            have HL6 := Lib.hid (HL5.out.below hb6)
            have HW6 := Lib.hid hW6
            clear hW6 hb6 hz6 x6
            unfold Mg.val
            go_upto_region 12 with (fail)
            rw [← HW6.out]
            clear HW6
            go_cut [70] (fun y wx => y = .bool false ∧ ∃ (mv' iv' : Value) (S' : GS), Lw w1 g w1.heap.size st most (k + 1) wx mv' iv' S')
            case first =>
              cases ok with
              | false =>
                go_wp2_with fail
                go_meet
                exact ⟨rfl, _, _, _, HL6.out⟩
              | true =>
                obtain ⟨i, x', hn, hx', hms, hs⟩ := HOK5.out rfl
                obtain ⟨h1, h2⟩ := next_sent HL6.out.iv_ hn hx'
                obtain ⟨y', hy', -, hw'⟩ := next_some hn
                have he' := hx'.symm.trans hy'
                injection he' with he'
                subst he'
                obtain ⟨-, h3, -⟩ := whom_ok HL6.out.iv_.conn hw'
                rw [← hs] at h1 h2 h3
                rw [← hms] at h2
                have HSENT := Lib.hid (sent_any HL6.out.gp m.seq s (name_small HL6.out.iv_ h3))
                rw [h2, Option.isSome_some] at HSENT
                have HIN2 := Lib.hid (PickW.in_any W6 x.fA x.fc x.free (HFX0.out.below (then_below HBW.out HL6.out.bel)) s)
                rw [h1] at HIN2
                clear hn hx' hms hs h1 h2 hy' hw' h3
                go_wp2_with fail
                refine HIN2.out.mono ?_
                rintro e w7 ⟨rfl, hw7⟩
                subst hw7
                go_wp2_with fail
                refine HSENT.out.mono ?_
                rintro e w7 ⟨mv7, iv7, rfl, hg7, hf7⟩
                have HL7 := Lib.hid (HL6.out.sent hg7 hf7)
                clear hg7 hf7
                go_wp2_with fail
                go_meet
                exact ⟨rfl, _, _, _, HL7.out⟩
            case rest =>
              obtain ⟨rfl, mv7, iv7, S7, hl7⟩ := hcut
              have HL7 := Lib.hid hl7
              clear hl7 HL6 HL5 HX5 HLN5 HOK5 m7 y12 HRUN
              have HIT := Lib.hid (items_any HL7.out.gp (by have := HL7.out.iv_.il; have := HK40.out; omega))
              go_wp2_with fail
              refine HIT.out.mono ?_
              rintro e w8 ⟨⟨v8, rfl, ho8, -⟩, hb8⟩
              have HL8 := Lib.hid (HL7.out.below hb8)
              obtain ⟨Ai, ci, hv8, hsi⟩ := (show OwnIt w8 w8 v8 S7.I from ⟨ho8, fun z hz => (HL8.out.gp.each z hz).led⟩).form (Below.refl _ _)
              subst hv8
              have HSI := Lib.hid hsi
              have HMB := Lib.hid (members_any HL8.out.gp (by have := HL8.out.iv_.ll; have := HK40.out; omega))
              clear ho8 hb8 hsi HIT
              go_wp2_with fail
              refine HMB.out.mono ?_
              rintro e w9 ⟨⟨v9, rfl, hr9⟩, hb9⟩
              obtain ⟨Am, cm, hv9, hsm⟩ := hr9.form
              subst hv9
              have HL9 := Lib.hid (HL8.out.below hb9)
              have HSI9 := Lib.hid (HSI.out.below hb9)
              have HSM9 := Lib.hid hsm
              have hil : S7.I.length < 1000000 := by have := HL9.out.iv_.il; have := HK40.out; omega
              have hll : S7.L.length < 1000000 := by have := HL9.out.iv_.ll; have := HK40.out; omega
              clear hr9 hb9 hsm HMB HSI HL8 HL7
              go_upto_region 15 with (fail)
              go_cut [88] (fun y wx => y = .bool false ∧ Below w9.heap.size w9 wx)
              case first =>
                have hroom := HL9.out.iv_.room
                rw [HL9.out.most_] at hroom
                have HRS := Lib.hid (LaneW.rsound_any w9 Ai ci S7.I HSI9.out)
                have HSS3 := Lib.hid (fun h3 => (snd_iff S7.I).2 (HL9.out.snd h3))
                generalize hnn : S7.I.length = n at *
                clear hnn HSI9 HSM9 HL9
                by_cases h3 : st = 3
                · rw [HSS3.out h3] at HRS
                  subst h3
                  rcases Int.lt_trichotomy 0 most with hm | hm | hm
                  · have h1 : ¬ most < (n : Int) := by omega
                    have h2 : (n : Int) ≤ most := by omega
                    clear hroom
                    go_wp2_with fail
                    refine HRS.out.mono ?_
                    rintro e w10 ⟨rfl, hd⟩
                    have HD := Lib.hid (Dr.below hd)
                    clear hd
                    go_wp2_with fail
                    go_meet
                    exact ⟨rfl, HD.out⟩
                  · subst hm
                    obtain rfl : n = 0 := by omega
                    clear hroom
                    go_wp2_with fail
                    refine HRS.out.mono ?_
                    rintro e w10 ⟨rfl, hd⟩
                    have HD := Lib.hid (Dr.below hd)
                    clear hd
                    go_wp2_with fail
                    go_meet
                    exact ⟨rfl, HD.out⟩
                  · obtain rfl : n = 0 := by omega
                    clear hroom
                    go_wp2_with fail
                    refine HRS.out.mono ?_
                    rintro e w10 ⟨rfl, hd⟩
                    have HD := Lib.hid (Dr.below hd)
                    clear hd
                    go_wp2_with fail
                    go_meet
                    exact ⟨rfl, HD.out⟩
                · clear HRS
                  rcases Int.lt_trichotomy 0 most with hm | hm | hm
                  · have h1 : ¬ most < (n : Int) := by omega
                    have h2 : (n : Int) ≤ most := by omega
                    clear hroom
                    go_wp2_with fail
                    go_meet
                    exact ⟨rfl, Below.refl _ _⟩
                  · subst hm
                    obtain rfl : n = 0 := by omega
                    clear hroom
                    go_wp2_with fail
                    go_meet
                    exact ⟨rfl, Below.refl _ _⟩
                  · obtain rfl : n = 0 := by omega
                    clear hroom
                    go_wp2_with fail
                    go_meet
                    exact ⟨rfl, Below.refl _ _⟩
              case rest =>
                obtain ⟨rfl, hb⟩ := hcut
                have HB0 := Lib.hid hb
                clear hb
                go_wp2_with fail
                go_loopw [15] (fun y wr => ∃ j : Nat, j ≤ S7.I.length ∧ y = .int .i64 j ∧ Below w9.heap.size w9 wr) (fun y _ => S7.I.length - (intOf y).toNat)
                case atStart => exact ⟨0, by omega, rfl, HB0.out⟩
                case round =>
                  obtain ⟨j, hj, rfl, hB⟩ := hrel
                  obtain ⟨wi, rfl⟩ : ∃ wi, wi = wr := ⟨_, rfl⟩
                  have HB := Lib.hid hB
                  by_cases hjl : j < S7.I.length
                  · obtain ⟨z, hz⟩ : ∃ z, S7.I[j]? = some z := ⟨_, List.getElem?_eq_getElem hjl⟩
                    obtain ⟨bi, oi, rfl, -, hcz, -, -, -⟩ := item_cells (HSI9.out.below hB) hz
                    have HON := Lib.hid (onl_all HL9.out.iv_.conn (List.mem_of_getElem? hz))
                    have z9 := hcz.c9
                    have Z9 := Lib.hid hcz.c9
                    clear hB hz hcz
                    go_upto_region 20 with (fail)
                    go_cut [16] (fun f wx => f = .bool (decide (z.at_ = ByteArray.empty)) ∧ wi = wx)
                    case first =>
                      by_cases ha : z.at_ = ByteArray.empty
                      · have HD1 := Lib.hid (decide_eq_true ha)
                        rw [ha] at z9
                        clear ha
                        go_wp2_with fail
                        go_meet
                        exact ⟨by rw [HD1.out], rfl⟩
                      · obtain ⟨a1, a2⟩ := ne_empty ha
                        have HD1 := Lib.hid (decide_eq_false ha)
                        clear ha
                        go_wp2_with fail
                        go_meet
                        exact ⟨by rw [HD1.out], rfl⟩
                    case rest =>
                      obtain ⟨rfl, rfl⟩ := hcut
                      clear z9
                      go_wp2_with fail
                      go_loopw [16, 17] (fun f y wr => ∃ n : Nat, n ≤ S7.L.length ∧ f = .bool (onl S7.L z.at_ n) ∧ y = .int .i64 n ∧ Dr wi wr) (fun _ y _ => S7.L.length - (intOf y).toNat)
                      case atStart => exact ⟨0, by omega, by rw [onl_zero], rfl, dr_refl _⟩
                      case round =>
                        obtain ⟨n, hn, rfl, rfl, hD⟩ := hrel
                        have HD := Lib.hid hD
                        have hBr := then_below HB.out hD.below
                        have z9 := (Same.of_below hD.below).cell Z9.out
                        by_cases hnl : n < S7.L.length
                        · obtain ⟨mm, hmm⟩ : ∃ mm, S7.L[n]? = some mm := ⟨_, List.getElem?_eq_getElem hnl⟩
                          obtain ⟨bm, om, hAm, -, m0, -, -, m3, -⟩ := MemW.mem_cells (HSM9.out.below hBr) hmm
                          have HSU := Lib.hid (onl_succ z.at_ hmm)
                          subst hAm
                          have d0 := fun q : Wd (Dr wr) => q.cellD m0
                          have d3 := fun q : Wd (Dr wr) => q.cellD m3
                          have d9 := fun q : Wd (Dr wr) => q.cellD z9
                          clear hBr hmm m0 m3 z9 hD
                          generalize onl S7.L z.at_ n = fl at *
                          cases fl with
                          | true =>
                            rw [Bool.true_or] at HSU
                            go_wp2
                            refine wp_region_cls (Dr wr) (dr_drew wr) (by kernel_rfl) (by kernel_rfl) ?_
                            repeat (go_big_quiet_step (fail))
                            refine wpQuiet_nil ?_
                            rintro _ ⟨⟨wq, hq⟩, rfl⟩
                            have HDQ := Lib.hid (Dr.trans HD.out hq)
                            clear hq d0 d3 d9
                            go_wp2
                            go_roundw
                            case rel => exact ⟨n + 1, by omega, by rw [HSU.out], by go_num, HDQ.out⟩
                            case measure => simp [intOf]; omega
                          | false =>
                            rw [Bool.false_or] at HSU
                            by_cases hcm : mm.client = z.at_
                            · have t1 := str_eq hcm
                              rw [decide_eq_true hcm, Bool.true_and] at HSU
                              clear hcm
                              generalize mm.online = on at *
                              cases on with
                              | true =>
                                go_wp2
                                refine wp_region_cls (Dr wr) (dr_drew wr) (by kernel_rfl) (by kernel_rfl) ?_
                                repeat (go_big_quiet_step (fail))
                                refine wpQuiet_nil ?_
                                rintro _ ⟨⟨wq, hq⟩, rfl⟩
                                have HDQ := Lib.hid (Dr.trans HD.out hq)
                                clear hq d0 d3 d9
                                go_wp2
                                go_roundw
                                case rel => exact ⟨n + 1, by omega, by rw [HSU.out], by go_num, HDQ.out⟩
                                case measure => simp [intOf]; omega
                              | false =>
                                go_wp2
                                refine wp_region_cls (Dr wr) (dr_drew wr) (by kernel_rfl) (by kernel_rfl) ?_
                                repeat (go_big_quiet_step (fail))
                                refine wpQuiet_nil ?_
                                rintro _ ⟨⟨wq, hq⟩, rfl⟩
                                have HDQ := Lib.hid (Dr.trans HD.out hq)
                                clear hq d0 d3 d9
                                go_wp2
                                go_roundw
                                case rel => exact ⟨n + 1, by omega, by rw [HSU.out], by go_num, HDQ.out⟩
                                case measure => simp [intOf]; omega
                            · have t1 := str_ne hcm
                              rw [decide_eq_false hcm, Bool.false_and] at HSU
                              clear hcm
                              go_wp2
                              refine wp_region_cls (Dr wr) (dr_drew wr) (by kernel_rfl) (by kernel_rfl) ?_
                              repeat (go_big_quiet_step (fail))
                              refine wpQuiet_nil ?_
                              rintro _ ⟨⟨wq, hq⟩, rfl⟩
                              have HDQ := Lib.hid (Dr.trans HD.out hq)
                              clear hq d0 d3 d9
                              go_wp2
                              go_roundw
                              case rel => exact ⟨n + 1, by omega, by rw [HSU.out], by go_num, HDQ.out⟩
                              case measure => simp [intOf]; omega
                        · obtain rfl : n = S7.L.length := by omega
                          rw [HON.out]
                          clear hD z9
                          have HBR := Lib.hid hBr
                          clear hBr
                          go_wp2_with fail
                          go_roundw
                          case rel => exact ⟨j + 1, by omega, by go_num, HBR.out⟩
                          case measure => simp [intOf]; omega
                  · obtain rfl : j = S7.I.length := by omega
                    have HLE := Lib.hid (HL9.out.below hB)
                    clear hB
                    go_wp2_with fail
                    go_roundw
                    case rel => exact ⟨k + 1, _, _, _, by omega, by go_num, HLE.out⟩
                    case measure => simp [intOf]; omega
      · obtain rfl : k = l.length := by omega
        have HBE := Lib.hid (then_below HBW.out HLW.out.bel)
        go_wp2_with fail
        refine (awake_any _).mono ?_
        rintro e wz ⟨rfl, hbz⟩
        have HE := Lib.hid (HPP.out wz (then_below (HBE.out) hbz))
        clear hbz
        go_wp2_with fail
        exact HE.out
end Go.Proofs.Ytclhgnlhejohgaa.GrpW
