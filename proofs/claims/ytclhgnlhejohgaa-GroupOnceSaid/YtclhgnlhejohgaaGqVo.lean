/- A group's queue: each message is there once. -/
import Derived.Test.YtclhgnlhejohgaaGqU
import Derived.Deep.CutBlock
set_option linter.unusedVariables false
set_option linter.unusedSimpArgs false
namespace Go.Proofs.Ytclhgnlhejohgaa.GrpW
open Go.RowKit Go.Proofs.Ytclhgnlhejohgaa.Tc Go.Proofs.Ytclhgnlhejohgaa.GrpP
open Go.Proofs.Ytclhgnlhejohgaa.PickP (has)
open Go.Proofs.Ytclhgnlhejohgaa.MemP (Mem)
open Go.Proofs.Ytclhgnlhejohgaa.LaneW (OwnIt pr)
theorem filt_both {α : Type} (l : List α) (p : α → Bool) : (l.filter p).length + (l.filter fun x => !p x).length = l.length := by
  induction l with
  | nil => rfl
  | cons x l ih =>
    cases h : p x <;> simp [h] <;> omega
structure Cnt (k : Nat) (S : GS) (ad ou : Int) : Prop where
  len : (S.I.length : Int) = ad - ou
  o0 : 0 ≤ ou
  oa : ou ≤ ad
  ak : ad ≤ k
set_option maxRecDepth 100000 in
set_option maxHeartbeats 16000000 in
theorem once_law (W : World) (st : Int) (A : Option Addr) (len cap : Nat) (l : List GA) (hst : (Lit.int .i64 st).wf = true) (hl : l.length = len ∧ SliceIs kGA W A l) :
    Calls Try.prog 14 #[.int .i64 st, .slice A len cap] W fun e w' => e = .returned (.bool true) ∧ Below W.heap.size W w' := by
  obtain ⟨rfl, hS⟩ := hl
  have hlen := hS.len
  unfold maxLen at hlen
  have HS := Lib.hid hS
  have HF := Lib.hid (few_any W A cap l 40 (by omega) hS)
  rw [show ((40 : Nat) : Int) = 40 from rfl] at HF
  have HM0 := Lib.hid (show (-9223372036854775808 : Int) ≤ 40 by decide)
  have HM1 := Lib.hid (show (40 : Int) ≤ 9223372036854775807 by decide)
  clear hst
  generalize hP : (fun (e : Ending) (w' : World) => e = .returned (.bool true) ∧ Below W.heap.size W w') = PP
  have HPP := Lib.hid (show ∀ w', Below W.heap.size W w' → PP (.returned (.bool true)) w' from fun w' h1 => by
    rw [← hP]
    exact ⟨rfl, h1⟩)
  clear hP hS
  go_enter Try.func14, Try.ntmps14
  go_wp2_with fail
  refine HF.out.mono ?_
  rintro e w1 ⟨⟨fb, rfl, hfb⟩, hb1⟩
  have HFB := Lib.hid hfb
  have HBW := Lib.hid hb1
  clear hfb hb1
  cases fb with
  | false =>
    go_wp2_with fail
    refine (awake_any _).mono ?_
    rintro e wz ⟨rfl, hbz⟩
    have HE := Lib.hid (HPP.out wz (then_below (HBW.out) hbz))
    clear hbz
    go_wp2_with fail
    exact HE.out
  | true =>
    have HFEW := Lib.hid (HFB.out rfl)
    clear HFB
    have HNEW := Lib.hid (new_any w1 ⟨#[103]⟩ st 40 w1.heap.size (Nat.le_refl _))
    go_wp2_with fail
    refine HNEW.out.mono ?_
    rintro e w2 ⟨rfl, hg2, hb2⟩
    have HL0 := Lib.hid (Lw.new w1 hg2 hb2)
    obtain ⟨g, hgg⟩ : ∃ g, g = w1.heap.size + 1 := ⟨_, rfl⟩
    rw [← hgg] at HL0 ⊢
    clear hg2 hb2 HNEW HF hgg
    go_wp2_with fail
    go_loopw [6, 7, 8] (fun a o y wr => ∃ (k : Nat) (mv iv : Value) (S : GS) (ad ou : Int), k ≤ l.length ∧ a = .int .i64 ad ∧ o = .int .i64 ou ∧ y = .int .i64 k ∧ Lw w1 g w1.heap.size st 40 k wr mv iv S ∧ Cnt k S ad ou) (fun _ _ y _ => l.length - (intOf y).toNat)
    case atStart => exact ⟨0, _, _, _, 0, 0, by omega, rfl, rfl, rfl, HL0.out, ⟨rfl, by omega, by omega, by omega⟩⟩
    case round =>
      obtain ⟨k, mv, iv, S, ad, ou, hk, rfl, rfl, rfl, hlw, hcnt⟩ := hrel
      have HLW := Lib.hid hlw
      have HCN := Lib.hid hcnt
      clear hlw HL0 hcnt
      by_cases hlt : k < l.length
      · obtain ⟨wo, rfl⟩ : ∃ wo, wo = wr := ⟨_, rfl⟩
        obtain ⟨x, hx⟩ : ∃ x, l[k]? = some x := ⟨_, List.getElem?_eq_getElem hlt⟩
        have hbase : Below W.heap.size W wo := HBW.out.trans ((HLW.out.bel).mono HBW.out.size)
        obtain ⟨b, off, hA, hb, hcx, hwf, hps, hfs⟩ := ga_cells (HS.out.below hbase) hx
        obtain ⟨-, -, -, -, -, -, -, hfs0⟩ := ga_cells HS.out hx
        have HFX0 := Lib.hid hfs0
        clear hfs0
        subst hA
        have c0 : wo.cell? ⟨b, off + k * 13, none⟩ = some (.int .i64 x.kind) := hcx 0 _ rfl
        have c1 : wo.cell? ⟨b, off + k * 13 + 1, none⟩ = some (.string x.client) := hcx 1 _ rfl
        have c2 : wo.cell? ⟨b, off + k * 13 + 2, none⟩ = some (.string x.msg.topic) := hcx 2 _ rfl
        have c3 : wo.cell? ⟨b, off + k * 13 + 3, none⟩ = some (.string x.msg.payload) := hcx 3 _ rfl
        have c4 : wo.cell? ⟨b, off + k * 13 + 4, none⟩ = some (.int .i64 x.msg.qos) := hcx 4 _ rfl
        have c5 : wo.cell? ⟨b, off + k * 13 + 5, none⟩ = some (.bool x.msg.retain) := hcx 5 _ rfl
        have c6 : wo.cell? ⟨b, off + k * 13 + 6, none⟩ = some (.slice x.msg.pA x.msg.props.length x.msg.pc) := hcx 6 _ rfl
        have c7 : wo.cell? ⟨b, off + k * 13 + 7, none⟩ = some (.string x.msg.from_) := hcx 7 _ rfl
        have c8 : wo.cell? ⟨b, off + k * 13 + 8, none⟩ = some (.int .i64 x.msg.until_) := hcx 8 _ rfl
        have c9 : wo.cell? ⟨b, off + k * 13 + 9, none⟩ = some (.int .i64 x.msg.seq) := hcx 9 _ rfl
        have c10 : wo.cell? ⟨b, off + k * 13 + 10, none⟩ = some (.string x.msg.group) := hcx 10 _ rfl
        have c11 : wo.cell? ⟨b, off + k * 13 + 11, none⟩ = some (.int .i64 x.n) := hcx 11 _ rfl
        have c12 : wo.cell? ⟨b, off + k * 13 + 12, none⟩ = some (.slice x.fA x.free.length x.fc) := hcx 12 _ rfl
        have hsm : SmallG x := by
          obtain ⟨hk', rfl⟩ := List.getElem?_eq_some_iff.1 hx
          exact HFEW.out.2 k hk'
        have hk40 : k < 40 := by have := HFEW.out.1; omega
        obtain ⟨wB, hwB⟩ : ∃ wB, wB = wo.alloc (.cells #[.int .i64 x.kind, .string x.client, .string x.msg.topic, .string x.msg.payload, .int .i64 x.msg.qos, .bool x.msg.retain, .slice x.msg.pA x.msg.props.length x.msg.pc, .string x.msg.from_, .int .i64 x.msg.until_, .int .i64 x.msg.seq, .string x.msg.group, .int .i64 x.n, .slice x.fA x.free.length x.fc] 81) := ⟨_, rfl⟩
        have hbB : Below wo.heap.size wo wB := by rw [hwB]; exact alloc_below _ _
        have hzB : wB.heap[wo.heap.size]? = some (.cells #[.int .i64 x.kind, .string x.client, .string x.msg.topic, .string x.msg.payload, .int .i64 x.msg.qos, .bool x.msg.retain, .slice x.msg.pA x.msg.props.length x.msg.pc, .string x.msg.from_, .int .i64 x.msg.until_, .int .i64 x.msg.seq, .string x.msg.group, .int .i64 x.n, .slice x.fA x.free.length x.fc] 81 (0, 0)) := by rw [hwB]; exact heap_alloc_new wo _
        obtain ⟨wC, hwC⟩ : ∃ wC, wC = wB.setCell ⟨wo.heap.size, 9, none⟩ (.int .i64 ((k : Int) + 1)) := ⟨_, rfl⟩
        have hzC : wC.heap[wo.heap.size]? = some (.cells #[.int .i64 x.kind, .string x.client, .string x.msg.topic, .string x.msg.payload, .int .i64 x.msg.qos, .bool x.msg.retain, .slice x.msg.pA x.msg.props.length x.msg.pc, .string x.msg.from_, .int .i64 x.msg.until_, .int .i64 ((k : Int) + 1), .string x.msg.group, .int .i64 x.n, .slice x.fA x.free.length x.fc] 81 (0, 0)) := by rw [hwC]; exact set_of hzB 9 _
        have hbC : Below wo.heap.size wo wC := by
          rw [hwC]
          exact (((Tch.of_below (S := []) hbB).setCell (p := ⟨wo.heap.size, 9, none⟩) (.inr (Nat.le_refl _)) _).below (Nat.le_refl _) (by simp))
        have HWB := Lib.hid hwB
        have HWC := Lib.hid hwC.symm
        have HBB := Lib.hid hbB
        have HBC := Lib.hid hbC
        have HZC := Lib.hid hzC
        have HFX := Lib.hid (hfs.below hbC)
        have HLC := Lib.hid (HLW.out.below hbC)
        have HRA := Lib.hid (num_ra (w := wC) (k := k) (by omega) hwf (hps.below hbC) (hfs.below hbC) hsm)
        have HK40 := Lib.hid hk40
        have HBASE := Lib.hid hbase
        have e0 : wB.cell? ⟨wo.heap.size, 0, none⟩ = some (.int .i64 x.kind) := cell_of hzB rfl
        have e1 : wB.cell? ⟨wo.heap.size, 1, none⟩ = some (.string x.client) := cell_of hzB rfl
        have e2 : wB.cell? ⟨wo.heap.size, 2, none⟩ = some (.string x.msg.topic) := cell_of hzB rfl
        have e3 : wB.cell? ⟨wo.heap.size, 3, none⟩ = some (.string x.msg.payload) := cell_of hzB rfl
        have e4 : wB.cell? ⟨wo.heap.size, 4, none⟩ = some (.int .i64 x.msg.qos) := cell_of hzB rfl
        have e5 : wB.cell? ⟨wo.heap.size, 5, none⟩ = some (.bool x.msg.retain) := cell_of hzB rfl
        have e6 : wB.cell? ⟨wo.heap.size, 6, none⟩ = some (.slice x.msg.pA x.msg.props.length x.msg.pc) := cell_of hzB rfl
        have e7 : wB.cell? ⟨wo.heap.size, 7, none⟩ = some (.string x.msg.from_) := cell_of hzB rfl
        have e8 : wB.cell? ⟨wo.heap.size, 8, none⟩ = some (.int .i64 x.msg.until_) := cell_of hzB rfl
        have e9 : wB.cell? ⟨wo.heap.size, 9, none⟩ = some (.int .i64 x.msg.seq) := cell_of hzB rfl
        have e10 : wB.cell? ⟨wo.heap.size, 10, none⟩ = some (.string x.msg.group) := cell_of hzB rfl
        have e11 : wB.cell? ⟨wo.heap.size, 11, none⟩ = some (.int .i64 x.n) := cell_of hzB rfl
        have e12 : wB.cell? ⟨wo.heap.size, 12, none⟩ = some (.slice x.fA x.free.length x.fc) := cell_of hzB rfl
        have f9 := free_of hzB 9
        have HZB := Lib.hid hzB
        have HFB := Lib.hid (hfs.below hbB)
        clear hx hbase hb hcx hwf hps hfs hsm hwB hbB hzB hwC hzC hbC
        go_upto_region 9 with (fail)
        rw [← HWB.out]
        go_upto_region 10 with (fail)
        rw [HWC.out]
        clear HWC HWB c0 c1 c2 c3 c4 c5 c6 c7 c8 c9 c10 c11 c12 e0 e1 e2 e3 e4 e5 e6 e7 e8 e9 e10 e11 e12 f9
        have e0 : wC.cell? ⟨wo.heap.size, 0, none⟩ = some (.int .i64 x.kind) := cell_of HZC.out rfl
        have e1 : wC.cell? ⟨wo.heap.size, 1, none⟩ = some (.string x.client) := cell_of HZC.out rfl
        have e2 : wC.cell? ⟨wo.heap.size, 2, none⟩ = some (.string x.msg.topic) := cell_of HZC.out rfl
        have e3 : wC.cell? ⟨wo.heap.size, 3, none⟩ = some (.string x.msg.payload) := cell_of HZC.out rfl
        have e4 : wC.cell? ⟨wo.heap.size, 4, none⟩ = some (.int .i64 x.msg.qos) := cell_of HZC.out rfl
        have e5 : wC.cell? ⟨wo.heap.size, 5, none⟩ = some (.bool x.msg.retain) := cell_of HZC.out rfl
        have e6 : wC.cell? ⟨wo.heap.size, 6, none⟩ = some (.slice x.msg.pA x.msg.props.length x.msg.pc) := cell_of HZC.out rfl
        have e7 : wC.cell? ⟨wo.heap.size, 7, none⟩ = some (.string x.msg.from_) := cell_of HZC.out rfl
        have e8 : wC.cell? ⟨wo.heap.size, 8, none⟩ = some (.int .i64 x.msg.until_) := cell_of HZC.out rfl
        have e9 : wC.cell? ⟨wo.heap.size, 9, none⟩ = some (.int .i64 ((k : Int) + 1)) := cell_of HZC.out rfl
        have e10 : wC.cell? ⟨wo.heap.size, 10, none⟩ = some (.string x.msg.group) := cell_of HZC.out rfl
        have e11 : wC.cell? ⟨wo.heap.size, 11, none⟩ = some (.int .i64 x.n) := cell_of HZC.out rfl
        have e12 : wC.cell? ⟨wo.heap.size, 12, none⟩ = some (.slice x.fA x.free.length x.fc) := cell_of HZC.out rfl
        have hc1 := HCN.out.o0
        have hc2 := HCN.out.oa
        have hc3 := HCN.out.ak
        go_upto_block 2 with (fail)
        go_cut [6, 7] (fun a o wx => ∃ (mv' iv' : Value) (S' : GS) (ad' ou' : Int), a = .int .i64 ad' ∧ o = .int .i64 ou' ∧ Lw w1 g w1.heap.size st 40 (k + 1) wx mv' iv' S' ∧ Cnt (k + 1) S' ad' ou')
        case first =>
          have HLN0 := Lib.hid HCN.out.len
          by_cases h5 : x.kind = 5
          · have hr : ¬ roomP S = 0 := by
              have h1 := HLC.out.iv_.il
              have h2 := HLC.out.most_
              have h3 := HK40.out
              have h4 := roomP_cases S
              omega
            have HX := Lib.hid (add_yes HLC.out.gp (by have := HLC.out.iv_.il; have := HK40.out; omega) (by rw [HLC.out.most_]; decide) (by rw [HLC.out.most_]; decide) HLC.out.iv_.room (num x k).msg hr HRA.out.wf.2.1 HRA.out.props HRA.out.few)
            unfold Mg.val num at HX
            dsimp only at HX
            have HR := Lib.hid hr
            have k5 : (x.kind == 5) = true := by rw [h5]; rfl
            clear h5 hr
            go_wp2_with fail
            refine HX.out.mono ?_
            rintro e w5 ⟨z, hz, mv5, iv5, rfl, hg5, hf5⟩
            have HL5 := Lib.hid (HLC.out.step hg5 hf5 ⟨HLC.out.iv_.add (m := (num x k).msg) hz (num_seq x k) HRA.out.topic HRA.out.from_ HRA.out.few HR.out, rfl, rfl, rfl, fun _ h => h.add hz.at_⟩)
            have HC5 := Lib.hid (show Cnt (k + 1) { S with I := S.I ++ [z] } (ad + 1) ou from ⟨by show (((S.I ++ [z]).length : Nat) : Int) = _; rw [List.length_append, List.length_singleton]; have := HLN0.out; omega, hc1, by omega, by omega⟩)
            have hkk := HK40.out
            clear hg5 hf5 hz
            go_wp2_with fail
            go_meet
            exact ⟨_, _, _, _, _, rfl, rfl, HL5.out, HC5.out⟩
          by_cases h7 : x.kind = 7
          · have HX := Lib.hid (done_any HLC.out.gp (by have := HLC.out.iv_.il; have := HK40.out; omega) x.n x.client)
            have k5 : (x.kind == 5) = false := by rw [h7]; rfl
            have k7 : (x.kind == 7) = true := by rw [h7]; rfl
            have hbd := gidx_bd S.I (isWith x.n x.client)
            have HST := Lib.hid (show Step k S (doneP S x.n x.client) from ⟨HLC.out.iv_.done _ _, rfl, rfl, rfl, fun _ h => h.sub (done_sub S _ _)⟩)
            have HLD := Lib.hid (show (doneP S x.n x.client).I = if 0 ≤ gidx S.I (isWith x.n x.client) then S.I.eraseIdx (gidx S.I (isWith x.n x.client)).toNat else S.I from rfl)
            clear h5 h7
            rcases hbd with hi | ⟨i, z, hi, hz, -⟩
            · rw [hi] at HX HLD
              rw [if_neg (by decide)] at HLD
              rw [show decide ((0 : Int) ≤ -1) = false from rfl] at HX
              clear hi
              go_wp2_with fail
              refine HX.out.mono ?_
              rintro e w5 ⟨mv5, iv5, rfl, hg5, hf5⟩
              have HL5 := Lib.hid (HLC.out.step hg5 hf5 HST.out)
              have HC5 := Lib.hid (show Cnt (k + 1) (doneP S x.n x.client) ad ou from ⟨by rw [HLD.out]; exact HLN0.out, hc1, hc2, by omega⟩)
              clear hg5 hf5
              go_wp2_with fail
              go_meet
              exact ⟨_, _, _, _, _, rfl, rfl, HL5.out, HC5.out⟩
            · have hil := (List.getElem?_eq_some_iff.1 hz).1
              rw [hi] at HX HLD
              rw [if_pos (by omega)] at HLD
              rw [decide_eq_true (show (0 : Int) ≤ (i : Int) by omega)] at HX
              have HIL := Lib.hid hil
              clear hi hz hil
              go_wp2_with fail
              refine HX.out.mono ?_
              rintro e w5 ⟨mv5, iv5, rfl, hg5, hf5⟩
              have HL5 := Lib.hid (HLC.out.step hg5 hf5 HST.out)
              have HC5 := Lib.hid (show Cnt (k + 1) (doneP S x.n x.client) ad (ou + 1) from ⟨by
                rw [HLD.out, List.length_eraseIdx]
                have h1 := HLN0.out
                have h2 := HIL.out
                rw [if_pos (by omega)]
                omega, by omega, by have h1 := HLN0.out; have h2 := HIL.out; omega, by omega⟩)
              have hkk := HK40.out
              clear hg5 hf5
              go_wp2_with fail
              go_meet
              exact ⟨_, _, _, _, _, rfl, rfl, HL5.out, HC5.out⟩
          by_cases h9 : x.kind = 9
          · have HX := Lib.hid (expire_any HLC.out.gp (by have := HLC.out.iv_.il; have := HK40.out; omega) x.n)
            have k5 : (x.kind == 5) = false := by rw [h9]; rfl
            have k7 : (x.kind == 7) = false := by rw [h9]; rfl
            have k9 : (x.kind == 9) = true := by rw [h9]; rfl
            have HST := Lib.hid (show Step k S (expP S x.n) from ⟨HLC.out.iv_.exp _, rfl, rfl, rfl, fun _ h => h.sub List.filter_sublist⟩)
            have hfb := filt_both S.I (over x.n)
            rw [List.length_map] at HX
            have HLD := Lib.hid (show (expP S x.n).I.length = (S.I.filter fun y => !over x.n y).length from rfl)
            generalize (S.I.filter (over x.n)).length = n at *
            have HFB := Lib.hid hfb
            clear h5 h7 h9
            go_wp2_with fail
            refine HX.out.mono ?_
            rintro e w5 ⟨A5, c5, mv5, iv5, rfl, hg5, hf5⟩
            have HL5 := Lib.hid (HLC.out.step hg5 hf5 HST.out)
            have hbn : (n : Int) ≤ ad - ou := by have := HLN0.out; omega
            have HC5 := Lib.hid (show Cnt (k + 1) (expP S x.n) ad (ou + n) from ⟨by
              rw [HLD.out]
              have h1 := HLN0.out
              have h2 := HFB.out
              omega, by omega, by omega, by omega⟩)
            have hkk := HK40.out
            have hbn0 : 0 ≤ (n : Int) := by omega
            clear hg5 hf5 hfb
            go_wp2_with fail
            go_meet
            exact ⟨_, _, _, _, _, rfl, rfl, HL5.out, HC5.out⟩
          have HRUN := Lib.hid (run_any HLC.out.gp k (by have := HK40.out; omega) HLC.out.iv_ (by rw [HLC.out.most_]; exact HM0.out) (by rw [HLC.out.most_]; exact HM1.out) (num x k) HRA.out (num_seq x k))
          unfold GA.val num at HRUN
          dsimp only at HRUN
          have HLN5' := Lib.hid (fun (n : Nat) (h : x.kind ≠ 5 → x.kind ≠ 7 → x.kind ≠ 9 → n = S.I.length) => h h5 h7 h9)
          have k5 : (x.kind == 5) = false := beq_eq_false_iff_ne.2 h5
          have k7 : (x.kind == 7) = false := beq_eq_false_iff_ne.2 h7
          have k9 : (x.kind == 9) = false := beq_eq_false_iff_ne.2 h9
          clear h5 h7 h9
          go_wp2_with fail
          refine HRUN.out.mono ?_
          rintro e w5 ⟨m, s, ok, mv5, iv5, S5, rfl, hg5, hf5, hst5, hln5, hok5⟩
          have HL5 := Lib.hid (HLC.out.step hg5 hf5 hst5)
          have HLN5 := Lib.hid (HLN5'.out _ hln5)
          have HOK5 := Lib.hid hok5
          clear hg5 hf5 hst5 hln5 hok5 e0 e1 e2 e3 e4 e5 e6 e7 e8 e9 e10 e11 e12
          obtain ⟨W6, hW6⟩ : ∃ W6, W6 = w5.alloc (.cells #[.string m.topic, .string m.payload, .int .i64 m.qos, .bool m.retain, .slice m.pA m.props.length m.pc, .string m.from_, .int .i64 m.until_, .int .i64 m.seq, .string m.group] 43) := ⟨_, rfl⟩
          have hb6 : Below w5.heap.size w5 W6 := by rw [hW6]; exact alloc_below _ _
          have hz6 : W6.heap[w5.heap.size]? = some (.cells #[.string m.topic, .string m.payload, .int .i64 m.qos, .bool m.retain, .slice m.pA m.props.length m.pc, .string m.from_, .int .i64 m.until_, .int .i64 m.seq, .string m.group] 43 (0, 0)) := by rw [hW6]; exact heap_alloc_new w5 _
          have m7 : W6.cell? ⟨w5.heap.size, 7, none⟩ = some (.int .i64 m.seq) := cell_of hz6 rfl
          have HL6 := Lib.hid (HL5.out.below hb6)
          have HW6 := Lib.hid hW6
          have HC6 := Lib.hid (show Cnt (k + 1) S5 ad ou from ⟨by rw [HLN5.out]; exact HLN0.out, hc1, hc2, by omega⟩)
          clear hW6 hb6 hz6
          unfold Mg.val
          go_upto_region 12 with (fail)
          rw [← HW6.out]
          clear HW6
          cases ok with
          | false =>
            go_wp2_with fail
            go_meet
            exact ⟨_, _, _, _, _, rfl, rfl, HL6.out, HC6.out⟩
          | true =>
            obtain ⟨i, x', hn, hx', hms, hs⟩ := HOK5.out rfl
            obtain ⟨y', hy', -, hw'⟩ := next_some hn
            have he' := hx'.symm.trans hy'
            injection he' with he'
            subst he'
            obtain ⟨-, h3, -⟩ := whom_ok HL6.out.iv_.conn hw'
            rw [← hs] at h3
            have HSENT := Lib.hid (sent_any HL6.out.gp m.seq s (name_small HL6.out.iv_ h3))
            have HC7 := Lib.hid (show Cnt (k + 1) (sentP S5 m.seq s) ad ou from ⟨by rw [sentP_len]; exact HC6.out.len, hc1, hc2, by omega⟩)
            generalize (sentAt S5 m.seq s).isSome = bb at *
            clear hn hx' hms hs hy' hw' h3
            go_wp2_with fail
            refine HSENT.out.mono ?_
            rintro e w7 ⟨mv7, iv7, rfl, hg7, hf7⟩
            have HL7 := Lib.hid (HL6.out.sent hg7 hf7)
            clear hg7 hf7
            go_wp2_with fail
            go_meet
            exact ⟨_, _, _, _, _, rfl, rfl, HL7.out, HC7.out⟩
        case rest =>
          obtain ⟨mv7, iv7, S7, ad7, ou7, rfl, rfl, hl7, hcn7⟩ := hcut
          have HL7 := Lib.hid hl7
          have HCN7 := Lib.hid hcn7
          clear hl7 hcn7 HLC HRA HBB HBC HZB HZC e0 e1 e2 e3 e4 e5 e6 e7 e8 e9 e10 e11 e12 hc1 hc2 hc3
          have hil : S7.I.length < 1000000 := by have := HL7.out.iv_.il; have := HK40.out; omega
          have HIT := Lib.hid (items_any HL7.out.gp hil)
          go_wp2_with fail
          refine HIT.out.mono ?_
          rintro e w8 ⟨⟨v8, rfl, ho8, -⟩, hb8⟩
          have HL8 := Lib.hid (HL7.out.below hb8)
          obtain ⟨Ai, ci, hv8, hsi⟩ := (show OwnIt w8 w8 v8 S7.I from ⟨ho8, fun z hz => (HL8.out.gp.each z hz).led⟩).form (Below.refl _ _)
          subst hv8
          have HSI := Lib.hid hsi
          have hw1 : wrap64 (ad7 - ou7) = S7.I.length := by have h1 := HCN7.out.len; unfold wrap64; omega
          have hw2 : IntKind.i64.wrap (ad7 - ou7) = S7.I.length := (IntWalk.i64_in _ (by have := HCN7.out.len; omega)).trans HCN7.out.len.symm
          clear ho8 hb8 hsi HIT HL7
          go_wp2_with fail
          go_loopw [14] (fun y wr => ∃ j : Nat, j ≤ S7.I.length ∧ y = .int .i64 ((j : Int) + 1) ∧ Dr w8 wr) (fun y _ => S7.I.length - ((intOf y).toNat - 1))
          case atStart => exact ⟨0, by omega, rfl, dr_refl _⟩
          case round =>
            obtain ⟨j, hj, rfl, hD⟩ := hrel
            have HD := Lib.hid hD
            by_cases hjl : j + 1 < S7.I.length
            · obtain ⟨z, hz⟩ : ∃ z, S7.I[j]? = some z := ⟨_, List.getElem?_eq_getElem (by omega)⟩
              obtain ⟨y, hy⟩ : ∃ y, S7.I[j + 1]? = some y := ⟨_, List.getElem?_eq_getElem hjl⟩
              have hsq := HL8.out.iv_.seqs j (j + 1) z y hz hy (by omega)
              obtain ⟨bi, oi, hA1, -, hcz, -, -, -⟩ := item_cells (HSI.out.below hD.below) hz
              obtain ⟨bi2, oi2, hA2, -, hcy, -, -, -⟩ := item_cells (HSI.out.below hD.below) hy
              rw [hA1] at hA2
              injection hA2 with hA2
              injection hA2 with hA3 hA4
              subst hA3
              subst hA4
              subst hA1
              have d6 := fun q : Wd (Dr wr) => q.cellD hcz.c7
              have d12 := fun q : Wd (Dr wr) => q.cellD hcy.c7
              generalize z.msg.seq = sz at *
              generalize y.msg.seq = sy at *
              have hjn : (j : Int) + 1 < S7.I.length := by omega
              have hsn : ¬ sy ≤ sz := by omega
              have hx1 : wrap64 ((j : Int) + 1 - 1) = j := by unfold wrap64; omega
              have hx3 : ((j : Int) + 1).toNat = j + 1 := by omega
              clear hz hy hcz hcy hD
              go_wp2
              refine wp_region_cls (Dr wr) (dr_drew wr) (by kernel_rfl) (by kernel_rfl) ?_
              repeat (go_big_quiet_step (fail))
              refine wpQuiet_nil ?_
              rintro _ ⟨⟨wq, hq⟩, rfl⟩
              have HDQ := Lib.hid (Dr.trans HD.out hq)
              clear hq d6 d12
              go_wp2
              go_roundw
              case rel => exact ⟨j + 1, by omega, by go_num, HDQ.out⟩
              case measure => simp [intOf]; omega
            · have HLE := Lib.hid (HL8.out.below hD.below)
              have hjn : ¬ (j : Int) + 1 < S7.I.length := by omega
              clear hD
              go_wp2_with fail
              go_roundw
              case rel => exact ⟨k + 1, _, _, _, _, _, by omega, rfl, rfl, by go_num, HLE.out, HCN7.out⟩
              case measure => simp [intOf]; omega
      · obtain rfl : k = l.length := by omega
        have HBE := Lib.hid (then_below HBW.out HLW.out.bel)
        go_wp2_with fail
        refine (awake_any _).mono ?_
        rintro e wz ⟨rfl, hbz⟩
        have HE := Lib.hid (HPP.out wz (then_below (HBE.out) hbz))
        clear hbz
        go_wp2_with fail
        exact HE.out
end Go.Proofs.Ytclhgnlhejohgaa.GrpW
