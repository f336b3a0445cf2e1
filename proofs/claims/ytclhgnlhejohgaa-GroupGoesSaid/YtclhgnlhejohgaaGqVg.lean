/- A group's queue: with Robin and Least somebody is told. -/
import Derived.Test.YtclhgnlhejohgaaGqU
import Derived.Deep.CutBlock
set_option linter.unusedVariables false
set_option linter.unusedSimpArgs false
namespace Go.Proofs.Ytclhgnlhejohgaa.GrpW
open Go.RowKit Go.Proofs.Ytclhgnlhejohgaa.Tc Go.Proofs.Ytclhgnlhejohgaa.GrpP
open Go.Proofs.Ytclhgnlhejohgaa.PickP (has)
open Go.Proofs.Ytclhgnlhejohgaa.PickW (kS)
open Go.Proofs.Ytclhgnlhejohgaa.MemP (Mem)
open Go.Proofs.Ytclhgnlhejohgaa.LaneW (OwnIt pr)
theorem tell_ok {S : GS} {free : List ByteArray} : (tellP S free).2 = (nextN S.st S.I S.L S.last free).isSome := by
  cases hn : nextN S.st S.I S.L S.last free with
  | none => rw [tell_none hn]; rfl
  | some i =>
    obtain ⟨x, hx, -, -⟩ := next_some hn
    rw [tell_some hn hx]
    rfl
theorem tell_has {k : Nat} {S : GS} (h : Iv k S) {free : List ByteArray} (ht : (tellP S free).2 = true) : has free (tellP S free).1 = true := by
  cases hn : nextN S.st S.I S.L S.last free with
  | none => rw [tell_none hn] at ht; cases ht
  | some i =>
    obtain ⟨x, hx, -, -⟩ := next_some hn
    rw [tell_some hn hx]
    exact (next_sent h hn hx).1
/-- Are the first n gone, or has each refused? -/
def alN (L : List Mem) (x : Tc.It) (n : Nat) : Bool := (L.take n).all fun m => !m.online || has x.behind m.client
theorem alN_succ {L : List Mem} {n : Nat} {m : Mem} (x : Tc.It) (hm : L[n]? = some m) : alN L x (n + 1) = (alN L x n && (!m.online || has x.behind m.client)) := by
  obtain ⟨hn, rfl⟩ := List.getElem?_eq_some_iff.1 hm
  unfold alN
  rw [List.take_succ_eq_append_getElem hn, List.all_append]
  simp
theorem alN_all (L : List Mem) (x : Tc.It) : alN L x L.length = allP L x := by unfold alN allP; rw [List.take_length]
def wsN (free : List ByteArray) (L : List Mem) (x : Tc.It) (all : Bool) (n : Nat) : Bool := (L.take n).any (wish free x all)
theorem wsN_succ {L : List Mem} {n : Nat} {m : Mem} (free : List ByteArray) (x : Tc.It) (all : Bool) (hm : L[n]? = some m) : wsN free L x all (n + 1) = (wsN free L x all n || wish free x all m) := by
  obtain ⟨hn, rfl⟩ := List.getElem?_eq_some_iff.1 hm
  unfold wsN
  rw [List.take_succ_eq_append_getElem hn, List.any_append]
  simp
theorem wsN_all (free : List ByteArray) (L : List Mem) (x : Tc.It) (all : Bool) : wsN free L x all L.length = L.any (wish free x all) := by unfold wsN; rw [List.take_length]
def goN (I : List Tc.It) (L : List Mem) (free : List ByteArray) (j : Nat) : Bool := (I.take j).any fun x => decide (x.at_ = ByteArray.empty) && L.any (wish free x (allP L x))
theorem goN_succ {I : List Tc.It} {j : Nat} {x : Tc.It} (L : List Mem) (free : List ByteArray) (hx : I[j]? = some x) : goN I L free (j + 1) = (goN I L free j || (decide (x.at_ = ByteArray.empty) && L.any (wish free x (allP L x)))) := by
  obtain ⟨hn, rfl⟩ := List.getElem?_eq_some_iff.1 hx
  unfold goN
  rw [List.take_succ_eq_append_getElem hn, List.any_append]
  simp
theorem goN_all (I : List Tc.It) (L : List Mem) (free : List ByteArray) : goN I L free I.length = goesP I L free := by unfold goN goesP; rw [List.take_length]
set_option maxRecDepth 100000 in
set_option maxHeartbeats 16000000 in
theorem goes_law (W : World) (least : Bool) (A : Option Addr) (len cap : Nat) (l : List GA) (Af : Option Addr) (lenf capf : Nat) (free : List ByteArray) (hl : l.length = len ∧ SliceIs kGA W A l) (hfr : free.length = lenf ∧ SliceIs kS W Af free) :
    Calls Try.prog 15 #[.bool least, .slice A len cap, .slice Af lenf capf] W fun e w' => e = .returned (.bool true) ∧ Below W.heap.size W w' := by
  obtain ⟨rfl, hfr⟩ := hfr
  have HFREE := Lib.hid hfr
  have hlenf := hfr.len
  unfold maxLen at hlenf
  obtain ⟨rfl, hS⟩ := hl
  have hlen := hS.len
  unfold maxLen at hlen
  have HS := Lib.hid hS
  have HF := Lib.hid (few_any W A cap l 40 (by omega) hS)
  rw [show ((40 : Nat) : Int) = 40 from rfl] at HF
  have HM0 := Lib.hid (show (-9223372036854775808 : Int) ≤ 40 by decide)
  have HM1 := Lib.hid (show (40 : Int) ≤ 9223372036854775807 by decide)
  clear hfr
  generalize hP : (fun (e : Ending) (w' : World) => e = .returned (.bool true) ∧ Below W.heap.size W w') = PP
  have HPP := Lib.hid (show ∀ w', Below W.heap.size W w' → PP (.returned (.bool true)) w' from fun w' h1 => by
    rw [← hP]
    exact ⟨rfl, h1⟩)
  clear hP hS
  obtain ⟨st, hst⟩ : ∃ st : Int, st = if least = true then 4 else 1 := ⟨_, rfl⟩
  have HST := Lib.hid (show st = 1 ∨ st = 4 by rw [hst]; cases least <;> simp)
  have HSTD := Lib.hid hst
  clear hst
  go_enter Try.func15, Try.ntmps15
  go_wp2_with fail
  refine HF.out.mono ?_
  rintro e w1 ⟨⟨fb, rfl, hfb⟩, hb1⟩
  have HFB := Lib.hid hfb
  have HBW := Lib.hid hb1
  have HFF := Lib.hid (PickW.few_any w1 Af capf free (HFREE.out.below hb1))
  clear hfb hb1
  cases fb with
  | false =>
    go_wp2_with fail
    refine (awake_any _).mono ?_
    rintro e wz ⟨rfl, hbz⟩
    have HE := Lib.hid (HPP.out wz (then_below (HBW.out) hbz))
    clear hbz
    go_wp2_with fail
    exact HE.out
  | true =>
    have HFEW := Lib.hid (HFB.out rfl)
    clear HFB
    go_wp2_with fail
    refine HFF.out.mono ?_
    rintro e w1' ⟨⟨gb, rfl, -⟩, hw1'⟩
    subst hw1'
    cases gb with
    | false =>
      go_wp2_with fail
      refine (awake_any _).mono ?_
      rintro e wz ⟨rfl, hbz⟩
      have HE := Lib.hid (HPP.out wz (then_below (HBW.out) hbz))
      clear hbz
      go_wp2_with fail
      exact HE.out
    | true =>
      go_upto_if 33 with (fail)
      go_cut [7] (fun y wx => y = .int .i64 st ∧ w1 = wx)
      case first =>
        have hh := HSTD.out
        cases least with
        | false =>
          rw [if_neg (by decide)] at hh
          subst hh
          go_wp2_with fail
          go_meet
          exact ⟨rfl, rfl⟩
        | true =>
          rw [if_pos rfl] at hh
          subst hh
          go_wp2_with fail
          go_meet
          exact ⟨rfl, rfl⟩
      case rest =>
        obtain ⟨rfl, rfl⟩ := hcut
        have HNEW := Lib.hid (new_any w1 ⟨#[103]⟩ st 40 w1.heap.size (Nat.le_refl _))
        go_wp2_with fail
        refine HNEW.out.mono ?_
        rintro e w2 ⟨rfl, hg2, hb2⟩
        have HL0 := Lib.hid (Lw.new w1 hg2 hb2)
        obtain ⟨g, hgg⟩ : ∃ g, g = w1.heap.size + 1 := ⟨_, rfl⟩
        rw [← hgg] at HL0 ⊢
        clear hg2 hb2 HNEW HF hgg HFF
        go_wp2_with fail
        go_loopw [9] (fun y wr => ∃ (k : Nat) (mv iv : Value) (S : GS), k ≤ l.length ∧ y = .int .i64 k ∧ Lw w1 g w1.heap.size st 40 k wr mv iv S) (fun y _ => l.length - (intOf y).toNat)
        case atStart => exact ⟨0, _, _, _, by omega, rfl, HL0.out⟩
        case round =>
          obtain ⟨k, mv, iv, S, hk, rfl, hlw⟩ := hrel
          have HLW := Lib.hid hlw
          clear hlw HL0
          by_cases hlt : k < l.length
          · obtain ⟨wo, rfl⟩ : ∃ wo, wo = wr := ⟨_, rfl⟩
            obtain ⟨x, hx⟩ : ∃ x, l[k]? = some x := ⟨_, List.getElem?_eq_getElem hlt⟩
            have hbase : Below W.heap.size W wo := HBW.out.trans ((HLW.out.bel).mono HBW.out.size)
            obtain ⟨b, off, hA, hb, hcx, hwf, hps, hfs⟩ := ga_cells (HS.out.below hbase) hx
            obtain ⟨-, -, -, -, -, -, -, hfs0⟩ := ga_cells HS.out hx
            have HFX0 := Lib.hid hfs0
            clear hfs0
            subst hA
            have c0 : wo.cell? ⟨b, off + k * 13, none⟩ = some (.int .i64 x.kind) := hcx 0 _ rfl
            have c1 : wo.cell? ⟨b, off + k * 13 + 1, none⟩ = some (.string x.client) := hcx 1 _ rfl
            have c2 : wo.cell? ⟨b, off + k * 13 + 2, none⟩ = some (.string x.msg.topic) := hcx 2 _ rfl
            have c3 : wo.cell? ⟨b, off + k * 13 + 3, none⟩ = some (.string x.msg.payload) := hcx 3 _ rfl
            have c4 : wo.cell? ⟨b, off + k * 13 + 4, none⟩ = some (.int .i64 x.msg.qos) := hcx 4 _ rfl
            have c5 : wo.cell? ⟨b, off + k * 13 + 5, none⟩ = some (.bool x.msg.retain) := hcx 5 _ rfl
            have c6 : wo.cell? ⟨b, off + k * 13 + 6, none⟩ = some (.slice x.msg.pA x.msg.props.length x.msg.pc) := hcx 6 _ rfl
            have c7 : wo.cell? ⟨b, off + k * 13 + 7, none⟩ = some (.string x.msg.from_) := hcx 7 _ rfl
            have c8 : wo.cell? ⟨b, off + k * 13 + 8, none⟩ = some (.int .i64 x.msg.until_) := hcx 8 _ rfl
            have c9 : wo.cell? ⟨b, off + k * 13 + 9, none⟩ = some (.int .i64 x.msg.seq) := hcx 9 _ rfl
            have c10 : wo.cell? ⟨b, off + k * 13 + 10, none⟩ = some (.string x.msg.group) := hcx 10 _ rfl
            have c11 : wo.cell? ⟨b, off + k * 13 + 11, none⟩ = some (.int .i64 x.n) := hcx 11 _ rfl
            have c12 : wo.cell? ⟨b, off + k * 13 + 12, none⟩ = some (.slice x.fA x.free.length x.fc) := hcx 12 _ rfl
            have hsm : SmallG x := by
              obtain ⟨hk', rfl⟩ := List.getElem?_eq_some_iff.1 hx
              exact HFEW.out.2 k hk'
            have hk40 : k < 40 := by have := HFEW.out.1; omega
            obtain ⟨wB, hwB⟩ : ∃ wB, wB = wo.alloc (.cells #[.int .i64 x.kind, .string x.client, .string x.msg.topic, .string x.msg.payload, .int .i64 x.msg.qos, .bool x.msg.retain, .slice x.msg.pA x.msg.props.length x.msg.pc, .string x.msg.from_, .int .i64 x.msg.until_, .int .i64 x.msg.seq, .string x.msg.group, .int .i64 x.n, .slice x.fA x.free.length x.fc] 81) := ⟨_, rfl⟩
            have hbB : Below wo.heap.size wo wB := by rw [hwB]; exact alloc_below _ _
            have hzB : wB.heap[wo.heap.size]? = some (.cells #[.int .i64 x.kind, .string x.client, .string x.msg.topic, .string x.msg.payload, .int .i64 x.msg.qos, .bool x.msg.retain, .slice x.msg.pA x.msg.props.length x.msg.pc, .string x.msg.from_, .int .i64 x.msg.until_, .int .i64 x.msg.seq, .string x.msg.group, .int .i64 x.n, .slice x.fA x.free.length x.fc] 81 (0, 0)) := by rw [hwB]; exact heap_alloc_new wo _
            obtain ⟨wC, hwC⟩ : ∃ wC, wC = wB.setCell ⟨wo.heap.size, 9, none⟩ (.int .i64 ((k : Int) + 1)) := ⟨_, rfl⟩
            have hzC : wC.heap[wo.heap.size]? = some (.cells #[.int .i64 x.kind, .string x.client, .string x.msg.topic, .string x.msg.payload, .int .i64 x.msg.qos, .bool x.msg.retain, .slice x.msg.pA x.msg.props.length x.msg.pc, .string x.msg.from_, .int .i64 x.msg.until_, .int .i64 ((k : Int) + 1), .string x.msg.group, .int .i64 x.n, .slice x.fA x.free.length x.fc] 81 (0, 0)) := by rw [hwC]; exact set_of hzB 9 _
            have hbC : Below wo.heap.size wo wC := by
              rw [hwC]
              exact (((Tch.of_below (S := []) hbB).setCell (p := ⟨wo.heap.size, 9, none⟩) (.inr (Nat.le_refl _)) _).below (Nat.le_refl _) (by simp))
            have HWB := Lib.hid hwB
            have HWC := Lib.hid hwC.symm
            have HBB := Lib.hid hbB
            have HBC := Lib.hid hbC
            have HZC := Lib.hid hzC
            have HFX := Lib.hid (hfs.below hbC)
            have HLC := Lib.hid (HLW.out.below hbC)
            have HRA := Lib.hid (num_ra (w := wC) (k := k) (by omega) hwf (hps.below hbC) (hfs.below hbC) hsm)
            have HK40 := Lib.hid hk40
            have HBASE := Lib.hid hbase
            have e0 : wB.cell? ⟨wo.heap.size, 0, none⟩ = some (.int .i64 x.kind) := cell_of hzB rfl
            have e1 : wB.cell? ⟨wo.heap.size, 1, none⟩ = some (.string x.client) := cell_of hzB rfl
            have e2 : wB.cell? ⟨wo.heap.size, 2, none⟩ = some (.string x.msg.topic) := cell_of hzB rfl
            have e3 : wB.cell? ⟨wo.heap.size, 3, none⟩ = some (.string x.msg.payload) := cell_of hzB rfl
            have e4 : wB.cell? ⟨wo.heap.size, 4, none⟩ = some (.int .i64 x.msg.qos) := cell_of hzB rfl
            have e5 : wB.cell? ⟨wo.heap.size, 5, none⟩ = some (.bool x.msg.retain) := cell_of hzB rfl
            have e6 : wB.cell? ⟨wo.heap.size, 6, none⟩ = some (.slice x.msg.pA x.msg.props.length x.msg.pc) := cell_of hzB rfl
            have e7 : wB.cell? ⟨wo.heap.size, 7, none⟩ = some (.string x.msg.from_) := cell_of hzB rfl
            have e8 : wB.cell? ⟨wo.heap.size, 8, none⟩ = some (.int .i64 x.msg.until_) := cell_of hzB rfl
            have e9 : wB.cell? ⟨wo.heap.size, 9, none⟩ = some (.int .i64 x.msg.seq) := cell_of hzB rfl
            have e10 : wB.cell? ⟨wo.heap.size, 10, none⟩ = some (.string x.msg.group) := cell_of hzB rfl
            have e11 : wB.cell? ⟨wo.heap.size, 11, none⟩ = some (.int .i64 x.n) := cell_of hzB rfl
            have e12 : wB.cell? ⟨wo.heap.size, 12, none⟩ = some (.slice x.fA x.free.length x.fc) := cell_of hzB rfl
            have f9 := free_of hzB 9
            have HZB := Lib.hid hzB
            have HFB := Lib.hid (hfs.below hbB)
            clear hx hbase hb hcx hwf hps hfs hsm hwB hbB hzB hwC hzC hbC
            go_upto_region 11 with (fail)
            rw [← HWB.out]
            by_cases hc : x.client = ByteArray.empty
            · rw [hc] at e1
              clear hc
              go_wp2_with fail
              refine (awake_any _).mono ?_
              rintro e wz ⟨rfl, hbz⟩
              have HE := Lib.hid (HPP.out wz (then_below (then_below HBASE.out HBB.out) hbz))
              clear hbz
              go_wp2_with fail
              exact HE.out
            · obtain ⟨a1, a2⟩ := ne_empty hc
              clear hc
              go_upto_region 14 with (fail)
              rw [HWC.out]
              clear HWC HWB c0 c1 c2 c3 c4 c5 c6 c7 c8 c9 c10 c11 c12 e0 e1 e2 e3 e4 e5 e6 e7 e8 e9 e10 e11 e12 f9
              have e0 : wC.cell? ⟨wo.heap.size, 0, none⟩ = some (.int .i64 x.kind) := cell_of HZC.out rfl
              have e1 : wC.cell? ⟨wo.heap.size, 1, none⟩ = some (.string x.client) := cell_of HZC.out rfl
              have e2 : wC.cell? ⟨wo.heap.size, 2, none⟩ = some (.string x.msg.topic) := cell_of HZC.out rfl
              have e3 : wC.cell? ⟨wo.heap.size, 3, none⟩ = some (.string x.msg.payload) := cell_of HZC.out rfl
              have e4 : wC.cell? ⟨wo.heap.size, 4, none⟩ = some (.int .i64 x.msg.qos) := cell_of HZC.out rfl
              have e5 : wC.cell? ⟨wo.heap.size, 5, none⟩ = some (.bool x.msg.retain) := cell_of HZC.out rfl
              have e6 : wC.cell? ⟨wo.heap.size, 6, none⟩ = some (.slice x.msg.pA x.msg.props.length x.msg.pc) := cell_of HZC.out rfl
              have e7 : wC.cell? ⟨wo.heap.size, 7, none⟩ = some (.string x.msg.from_) := cell_of HZC.out rfl
              have e8 : wC.cell? ⟨wo.heap.size, 8, none⟩ = some (.int .i64 x.msg.until_) := cell_of HZC.out rfl
              have e9 : wC.cell? ⟨wo.heap.size, 9, none⟩ = some (.int .i64 ((k : Int) + 1)) := cell_of HZC.out rfl
              have e10 : wC.cell? ⟨wo.heap.size, 10, none⟩ = some (.string x.msg.group) := cell_of HZC.out rfl
              have e11 : wC.cell? ⟨wo.heap.size, 11, none⟩ = some (.int .i64 x.n) := cell_of HZC.out rfl
              have e12 : wC.cell? ⟨wo.heap.size, 12, none⟩ = some (.slice x.fA x.free.length x.fc) := cell_of HZC.out rfl
              have HRUN := Lib.hid (run_any HLC.out.gp k (by have := HK40.out; omega) HLC.out.iv_ (by rw [HLC.out.most_]; exact HM0.out) (by rw [HLC.out.most_]; exact HM1.out) (num x k) HRA.out (num_seq x k))
              unfold GA.val num at HRUN
              dsimp only at HRUN
              go_wp2_with fail
              refine HRUN.out.mono ?_
              rintro e w5 ⟨m, s, ok, mv5, iv5, S5, rfl, hg5, hf5, hst5, hln5, hok5⟩
              have HL5 := Lib.hid (HLC.out.step hg5 hf5 hst5)
              have HX5 := Lib.hid ((hf5.block _ (lt_of_block HZC.out) (.inr (not_mut HZC.out (by decide) (by decide) (by decide) (by decide)))).trans HZC.out)
              have HLN5 := Lib.hid hln5
              have HOK5 := Lib.hid hok5
              clear hg5 hf5 hst5 hln5 hok5 e0 e1 e2 e3 e4 e5 e6 e7 e8 e9 e10 e11 e12
              obtain ⟨W6, hW6⟩ : ∃ W6, W6 = w5.alloc (.cells #[.string m.topic, .string m.payload, .int .i64 m.qos, .bool m.retain, .slice m.pA m.props.length m.pc, .string m.from_, .int .i64 m.until_, .int .i64 m.seq, .string m.group] 43) := ⟨_, rfl⟩
              have hb6 : Below w5.heap.size w5 W6 := by rw [hW6]; exact alloc_below _ _
              have hz6 : W6.heap[w5.heap.size]? = some (.cells #[.string m.topic, .string m.payload, .int .i64 m.qos, .bool m.retain, .slice m.pA m.props.length m.pc, .string m.from_, .int .i64 m.until_, .int .i64 m.seq, .string m.group] 43 (0, 0)) := by rw [hW6]; exact heap_alloc_new w5 _
              have m7 : W6.cell? ⟨w5.heap.size, 7, none⟩ = some (.int .i64 m.seq) := cell_of hz6 rfl
              have x6 := (hb6.block _ (lt_of_block HX5.out)).trans HX5.out
              have y12 : W6.cell? ⟨wo.heap.size, 12, none⟩ = some (.slice x.fA x.free.length x.fc) := cell_of x6 rfl
              have HL6 := Lib.hid (HL5.out.below hb6)
              have HW6 := Lib.hid hW6
              clear hW6 hb6 hz6 x6
              unfold Mg.val
              go_upto_region 15 with (fail)
              rw [← HW6.out]
              clear HW6
              cases ok with
              | false =>
                go_wp2_with fail
                go_roundw
                case rel => exact ⟨k + 1, _, _, _, by omega, by go_num, HL6.out⟩
                case measure => simp [intOf]; omega
              | true =>
                obtain ⟨i, x', hn, hx', hms, hs⟩ := HOK5.out rfl
                obtain ⟨y', hy', -, hw'⟩ := next_some hn
                have he' := hx'.symm.trans hy'
                injection he' with he'
                subst he'
                obtain ⟨-, h3, -⟩ := whom_ok HL6.out.iv_.conn hw'
                rw [← hs] at h3
                have HSENT := Lib.hid (sent_any HL6.out.gp m.seq s (name_small HL6.out.iv_ h3))
                generalize (sentAt S5 m.seq s).isSome = bb at *
                clear hn hx' hms hs hy' hw' h3
                go_wp2_with fail
                refine HSENT.out.mono ?_
                rintro e w7 ⟨mv7, iv7, rfl, hg7, hf7⟩
                have HL7 := Lib.hid (HL6.out.sent hg7 hf7)
                clear hg7 hf7
                go_wp2_with fail
                go_roundw
                case rel => exact ⟨k + 1, _, _, _, by omega, by go_num, HL7.out⟩
                case measure => simp [intOf]; omega
          · obtain rfl : k = l.length := by omega
            obtain ⟨w3, rfl⟩ : ∃ w3, w3 = wr := ⟨_, rfl⟩
            have hk40 : l.length ≤ 40 := HFEW.out.1
            have HIT := Lib.hid (items_any HLW.out.gp (by have := HLW.out.iv_.il; omega))
            go_wp2_with fail
            refine HIT.out.mono ?_
            rintro e w8 ⟨⟨v8, rfl, ho8, -⟩, hb8⟩
            have HL8 := Lib.hid (HLW.out.below hb8)
            obtain ⟨Ai, ci, hv8, hsi⟩ := (show OwnIt w8 w8 v8 S.I from ⟨ho8, fun z hz => (HL8.out.gp.each z hz).led⟩).form (Below.refl _ _)
            subst hv8
            have HSI := Lib.hid hsi
            have HMB := Lib.hid (members_any HL8.out.gp (by have := HL8.out.iv_.ll; omega))
            clear ho8 hb8 hsi HIT
            go_wp2_with fail
            refine HMB.out.mono ?_
            rintro e w9 ⟨⟨v9, rfl, hr9⟩, hb9⟩
            obtain ⟨Am, cm, hv9, hsm⟩ := hr9.form
            subst hv9
            have HL9 := Lib.hid (HL8.out.below hb9)
            have HSI9 := Lib.hid (HSI.out.below hb9)
            have HSM9 := Lib.hid hsm
            have HFR9 := Lib.hid (HFREE.out.below (then_below HBW.out HL9.out.bel))
            have hil : S.I.length < 1000000 := by have := HL9.out.iv_.il; omega
            have hll : S.L.length < 1000000 := by have := HL9.out.iv_.ll; omega
            clear hr9 hb9 hsm HMB HSI HL8 HLW
            go_wp2_with fail
            go_loopw [14, 17] (fun f y wr => ∃ j : Nat, j ≤ S.I.length ∧ f = .bool (goN S.I S.L free j) ∧ y = .int .i64 j ∧ Dr w9 wr) (fun _ y _ => S.I.length - (intOf y).toNat)
            case atStart => exact ⟨0, by omega, rfl, rfl, dr_refl _⟩
            case round =>
              obtain ⟨j, hj, rfl, rfl, hD⟩ := hrel
              obtain ⟨wi, rfl⟩ : ∃ wi, wi = wr := ⟨_, rfl⟩
              have HD := Lib.hid hD
              by_cases hjl : j < S.I.length
              · skip
                obtain ⟨z, hz⟩ : ∃ z, S.I[j]? = some z := ⟨_, List.getElem?_eq_getElem hjl⟩
                obtain ⟨bi, oi, rfl, -, hcz, -, -, hbz⟩ := item_cells (HSI9.out.below hD.below) hz
                have HGS := Lib.hid (goN_succ S.L free hz)
                have HBZ := Lib.hid hbz
                have Z9 := Lib.hid hcz.c9
                have Z10 := Lib.hid hcz.c10
                clear hz hcz hbz hD
                go_upto_block 4 with (fail)
                go_cut [18, 19] (fun f _ wx => f = .bool (allP S.L z) ∧ Dr wi wx)
                case first =>
                  go_wp2_with fail
                  go_loopw [18, 19] (fun f y wr => ∃ n : Nat, n ≤ S.L.length ∧ f = .bool (alN S.L z n) ∧ y = .int .i64 n ∧ Dr wi wr) (fun _ y _ => S.L.length - (intOf y).toNat)
                  case atStart => exact ⟨0, by omega, rfl, rfl, dr_refl _⟩
                  case round =>
                    obtain ⟨n, hn, rfl, rfl, hD2⟩ := hrel
                    have HD2 := Lib.hid hD2
                    by_cases hnl : n < S.L.length
                    · obtain ⟨mm, hmm⟩ : ∃ mm, S.L[n]? = some mm := ⟨_, List.getElem?_eq_getElem hnl⟩
                      obtain ⟨bm, om, hAm, -, m0, -, -, m3, -⟩ := MemW.mem_cells (HSM9.out.below (then_below HD.out.below hD2.below)) hmm
                      have z10 := (Same.of_below hD2.below).cell Z10.out
                      have HSU := Lib.hid (alN_succ z hmm)
                      have HC := Lib.hid (fun V (hd : Dr wr V) => PickW.in_any V z.bA z.bc z.behind (HBZ.out.below (then_below hD2.below hd.below)) mm.client)
                      subst hAm
                      have d0 := fun q : Wd (Dr wr) => q.cellD m0
                      have d3 := fun q : Wd (Dr wr) => q.cellD m3
                      have d10 := fun q : Wd (Dr wr) => q.cellD z10
                      clear hmm m0 m3 z10 hD2
                      generalize alN S.L z n = fl at *
                      cases fl with
                      | false =>
                        rw [Bool.false_and] at HSU
                        go_wp2
                        refine wp_region_cls (Dr wr) (dr_drew wr) (by kernel_rfl) (by kernel_rfl) ?_
                        repeat (go_big_quiet_step ((go_at_call 29; exact cls_same (HC.out _ (Wd.ok _)))))
                        refine wpQuiet_nil ?_
                        rintro _ ⟨⟨wq, hq⟩, rfl⟩
                        have HDQ := Lib.hid (Dr.trans HD2.out hq)
                        clear hq d0 d3 d10
                        go_wp2
                        go_roundw
                        case rel => exact ⟨n + 1, by omega, by rw [HSU.out], by go_num, HDQ.out⟩
                        case measure => simp [intOf]; omega
                      | true =>
                        rw [Bool.true_and] at HSU
                        generalize mm.online = on at *
                        cases on with
                        | false =>
                          rw [Bool.not_false, Bool.true_or] at HSU
                          go_wp2
                          refine wp_region_cls (Dr wr) (dr_drew wr) (by kernel_rfl) (by kernel_rfl) ?_
                          repeat (go_big_quiet_step ((go_at_call 29; exact cls_same (HC.out _ (Wd.ok _)))))
                          refine wpQuiet_nil ?_
                          rintro _ ⟨⟨wq, hq⟩, rfl⟩
                          have HDQ := Lib.hid (Dr.trans HD2.out hq)
                          clear hq d0 d3 d10
                          go_wp2
                          go_roundw
                          case rel => exact ⟨n + 1, by omega, by rw [HSU.out], by go_num, HDQ.out⟩
                          case measure => simp [intOf]; omega
                        | true =>
                          rw [Bool.not_true, Bool.false_or] at HSU
                          generalize has z.behind mm.client = hb at *
                          cases hb with
                          | false =>
                            go_wp2
                            refine wp_region_cls (Dr wr) (dr_drew wr) (by kernel_rfl) (by kernel_rfl) ?_
                            repeat (go_big_quiet_step ((go_at_call 29; exact cls_same (HC.out _ (Wd.ok _)))))
                            refine wpQuiet_nil ?_
                            rintro _ ⟨⟨wq, hq⟩, rfl⟩
                            have HDQ := Lib.hid (Dr.trans HD2.out hq)
                            clear hq d0 d3 d10
                            go_wp2
                            go_roundw
                            case rel => exact ⟨n + 1, by omega, by rw [HSU.out], by go_num, HDQ.out⟩
                            case measure => simp [intOf]; omega
                          | true =>
                            go_wp2
                            refine wp_region_cls (Dr wr) (dr_drew wr) (by kernel_rfl) (by kernel_rfl) ?_
                            repeat (go_big_quiet_step ((go_at_call 29; exact cls_same (HC.out _ (Wd.ok _)))))
                            refine wpQuiet_nil ?_
                            rintro _ ⟨⟨wq, hq⟩, rfl⟩
                            have HDQ := Lib.hid (Dr.trans HD2.out hq)
                            clear hq d0 d3 d10
                            go_wp2
                            go_roundw
                            case rel => exact ⟨n + 1, by omega, by rw [HSU.out], by go_num, HDQ.out⟩
                            case measure => simp [intOf]; omega
                    · obtain rfl : n = S.L.length := by omega
                      rw [alN_all]
                      clear hD2
                      go_wp2_with fail
                      go_meet
                      exact ⟨rfl, HD2.out⟩
                case rest =>
                  obtain ⟨rfl, hD3⟩ := hcut
                  have HD3 := Lib.hid hD3
                  have HAL := Lib.hid (show ∀ b, (decide (z.at_ = ByteArray.empty) && S.L.any (wish free z (allP S.L z))) = b → goN S.I S.L free (j + 1) = (goN S.I S.L free j || b) from fun b hb => by rw [HGS.out, hb])
                  clear hD3
                  obtain ⟨wk, rfl⟩ : ∃ wk, wk = wc := ⟨_, rfl⟩
                  have z9k := (Same.of_below HD3.out.below).cell Z9.out
                  have Z9K := Lib.hid z9k
                  generalize hall : allP S.L z = al at *
                  generalize hbase : goN S.I S.L free j = bs at *
                  clear hall hbase
                  by_cases ha : z.at_ = ByteArray.empty
                  · rw [decide_eq_true ha] at HAL
                    rw [ha] at Z9K
                    clear ha z9k
                    go_wp2_with fail
                    go_loopw [14, 20] (fun f y wr => ∃ n : Nat, n ≤ S.L.length ∧ f = .bool (bs || wsN free S.L z al n) ∧ y = .int .i64 n ∧ Dr wk wr) (fun _ y _ => S.L.length - (intOf y).toNat)
                    case atStart => exact ⟨0, by omega, by simp [wsN], rfl, dr_refl _⟩
                    case round =>
                      obtain ⟨n, hn, rfl, rfl, hD4⟩ := hrel
                      have HD4 := Lib.hid hD4
                      have z9 := (Same.of_below hD4.below).cell Z9K.out
                      by_cases hnl : n < S.L.length
                      · obtain ⟨mm, hmm⟩ : ∃ mm, S.L[n]? = some mm := ⟨_, List.getElem?_eq_getElem hnl⟩
                        have hbk : Below w9.heap.size w9 wr := then_below (then_below HD.out.below HD3.out.below) hD4.below
                        obtain ⟨bm, om, hAm, -, m0, -, -, m3, -⟩ := MemW.mem_cells (HSM9.out.below hbk) hmm
                        have hbi : Below wi.heap.size wi wr := then_below HD3.out.below hD4.below
                        have z10 := (Same.of_below hbi).cell Z10.out
                        have HSU := Lib.hid (wsN_succ free z al hmm)
                        have HC := Lib.hid (fun V (hd : Dr wr V) => PickW.in_any V z.bA z.bc z.behind (HBZ.out.below (then_below hbi hd.below)) mm.client)
                        have HG := Lib.hid (fun V (hd : Dr wr V) => PickW.in_any V Af capf free (HFR9.out.below (then_below hbk hd.below)) mm.client)
                        subst hAm
                        have d0 := fun q : Wd (Dr wr) => q.cellD m0
                        have d3 := fun q : Wd (Dr wr) => q.cellD m3
                        have d10 := fun q : Wd (Dr wr) => q.cellD z10
                        unfold wish at HSU
                        clear hmm m0 m3 z10 hD4 hbk hbi
                        generalize wsN free S.L z al n = ws at *
                        generalize mm.online = on at *
                        generalize has free mm.client = hf at *
                        generalize has z.behind mm.client = hb at *
                        go_upto_region 30 with (fail)
                        clear z9
                        cases hcs : (bs || ws) with
                        | true =>
                          have HSV := Lib.hid (show (bs || wsN free S.L z al (n + 1)) = true by rw [HSU.out, ← Bool.or_assoc, hcs]; rfl)
                          clear hcs
                          refine wp_region_cls (Dr wr) (dr_drew wr) (by kernel_rfl) (by kernel_rfl) ?_
                          repeat (go_big_quiet_step ((go_at_call 29; first | exact cls_same (HG.out _ (Wd.ok _)) | exact cls_same (HC.out _ (Wd.ok _)))))
                          refine wpQuiet_nil ?_
                          rintro _ ⟨⟨wq, hq⟩, rfl⟩
                          have HDQ := Lib.hid (Dr.trans HD4.out hq)
                          clear hq d0 d3 d10
                          go_wp2
                          go_roundw
                          case rel => exact ⟨n + 1, by omega, by first | (rw [HSV.out]; done) | (rw [HSV.out]; rfl), by go_num, HDQ.out⟩
                          case measure => simp [intOf]; omega
                        | false =>
                          have HSV := Lib.hid (show (bs || wsN free S.L z al (n + 1)) = ((on && hf) && (al || !hb)) by rw [HSU.out, ← Bool.or_assoc, hcs, Bool.false_or])
                          clear hcs
                          cases on with
                          | false =>
                            refine wp_region_cls (Dr wr) (dr_drew wr) (by kernel_rfl) (by kernel_rfl) ?_
                            repeat (go_big_quiet_step ((go_at_call 29; first | exact cls_same (HG.out _ (Wd.ok _)) | exact cls_same (HC.out _ (Wd.ok _)))))
                            refine wpQuiet_nil ?_
                            rintro _ ⟨⟨wq, hq⟩, rfl⟩
                            have HDQ := Lib.hid (Dr.trans HD4.out hq)
                            clear hq d0 d3 d10
                            go_wp2
                            go_roundw
                            case rel => exact ⟨n + 1, by omega, by first | (rw [HSV.out]; done) | (rw [HSV.out]; rfl), by go_num, HDQ.out⟩
                            case measure => simp [intOf]; omega
                          | true =>
                            cases hf with
                            | false =>
                              refine wp_region_cls (Dr wr) (dr_drew wr) (by kernel_rfl) (by kernel_rfl) ?_
                              repeat (go_big_quiet_step ((go_at_call 29; first | exact cls_same (HG.out _ (Wd.ok _)) | exact cls_same (HC.out _ (Wd.ok _)))))
                              refine wpQuiet_nil ?_
                              rintro _ ⟨⟨wq, hq⟩, rfl⟩
                              have HDQ := Lib.hid (Dr.trans HD4.out hq)
                              clear hq d0 d3 d10
                              go_wp2
                              go_roundw
                              case rel => exact ⟨n + 1, by omega, by first | (rw [HSV.out]; done) | (rw [HSV.out]; rfl), by go_num, HDQ.out⟩
                              case measure => simp [intOf]; omega
                            | true =>
                              cases al with
                              | true =>
                                refine wp_region_cls (Dr wr) (dr_drew wr) (by kernel_rfl) (by kernel_rfl) ?_
                                repeat (go_big_quiet_step ((go_at_call 29; first | exact cls_same (HG.out _ (Wd.ok _)) | exact cls_same (HC.out _ (Wd.ok _)))))
                                refine wpQuiet_nil ?_
                                rintro _ ⟨⟨wq, hq⟩, rfl⟩
                                have HDQ := Lib.hid (Dr.trans HD4.out hq)
                                clear hq d0 d3 d10
                                go_wp2
                                go_roundw
                                case rel => exact ⟨n + 1, by omega, by first | (rw [HSV.out]; done) | (rw [HSV.out]; rfl), by go_num, HDQ.out⟩
                                case measure => simp [intOf]; omega
                              | false =>
                                cases hb with
                                | false =>
                                  have HGD := Lib.hid (HG.out wr.drew (dr_drew wr))
                                  have HCD := Lib.hid (HC.out wr.drew (dr_drew wr))
                                  have HDD := Lib.hid (dr_drew wr)
                                  refine wp_region_G (n := 35) (Dr wr) rfl (by kernel_rfl) (dr_drew wr) (fun hS => ?_)
                                  refine wpAnyG_seg (fuel := 21) [0, 1, 2, 3, 4, 5, 6, 7, 8, 9, 10, 11, 12, 13] rfl rfl (by kernel_rfl) (fun _ _ d _ _ h => by cases d <;> exact h) hS ?_
                                  repeat (go_big_quiet_step (fail))
                                  refine wpQuiet_nil ?_
                                  refine wpAnyG_alone (fuel := 20) 14 (by kernel_rfl) rfl hS (fun K hK => ?_)
                                  go_simp
                                  refine HGD.out.mono ?_
                                  rintro e w5 ⟨rfl, hw5⟩
                                  subst hw5
                                  go_wp2_with fail
                                  refine hK.out (Dr wr) _ _ (fun _ h => h) HDD.out (fun hS => ?_)
                                  clear hK K
                                  refine wpAnyG_seg (fuel := 6) [15, 16, 17, 18, 19, 20, 21, 22, 23, 24, 25, 26, 27, 28] rfl rfl (by kernel_rfl) (fun _ _ d _ _ h => by cases d <;> exact h) hS ?_
                                  repeat (go_big_quiet_step (fail))
                                  refine wpQuiet_nil ?_
                                  refine wpAnyG_alone (fuel := 5) 29 (by kernel_rfl) rfl hS (fun K hK => ?_)
                                  go_simp
                                  refine HCD.out.mono ?_
                                  rintro e w5 ⟨rfl, hw5⟩
                                  subst hw5
                                  go_wp2_with fail
                                  refine hK.out (Dr wr) _ _ (fun _ h => h) HDD.out (fun hS => ?_)
                                  clear hK K
                                  refine wpAnyG_seg (fuel := 0) [30, 31, 32, 33, 34] rfl rfl (by kernel_rfl) (fun _ _ d _ _ h => by cases d <;> exact h) hS ?_
                                  repeat (go_big_quiet_step (fail))
                                  refine wpQuiet_nil ?_
                                  refine wpAnyG_end (by kernel_rfl) ?_
                                  have HDQ := Lib.hid (Dr.trans HD4.out HDD.out)
                                  clear d0 d3 d10
                                  go_wp2
                                  go_roundw
                                  case rel => exact ⟨n + 1, by omega, by first | (rw [HSV.out]; done) | (rw [HSV.out]; rfl), by go_num, HDQ.out⟩
                                  case measure => simp [intOf]; omega
                                | true =>
                                  have HGD := Lib.hid (HG.out wr.drew (dr_drew wr))
                                  have HCD := Lib.hid (HC.out wr.drew (dr_drew wr))
                                  have HDD := Lib.hid (dr_drew wr)
                                  refine wp_region_G (n := 35) (Dr wr) rfl (by kernel_rfl) (dr_drew wr) (fun hS => ?_)
                                  refine wpAnyG_seg (fuel := 21) [0, 1, 2, 3, 4, 5, 6, 7, 8, 9, 10, 11, 12, 13] rfl rfl (by kernel_rfl) (fun _ _ d _ _ h => by cases d <;> exact h) hS ?_
                                  repeat (go_big_quiet_step (fail))
                                  refine wpQuiet_nil ?_
                                  refine wpAnyG_alone (fuel := 20) 14 (by kernel_rfl) rfl hS (fun K hK => ?_)
                                  go_simp
                                  refine HGD.out.mono ?_
                                  rintro e w5 ⟨rfl, hw5⟩
                                  subst hw5
                                  go_wp2_with fail
                                  refine hK.out (Dr wr) _ _ (fun _ h => h) HDD.out (fun hS => ?_)
                                  clear hK K
                                  refine wpAnyG_seg (fuel := 6) [15, 16, 17, 18, 19, 20, 21, 22, 23, 24, 25, 26, 27, 28] rfl rfl (by kernel_rfl) (fun _ _ d _ _ h => by cases d <;> exact h) hS ?_
                                  repeat (go_big_quiet_step (fail))
                                  refine wpQuiet_nil ?_
                                  refine wpAnyG_alone (fuel := 5) 29 (by kernel_rfl) rfl hS (fun K hK => ?_)
                                  go_simp
                                  refine HCD.out.mono ?_
                                  rintro e w5 ⟨rfl, hw5⟩
                                  subst hw5
                                  go_wp2_with fail
                                  refine hK.out (Dr wr) _ _ (fun _ h => h) HDD.out (fun hS => ?_)
                                  clear hK K
                                  refine wpAnyG_seg (fuel := 0) [30, 31, 32, 33, 34] rfl rfl (by kernel_rfl) (fun _ _ d _ _ h => by cases d <;> exact h) hS ?_
                                  repeat (go_big_quiet_step (fail))
                                  refine wpQuiet_nil ?_
                                  refine wpAnyG_end (by kernel_rfl) ?_
                                  have HDQ := Lib.hid (Dr.trans HD4.out HDD.out)
                                  clear d0 d3 d10
                                  go_wp2
                                  go_roundw
                                  case rel => exact ⟨n + 1, by omega, by first | (rw [HSV.out]; done) | (rw [HSV.out]; rfl), by go_num, HDQ.out⟩
                                  case measure => simp [intOf]; omega
                      · obtain rfl : n = S.L.length := by omega
                        have HAE := Lib.hid (HAL.out _ rfl)
                        rw [wsN_all]
                        rw [Bool.true_and] at HAE
                        clear hD4
                        go_wp2_with fail
                        go_roundw
                        case rel => exact ⟨j + 1, by omega, by rw [HAE.out], by go_num, Dr.trans (Dr.trans HD.out HD3.out) HD4.out⟩
                        case measure => simp [intOf]; omega
                  · obtain ⟨a1, a2⟩ := ne_empty ha
                    rw [decide_eq_false ha, Bool.false_and] at HAL
                    have HAE := Lib.hid (HAL.out _ rfl)
                    rw [Bool.or_false] at HAE
                    clear ha
                    go_wp2_with fail
                    go_loopw [14, 20] (fun f y wr => f = .bool bs ∧ y = .int .i64 0 ∧ wk = wr) (fun _ y _ => S.L.length - (intOf y).toNat)
                    case atStart => exact ⟨rfl, rfl, rfl⟩
                    case round =>
                      obtain ⟨rfl, rfl, rfl⟩ := hrel
                      by_cases hl0 : S.L.length = 0
                      · go_wp2_with fail
                        go_roundw
                        case rel => exact ⟨j + 1, by omega, by rw [HAE.out], by go_num, Dr.trans HD.out HD3.out⟩
                        case measure => simp [intOf]; omega
                      · have hl1 : (0 : Int) < S.L.length := by omega
                        go_wp2_with fail
                        go_roundw
                        case rel => exact ⟨j + 1, by omega, by rw [HAE.out], by go_num, Dr.trans HD.out HD3.out⟩
                        case measure => simp [intOf]; omega
              · obtain rfl : j = S.I.length := by omega
                have HLE := Lib.hid (HL9.out.below hD.below)
                have hfe := HFR9.out.below hD.below
                have HX := Lib.hid (next_any HLE.out.gp (by omega) (by omega) HLE.out.iv_.names (fun x hx => ⟨(HLE.out.iv_.szs x hx).topic, (HLE.out.iv_.szs x hx).from_, (HLE.out.iv_.szs x hx).props⟩) Af capf free hfe)
                have HFE := Lib.hid hfe
                have HOK := Lib.hid (show (tellP S free).2 = goN S.I S.L free S.I.length by rw [tell_ok, next_goes (by rw [HLE.out.st_]; exact HST.out), goN_all])
                have HHS := Lib.hid (fun h => tell_has HLE.out.iv_ (free := free) h)
                unfold NPost at HX
                generalize goN S.I S.L free S.I.length = gg at *
                generalize tellP S free = r at *
                obtain ⟨s, ok⟩ := r
                dsimp only at HX HOK HHS
                clear hD hfe
                go_wp2_with fail
                refine HX.out.mono ?_
                rintro e w10 ⟨⟨m, rfl, -⟩, hb10⟩
                have HBA := Lib.hid (then_below (HLE.out.bel) hb10)
                have hok := HOK.out
                subst hok
                unfold Mg.val
                have HB11 := Lib.hid (then_below hb10 (alloc_below w10 (.cells #[.string m.topic, .string m.payload, .int .i64 m.qos, .bool m.retain, .slice m.pA m.props.length m.pc, .string m.from_, .int .i64 m.until_, .int .i64 m.seq, .string m.group] 43)))
                have HFE2 := Lib.hid (HFE.out.below HB11.out)
                have HBZ2 := Lib.hid (then_below HBW.out (then_below HLE.out.bel HB11.out))
                clear hb10
                cases ok with
                | false =>
                  go_wp2_with fail
                  refine (awake_any _).mono ?_
                  rintro e wz ⟨rfl, hbz⟩
                  have HE := Lib.hid (HPP.out wz (then_below HBZ2.out hbz))
                  clear hbz
                  go_wp2_with fail
                  exact HE.out
                | true =>
                  have HIN := Lib.hid (PickW.in_any _ Af capf free HFE2.out s)
                  rw [HHS.out rfl] at HIN
                  go_wp2_with fail
                  refine HIN.out.mono ?_
                  rintro e w12 ⟨rfl, hw12⟩
                  have HBZ3 := Lib.hid (show Below W.heap.size W w12 by rw [← hw12]; exact HBZ2.out)
                  clear hw12
                  go_wp2_with fail
                  refine (awake_any _).mono ?_
                  rintro e wz ⟨rfl, hbz⟩
                  have HE := Lib.hid (HPP.out wz (then_below HBZ3.out hbz))
                  clear hbz
                  go_wp2_with fail
                  exact HE.out
end Go.Proofs.Ytclhgnlhejohgaa.GrpW
