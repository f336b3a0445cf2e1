/- MemberCounts. -/
import Derived.Test.YtclhgnlhejohgaaMemE
set_option linter.unusedVariables false
set_option linter.unusedSimpArgs false
namespace Go.Proofs.Ytclhgnlhejohgaa.MemW
open Go.RowKit Go.Proofs.Ytclhgnlhejohgaa.Tc Go.Proofs.Ytclhgnlhejohgaa.MemP
open Go.Proofs.Ytclhgnlhejohgaa.PickW (OwnS Newer kS kI cells9 str_cell strs_new alloc_below)

theorem awake_end {w wr : World} (HB : Below w.heap.size w wr) : Calls Try.prog 44 #[] wr fun e w' => e = .returned (.bool true) ∧ Below w.heap.size w w' :=
  (awake_any wr).mono fun _ _ ⟨he, hb⟩ => ⟨he, HB.trans (hb.mono HB.size)⟩
set_option maxRecDepth 100000 in
set_option maxHeartbeats 4000000 in
theorem counts_law (w : World) (A : Option Addr) (la ca : Nat) (l : List Act_) (hA : l.length = la ∧ SliceIs kAct w A l) :
    Calls Try.prog 12 #[.slice A la ca] w fun e w' => e = .returned (.bool true) ∧ Below w.heap.size w w' := by
  obtain ⟨rfl, hA⟩ := hA
  have HA := Lib.hid hA
  have HFA := Lib.hid (few_any w A ca l hA)
  have HW := Lib.hid (awake_end (Below.refl w.heap.size w))
  have HM := Lib.hid (St.made w w (Below.refl _ _))
  clear hA
  go_enter Try.func12, Try.ntmps12
  go_wp2_with fail
  refine HFA.out.mono ?_
  rintro e w1 ⟨⟨fa, rfl, hfa⟩, rfl⟩
  have HFEW := Lib.hid hfa
  clear hfa HFA
  cases fa with
  | false =>
    go_wp2_with fail
    refine HW.out.mono ?_
    rintro e w2 ⟨rfl, hb⟩
    have HB := Lib.hid hb
    clear hb
    go_wp2_with fail
    go_ret
    exact ⟨rfl, HB.out⟩
  | true =>
    obtain ⟨h60, hsz⟩ := HFEW.out rfl
    have HSZ := Lib.hid hsz
    clear hsz HFEW HW
    go_wp2_with fail
    go_loopw [4, 5] (fun y x wr => ∃ (k : Nat) (v : Value) (ms : List Mem) (gen : Int), k ≤ l.length ∧ x = .int .i64 k ∧ y = .int .i64 gen ∧ 0 ≤ gen ∧ gen ≤ k ∧ ms.length ≤ k ∧ MemP.Inv ms gen ∧ St w wr w.heap.size v ms gen) (fun _ x _ => l.length - (intOf x).toNat)
    case atStart => exact ⟨0, _, _, 0, by omega, rfl, rfl, by omega, by omega, by simp, MemP.Inv.nil, HM.out⟩
    case round =>
      obtain ⟨k, v, ms, gen, hk, rfl, rfl, hg0, hg1, hms, hinv, hst⟩ := hrel
      have HST := Lib.hid hst
      have HINV := Lib.hid hinv
      clear hinv
      by_cases hlt : k < l.length
      · obtain ⟨x, hx⟩ : ∃ x, l[k]? = some x := ⟨_, List.getElem?_eq_getElem hlt⟩
        obtain ⟨b, off, rfl, hb, c0, c1, c2, hq⟩ := act_cells (HA.out.below hst.bel) hx
        have hcs : x.client.size ≤ 100 := by
          have := HSZ.out k hlt
          rw [List.getElem?_eq_getElem hlt] at hx
          injection hx with hx
          rw [hx] at this
          exact this
        have HD := Lib.hid (do_any wr _ v ms gen hst.at_ (by omega) hg0 (by omega) x.kind x.client (by unfold maxLen; omega) x.qos hq)
        have HI2 := Lib.hid (act_inv HINV.out x.kind x.client x.qos)
        have HG2 := Lib.hid (act_gen ms gen x.kind x.client x.qos)
        have HL2 := Lib.hid (act_len ms gen x.kind x.client x.qos)
        clear hx hb hq hcs hst
        generalize act ms gen x.kind x.client x.qos = r at *
        obtain ⟨rb, ms2, gen2⟩ := r
        go_wp2_with fail
        refine HD.out.mono ?_
        intro e w2 hp
        obtain ⟨v2, rfl, hst2⟩ := HST.out.step hp
        have HST2 := Lib.hid hst2
        have hg2 : gen2 = gen + (if rb = true then 1 else 0) := HG2.out
        have hl2 : ms2.length ≤ ms.length + 1 := HL2.out
        have hi2 : MemP.Inv ms2 gen2 := HI2.out
        have HINV2 := Lib.hid hi2
        have HALL := Lib.hid (all_any w2 _ v2 ms2 gen2 hst2.at_ (by omega))
        have hh := here_len ms2
        clear hp hst2 HD HG2 HL2 HST HINV HI2 hi2
        cases rb
        all_goals simp only [if_true, if_false, Bool.false_eq_true, Int.add_zero] at hg2
        all_goals subst hg2
        all_goals go_wp2_with fail
        all_goals refine HALL.out.mono ?_
        all_goals rintro e w3 ⟨⟨va, rfl, hr⟩, hb⟩
        all_goals obtain ⟨AA, cc, rfl, hS⟩ := hr.form
        all_goals have HS := Lib.hid hS
        all_goals have HST3 := Lib.hid (HST2.out.below hb)
        all_goals clear hS hr hb HALL HST2
        all_goals obtain ⟨w0, hw0⟩ : ∃ w0 : World, w0 = w3 := ⟨_, rfl⟩
        all_goals subst hw0
        all_goals go_wp2_with fail
        · skip
          go_loopw [7] (fun z wr => ∃ kk : Nat, kk ≤ ms2.length ∧ z = .int .i64 kk ∧ Below w0.heap.size w0 wr) (fun z _ => ms2.length - (intOf z).toNat)
          case atStart => exact ⟨0, by omega, rfl, Below.refl _ _⟩
          case round =>
            obtain ⟨kk, hkk, rfl, hB⟩ := hrel
            have HB := Lib.hid hB
            clear hB
            by_cases hlk : kk < ms2.length
            · obtain ⟨y, hy⟩ : ∃ y, ms2[kk]? = some y := ⟨_, List.getElem?_eq_getElem hlk⟩
              have HY := Lib.hid hy
              clear hy
              obtain ⟨wo, hwo⟩ : ∃ wo : World, wo = wr := ⟨_, rfl⟩
              subst hwo
              go_wp2
              go_loopw [8] (fun z wr => ∃ j : Nat, j ≤ kk ∧ z = .int .i64 j ∧ Below w0.heap.size w0 wr) (fun z _ => kk - (intOf z).toNat)
              case atStart => exact ⟨0, by omega, rfl, HB.out⟩
              case round =>
                obtain ⟨j, hj, rfl, hB2⟩ := hrel
                have HB2 := Lib.hid hB2
                by_cases hlj : j < kk
                · obtain ⟨z, hz⟩ : ∃ z, ms2[j]? = some z := ⟨_, List.getElem?_eq_getElem (by omega)⟩
                  have hne : z.client ≠ y.client := fun e => absurd (HINV2.out.dist j kk z y hz HY.out e) (by omega)
                  obtain ⟨b', off', rfl, -, e0, -, -, -, -⟩ := mem_cells (HS.out.below hB2) HY.out
                  obtain ⟨b2, off2, hAA, -, f0, -, -, -, -⟩ := mem_cells (HS.out.below hB2) hz
                  injection hAA with hAA
                  injection hAA with hA1 hA2
                  subst hA1
                  subst hA2
                  have d0 := fun n : Wd (Dr wr) => n.cellD e0
                  have d1 := fun n : Wd (Dr wr) => n.cellD f0
                  have t1 := str_ne hne
                  have hj1 : (j : Int) < ms2.length := by omega
                  have hk1 : (kk : Int) < ms2.length := by omega
                  clear hz hne hB2 e0 f0
                  go_wp2
                  refine wp_region_cls (Dr wr) (dr_drew wr) (by kernel_rfl) (by kernel_rfl) ?_
                  repeat (go_big_quiet_step (fail))
                  refine wpQuiet_nil ?_
                  rintro _ ⟨⟨wq, hq⟩, rfl⟩
                  have HBQ := Lib.hid (then_below HB2.out (Dr.below hq))
                  clear hq d0 d1
                  go_wp2
                  go_roundw
                  case rel => exact ⟨j + 1, by omega, by go_num, HBQ.out⟩
                  case measure => simp [intOf]; omega
                · obtain rfl : j = kk := by omega
                  clear hB2
                  go_wp2
                  go_roundw
                  case rel => exact ⟨j + 1, by omega, by go_num, HB2.out⟩
                  case measure => simp [intOf]; omega
            · obtain rfl : kk = ms2.length := by omega
              have HST4 := Lib.hid (HST3.out.below HB.out)
              have HG := Lib.hid (gen_any _ _ _ _ _ HST4.out.at_)
              have HH := Lib.hid (here_any _ _ _ _ _ HST4.out.at_ (by omega))
              have hh2 : ¬ (ms2.length < (here ms2).length) := by omega
              clear HB
              go_wp2_with fail
              refine HG.out.mono ?_
              rintro e w4 ⟨rfl, rfl⟩
              go_wp2_with fail
              refine HH.out.mono ?_
              rintro e w5 ⟨⟨vh, rfl, hr⟩, hb⟩
              obtain ⟨Ah, ch, rfl, -⟩ := hr.form
              have HST5 := Lib.hid (HST4.out.below hb)
              clear hr hb HG HH
              go_wp2_with fail
              go_roundw
              case rel => exact ⟨k + 1, _, ms2, _, by omega, by go_num, rfl, by omega, by omega, by omega, HINV2.out, HST5.out⟩
              case measure => simp [intOf]; omega
        · skip
          go_loopw [7] (fun z wr => ∃ kk : Nat, kk ≤ ms2.length ∧ z = .int .i64 kk ∧ Below w0.heap.size w0 wr) (fun z _ => ms2.length - (intOf z).toNat)
          case atStart => exact ⟨0, by omega, rfl, Below.refl _ _⟩
          case round =>
            obtain ⟨kk, hkk, rfl, hB⟩ := hrel
            have HB := Lib.hid hB
            clear hB
            by_cases hlk : kk < ms2.length
            · obtain ⟨y, hy⟩ : ∃ y, ms2[kk]? = some y := ⟨_, List.getElem?_eq_getElem hlk⟩
              have HY := Lib.hid hy
              clear hy
              obtain ⟨wo, hwo⟩ : ∃ wo : World, wo = wr := ⟨_, rfl⟩
              subst hwo
              go_wp2
              go_loopw [8] (fun z wr => ∃ j : Nat, j ≤ kk ∧ z = .int .i64 j ∧ Below w0.heap.size w0 wr) (fun z _ => kk - (intOf z).toNat)
              case atStart => exact ⟨0, by omega, rfl, HB.out⟩
              case round =>
                obtain ⟨j, hj, rfl, hB2⟩ := hrel
                have HB2 := Lib.hid hB2
                by_cases hlj : j < kk
                · obtain ⟨z, hz⟩ : ∃ z, ms2[j]? = some z := ⟨_, List.getElem?_eq_getElem (by omega)⟩
                  have hne : z.client ≠ y.client := fun e => absurd (HINV2.out.dist j kk z y hz HY.out e) (by omega)
                  obtain ⟨b', off', rfl, -, e0, -, -, -, -⟩ := mem_cells (HS.out.below hB2) HY.out
                  obtain ⟨b2, off2, hAA, -, f0, -, -, -, -⟩ := mem_cells (HS.out.below hB2) hz
                  injection hAA with hAA
                  injection hAA with hA1 hA2
                  subst hA1
                  subst hA2
                  have d0 := fun n : Wd (Dr wr) => n.cellD e0
                  have d1 := fun n : Wd (Dr wr) => n.cellD f0
                  have t1 := str_ne hne
                  have hj1 : (j : Int) < ms2.length := by omega
                  have hk1 : (kk : Int) < ms2.length := by omega
                  clear hz hne hB2 e0 f0
                  go_wp2
                  refine wp_region_cls (Dr wr) (dr_drew wr) (by kernel_rfl) (by kernel_rfl) ?_
                  repeat (go_big_quiet_step (fail))
                  refine wpQuiet_nil ?_
                  rintro _ ⟨⟨wq, hq⟩, rfl⟩
                  have HBQ := Lib.hid (then_below HB2.out (Dr.below hq))
                  clear hq d0 d1
                  go_wp2
                  go_roundw
                  case rel => exact ⟨j + 1, by omega, by go_num, HBQ.out⟩
                  case measure => simp [intOf]; omega
                · obtain rfl : j = kk := by omega
                  clear hB2
                  go_wp2
                  go_roundw
                  case rel => exact ⟨j + 1, by omega, by go_num, HB2.out⟩
                  case measure => simp [intOf]; omega
            · obtain rfl : kk = ms2.length := by omega
              have HST4 := Lib.hid (HST3.out.below HB.out)
              have HG := Lib.hid (gen_any _ _ _ _ _ HST4.out.at_)
              have HH := Lib.hid (here_any _ _ _ _ _ HST4.out.at_ (by omega))
              have hh2 : ¬ (ms2.length < (here ms2).length) := by omega
              clear HB
              go_wp2_with fail
              refine HG.out.mono ?_
              rintro e w4 ⟨rfl, rfl⟩
              go_wp2_with fail
              refine HH.out.mono ?_
              rintro e w5 ⟨⟨vh, rfl, hr⟩, hb⟩
              obtain ⟨Ah, ch, rfl, -⟩ := hr.form
              have HST5 := Lib.hid (HST4.out.below hb)
              clear hr hb HG HH
              go_wp2_with fail
              go_roundw
              case rel => exact ⟨k + 1, _, ms2, _, by omega, by go_num, rfl, by omega, by omega, by omega, HINV2.out, HST5.out⟩
              case measure => simp [intOf]; omega
      · obtain rfl : k = l.length := by omega
        have HWE := Lib.hid (awake_end hst.bel)
        clear hst
        go_wp2_with fail
        refine HWE.out.mono ?_
        rintro e w2 ⟨rfl, hb⟩
        have HB := Lib.hid hb
        clear hb
        go_wp2_with fail
        go_ret
        exact ⟨rfl, HB.out⟩
end Go.Proofs.Ytclhgnlhejohgaa.MemW
