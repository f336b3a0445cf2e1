/- LaneOrder: its walk. -/
import Derived.Test.YtclhgnlhejohgaaLaneI
set_option linter.unusedVariables false
set_option linter.unusedSimpArgs false
namespace Go.Proofs.Ytclhgnlhejohgaa.LaneW
open Go.RowKit Go.Proofs.Ytclhgnlhejohgaa.Tc Go.Proofs.Ytclhgnlhejohgaa.LaneP

theorem bounds_u8 {x : Int} (h : (Lit.int .u8 x).wf = true) : 0 ≤ x ∧ x ≤ 255 := by
  have h1 : IntKind.u8.min = 0 := rfl
  have h2 : IntKind.u8.max = 255 := rfl
  simpa [Lit.wf, h1, h2] using h
set_option maxRecDepth 100000 in
set_option maxHeartbeats 4000000 in
theorem order_law (w : World) (A : Option Addr) (la ca : Nat) (l : List Tc.It) (at_ : Int) (client : ByteArray)
    (hA : l.length = la ∧ SliceIs kItem w A l) (ha0 : (Lit.int .u8 at_).wf = true) (hc0 : client.size ≤ 140737488351232) :
    Calls Try.prog 8 #[.slice A la ca, .int .u8 at_, .string client] w fun e w' => e = .returned (.bool true) ∧ Below w.heap.size w w' := by
  obtain ⟨rfl, hA⟩ := hA
  have hbd := bounds_u8 ha0
  have HA := Lib.hid hA
  have HFA := Lib.hid (few_any w A ca l hA)
  have H41 := Lib.hid (fun w2 (h : Below w.heap.size w w2) => rsound_any w2 A ca l (HA.out.below h))
  clear hA ha0
  by_cases hc : sound (pr l) = true ∧ client ≠ ByteArray.empty ∧ client.size ≤ 100 ∧ l.length ≠ 0
  · obtain ⟨hsnd, hcne, hcs, hl0⟩ := hc
    have t1 := (ne_empty hcne).1
    have t2 : ((l.length : Int) == 0) = false := by simp [hl0]
    obtain ⟨k, hkm, hkl, hk1, hk2⟩ : ∃ k : Nat, k = at_.toNat % l.length ∧ k < l.length ∧ at_ % (l.length : Int) = (k : Int) ∧ at_.tmod (l.length : Int) = (k : Int) := by
      have e : at_ % (l.length : Int) = ((at_.toNat % l.length : Nat) : Int) := by rw [Int.natCast_emod]; congr 1; omega
      exact ⟨_, rfl, Nat.mod_lt _ (by omega), e, by rw [Int.tmod_eq_emod_of_nonneg (by omega)]; exact e⟩
    rw [hsnd] at H41
    have HSND := Lib.hid hsnd
    have HCNE := Lib.hid hcne
    clear hkm hsnd hcne
    go_enter Try.func8, Try.ntmps8
    go_wp2_with fail
    refine HFA.out.mono ?_
    rintro e w1 ⟨⟨fa, rfl, hfa⟩, hb⟩
    have HFEWA := Lib.hid hfa
    have HB1 := Lib.hid hb
    have HW := Lib.hid (awake_end hb)
    have H41' := Lib.hid (H41.out w1 hb)
    clear hfa HFA hb H41
    cases fa with
    | false =>
      clear hl0 hk1 hk2
      go_wp2_with fail
      refine HW.out.mono ?_
      rintro e w3 ⟨rfl, hb⟩
      go_wp2_with fail
      go_ret
      exact ⟨rfl, hb⟩
    | true =>
      obtain ⟨h20, -⟩ := HFEWA.out rfl
      have hne : ¬ (l.length : Int) = 0 := by omega
      clear HFEWA HW hl0
      go_wp2_with fail
      refine H41'.out.mono ?_
      rintro e w2 ⟨rfl, hd⟩
      have hB2 := then_below HB1.out (Dr.below hd)
      have H38 := Lib.hid (may_any w2 A ca l k client (HA.out.below hB2))
      have HB2 := Lib.hid hB2
      clear hd hB2 H41'
      go_wp2_with fail
      refine H38.out.mono ?_
      rintro e w3 ⟨rfl, hb⟩
      have HB3 := Lib.hid (then_below HB2.out hb)
      clear hb H38 hk1 hk2
      go_upto_if 45 with (fail)
      go_cut [] (fun wx => Below w.heap.size w wx)
      case first =>
        cases hm : may (pr l) k client with
        | false =>
          clear hm
          go_wp2_with fail
          go_meet
          exact HB3.out
        | true =>
          obtain ⟨y, hy, hyn, hyall⟩ := (may_iff _ _ _).1 hm
          have hps := put_sound HSND.out hm
          have hpm : may (putAt (pr l) k client) k client = false := put_may HCNE.out
          rw [← wl_pr] at hps hpm
          have H42 := Lib.hid (with_any w3 A ca l k client (HA.out.below HB3.out) h20 (by unfold maxLen; omega))
          have HPS := Lib.hid hps
          have HPM := Lib.hid hpm
          have HALL := Lib.hid hyall
          have HY := Lib.hid hy
          clear hm hy hyn hyall hps hpm
          go_wp2_with fail
          refine H42.out.mono ?_
          rintro e w4 ⟨⟨A', c', rfl, hs⟩, hb⟩
          have h40 := sound_any w4 A' c' _ hs (by rw [wl_len l k _ _ (Nat.le_refl _)]; omega)
          rw [wl_len l k _ _ (Nat.le_refl _), HPS.out] at h40
          have H40 := Lib.hid h40
          have h38 := fun w5 (h : Below w4.heap.size w4 w5) => may_any w5 A' c' _ k client (hs.below h)
          rw [wl_len l k _ _ (Nat.le_refl _), HPM.out] at h38
          have H38 := Lib.hid h38
          have HB4 := Lib.hid (then_below HB3.out hb)
          clear hs hb h40 h38 H42
          go_wp2_with fail
          refine H40.out.mono ?_
          rintro e w5 ⟨rfl, hb⟩
          have H38' := Lib.hid (H38.out w5 hb)
          have HB5 := Lib.hid (then_below HB4.out hb)
          clear hb H40 H38
          go_wp2_with fail
          refine H38'.out.mono ?_
          rintro e w6 ⟨rfl, hb⟩
          have HB6 := Lib.hid (then_below HB5.out hb)
          clear hb H38'
          go_wp2_with fail
          go_loopw [9] (fun x wr => ∃ i : Nat, i ≤ l.length ∧ x = .int .i64 i ∧ Below w.heap.size w wr) (fun x _ => l.length - (intOf x).toNat)
          case atStart => exact ⟨0, by omega, rfl, HB6.out⟩
          case round =>
            obtain ⟨i, hi, rfl, hB⟩ := hrel
            have HB := Lib.hid hB
            by_cases hlt : i < l.length
            · obtain ⟨x, hx⟩ : ∃ x, l[i]? = some x := ⟨_, List.getElem?_eq_getElem hlt⟩
              obtain ⟨z, hz⟩ : ∃ z, l[k]? = some z := ⟨_, List.getElem?_eq_getElem hkl⟩
              obtain ⟨b, off, rfl, hb, hcx, -, -, -⟩ := item_cells (HA.out.below hB) hx
              obtain ⟨b', off', hAA, hb', hcz, -, -, -⟩ := item_cells (HA.out.below hB) hz
              injection hAA with hAA
              injection hAA with hA1 hA2
              subst hA1
              subst hA2
              have hpx : (pr l)[i]? = some (x.msg.topic, x.at_) := by rw [pr_get, hx]; rfl
              have hpz : (pr l)[k]? = some (z.msg.topic, z.at_) := by rw [pr_get, hz]; rfl
              have hyz : y = (z.msg.topic, z.at_) := by have := HY.out; rw [hpz] at this; exact (Option.some.inj this).symm
              have hall := HALL.out i _ hpx
              rw [hyz] at hall
              have HAL := Lib.hid hall
              have d0 := fun n : Wd (Dr wr) => n.cellD hcx.c0
              have d1 := fun n : Wd (Dr wr) => n.cellD hcx.c9
              have d2 := fun n : Wd (Dr wr) => n.cellD hcz.c0
              have hi1 : (i : Int) < l.length := by omega
              have hk1 : (k : Int) < l.length := by omega
              clear hx hz hb hb' hcx hcz hpx hpz hyz hall hB
              by_cases ht : x.msg.topic = z.msg.topic
              · have t3 := str_eq ht
                have HT := Lib.hid (HAL.out ht)
                clear ht
                by_cases hw : x.at_ = ByteArray.empty
                · have t4 : x.at_.toList.isEmpty = true := by rw [wts_emp]; simp [hw]
                  have hik : ¬ i < k := fun h => HT.out.1 ⟨h, hw⟩
                  clear hw
                  go_wp2
                  refine wp_region_cls (Dr wr) (dr_drew wr) (by kernel_rfl) (by kernel_rfl) ?_
                  repeat (go_big_quiet_step (fail))
                  refine wpQuiet_nil ?_
                  rintro _ ⟨⟨wq, hq⟩, rfl⟩
                  have HQ := Lib.hid (then_below HB.out (Dr.below hq))
                  clear hq d0 d1 d2
                  go_wp2
                  go_roundw
                  case rel => exact ⟨i + 1, by omega, by go_num, HQ.out⟩
                  case measure => simp [intOf]; omega
                · have t4 := (ne_empty hw).1
                  have t5 := str_eq (HT.out.2.resolve_left hw)
                  clear hw
                  by_cases hik : i < k
                  · go_wp2
                    refine wp_region_cls (Dr wr) (dr_drew wr) (by kernel_rfl) (by kernel_rfl) ?_
                    repeat (go_big_quiet_step (fail))
                    refine wpQuiet_nil ?_
                    rintro _ ⟨⟨wq, hq⟩, rfl⟩
                    have HQ := Lib.hid (then_below HB.out (Dr.below hq))
                    clear hq d0 d1 d2
                    go_wp2
                    go_roundw
                    case rel => exact ⟨i + 1, by omega, by go_num, HQ.out⟩
                    case measure => simp [intOf]; omega
                  · go_wp2
                    refine wp_region_cls (Dr wr) (dr_drew wr) (by kernel_rfl) (by kernel_rfl) ?_
                    repeat (go_big_quiet_step (fail))
                    refine wpQuiet_nil ?_
                    rintro _ ⟨⟨wq, hq⟩, rfl⟩
                    have HQ := Lib.hid (then_below HB.out (Dr.below hq))
                    clear hq d0 d1 d2
                    go_wp2
                    go_roundw
                    case rel => exact ⟨i + 1, by omega, by go_num, HQ.out⟩
                    case measure => simp [intOf]; omega
              · have t3 := str_ne ht
                clear ht
                go_wp2
                refine wp_region_cls (Dr wr) (dr_drew wr) (by kernel_rfl) (by kernel_rfl) ?_
                repeat (go_big_quiet_step (fail))
                refine wpQuiet_nil ?_
                rintro _ ⟨⟨wq, hq⟩, rfl⟩
                have HQ := Lib.hid (then_below HB.out (Dr.below hq))
                clear hq d0 d1 d2
                go_wp2
                go_roundw
                case rel => exact ⟨i + 1, by omega, by go_num, HQ.out⟩
                case measure => simp [intOf]; omega
            · obtain rfl : i = l.length := by omega
              clear hB
              go_wp2
              go_meet
              exact HB.out
      case rest =>
        have HBC := Lib.hid hcut
        rename_i wc _
        have H36 := Lib.hid (head_any wc A ca l (HA.out.below hcut) h20)
        have hmem := fun (n : Nat) (h : n ∈ head (pr l)) (x : LaneP.It) (hx : (pr l)[n]? = some x) => head_may HSND.out h hx
        have hlt := fun (n : Nat) (h : n ∈ head (pr l)) => head_lt (pr l) h
        have HMEM := Lib.hid hmem
        have HLT := Lib.hid hlt
        clear hcut hmem hlt
        generalize head (pr l) = hd at *
        go_wp2_with fail
        refine H36.out.mono ?_
        rintro e w4 ⟨⟨v, rfl, ho⟩, hb⟩
        obtain ⟨A1, c1, rfl, hI⟩ := ho.form
        have HI := Lib.hid hI
        have HB4 := Lib.hid (then_below HBC.out hb)
        have hdl : hd.length ≤ maxLen := by have := hI.len; rwa [ints_len] at this
        unfold maxLen at hdl
        clear ho hb hI H36
        go_wp2_with fail
        go_loopw [11] (fun x wr => ∃ j : Nat, j ≤ hd.length ∧ x = .int .i64 j ∧ Below w4.heap.size w4 wr) (fun x _ => hd.length - (intOf x).toNat)
        case atStart => exact ⟨0, by omega, rfl, Below.refl _ _⟩
        case round =>
          obtain ⟨j, hj, rfl, hB⟩ := hrel
          have HB := Lib.hid hB
          by_cases hjl : j < hd.length
          · obtain ⟨n, hn⟩ : ∃ n, n = hd[j] := ⟨_, rfl⟩
            have hnm : n ∈ hd := by rw [hn]; exact List.getElem_mem hjl
            have hnl := HLT.out n hnm
            rw [pr_len] at hnl
            obtain ⟨x, hx⟩ : ∃ x, l[n]? = some x := ⟨_, List.getElem?_eq_getElem hnl⟩
            have hpx : (pr l)[n]? = some (x.msg.topic, x.at_) := by rw [pr_get, hx]; rfl
            obtain ⟨hm1, hm2⟩ := HMEM.out n hnm _ hpx
            have hBr := then_below HB4.out hB
            obtain ⟨b, off, rfl, hb, hcx, -, -, -⟩ := item_cells (HA.out.below hBr) hx
            have e0 := hcx.c0
            obtain ⟨b1, o1, rfl, hi0⟩ := int_at (HI.out.below hB) (k := j) (by rw [ints_len]; exact hjl)
            have hge : (ints hd).getD j 0 = (n : Int) := by rw [hn]; simp [ints, hjl]
            rw [hge] at hi0
            have HI0 := Lib.hid hi0
            have hO := owner_any wr _ ca l x.msg.topic (HA.out.below hBr)
            have H38 := Lib.hid (fun w5 (h : Below w.heap.size w w5) c => may_any w5 _ ca l n c (HA.out.below h))
            have hn0 : ¬ ((n : Int) < 0) := by omega
            have HM1 := Lib.hid hm1
            have HM2 := Lib.hid hm2
            have HBR := Lib.hid hBr
            unfold ownP at hO
            clear hn hnm hx hpx hm1 hm2 hBr hb hcx hge hB
            cases ho : owner (pr l) x.msg.topic with
            | none =>
              rw [ho] at hO
              have HO := Lib.hid hO
              have HMM := Lib.hid (HM2.out ho client)
              clear ho hO HM1 HM2
              go_wp2_with fail
              refine HO.out.mono ?_
              rintro e w5 ⟨rfl, hb⟩
              have hi5 := (Same.of_below hb).cell HI0.out
              have h38 := H38.out w5 (then_below HBR.out hb) client
              rw [HMM.out] at h38
              have H38' := Lib.hid h38
              have HB5 := Lib.hid (then_below HB.out hb)
              clear hb h38 e0 hi0 HO H38
              go_wp2_with fail
              refine H38'.out.mono ?_
              rintro e w6 ⟨rfl, hb⟩
              have HB6 := Lib.hid (then_below HB5.out hb)
              clear hb H38'
              go_wp2_with fail
              go_roundw
              case rel => exact ⟨j + 1, by omega, by go_num, HB6.out⟩
              case measure => simp [intOf]; omega
            | some s =>
              rw [ho] at hO
              have HO := Lib.hid hO
              have HMM := Lib.hid (HM1.out s ho)
              clear ho hO HM1 HM2
              go_wp2_with fail
              refine HO.out.mono ?_
              rintro e w5 ⟨rfl, hb⟩
              have hi5 := (Same.of_below hb).cell HI0.out
              have h38 := H38.out w5 (then_below HBR.out hb) s
              rw [HMM.out] at h38
              have H38' := Lib.hid h38
              have HB5 := Lib.hid (then_below HB.out hb)
              clear hb h38 e0 hi0 HO H38
              go_wp2_with fail
              refine H38'.out.mono ?_
              rintro e w6 ⟨rfl, hb⟩
              have HB6 := Lib.hid (then_below HB5.out hb)
              clear hb H38'
              go_wp2_with fail
              go_roundw
              case rel => exact ⟨j + 1, by omega, by go_num, HB6.out⟩
              case measure => simp [intOf]; omega
          · obtain rfl : j = hd.length := by omega
            have HWE := Lib.hid (awake_end (then_below HB4.out hB))
            clear hB
            go_wp2_with fail
            refine HWE.out.mono ?_
            rintro e w9 ⟨rfl, hb⟩
            go_wp2_with fail
            go_ret
            exact ⟨rfl, hb⟩
  · have hcs : sound (pr l) = false ∨ (sound (pr l) = true ∧ client = ByteArray.empty) ∨ (sound (pr l) = true ∧ client ≠ ByteArray.empty ∧ ¬ client.size ≤ 100) ∨ (sound (pr l) = true ∧ client ≠ ByteArray.empty ∧ client.size ≤ 100 ∧ l.length = 0) := by
      by_cases h1 : sound (pr l) = true
      · by_cases h2 : client = ByteArray.empty
        · exact .inr (.inl ⟨h1, h2⟩)
        · by_cases h3 : client.size ≤ 100
          · by_cases h4 : l.length = 0
            · exact .inr (.inr (.inr ⟨h1, h2, h3, h4⟩))
            · exact absurd ⟨h1, h2, h3, h4⟩ hc
          · exact .inr (.inr (.inl ⟨h1, h2, h3⟩))
      · exact .inl (by simpa using h1)
    clear hc
    have key : ∀ (w1 : World) (wq : World), Below w.heap.size w w1 → Dr w1 wq → Calls Try.prog 31 #[] wq fun e w' => e = .returned (.bool true) ∧ Below w.heap.size w w' :=
      fun w1 wq h hd => awake_end (then_below h (Dr.below hd))
    have KEY := Lib.hid key
    clear key
    rcases hcs with h1 | ⟨h1, h2⟩ | ⟨h1, h2, h3⟩ | ⟨h1, h2, h3, h4⟩
    · rw [h1] at H41
      clear h1
      go_enter Try.func8, Try.ntmps8
      go_wp2_with fail
      refine HFA.out.mono ?_
      rintro e w1 ⟨⟨fa, rfl, hfa⟩, hb⟩
      have HB1 := Lib.hid hb
      have HW := Lib.hid (awake_end hb)
      have H41' := Lib.hid (H41.out w1 hb)
      clear hfa hb
      cases fa with
      | false =>
        go_wp2_with fail
        refine HW.out.mono ?_
        rintro e w3 ⟨rfl, hb⟩
        go_wp2_with fail
        go_ret
        exact ⟨rfl, hb⟩
      | true =>
        go_wp2_with fail
        refine H41'.out.mono ?_
        rintro e w2 ⟨rfl, hd⟩
        have HW2 := Lib.hid (KEY.out w1 w2 HB1.out hd)
        clear hd
        go_wp2_with fail
        refine HW2.out.mono ?_
        rintro e w3 ⟨rfl, hb⟩
        go_wp2_with fail
        go_ret
        exact ⟨rfl, hb⟩
    · rw [h1] at H41
      have t1 : client.toList.isEmpty = true := by rw [wts_emp]; simp [h2]
      clear h1 h2
      go_enter Try.func8, Try.ntmps8
      go_wp2_with fail
      refine HFA.out.mono ?_
      rintro e w1 ⟨⟨fa, rfl, hfa⟩, hb⟩
      have HB1 := Lib.hid hb
      have HW := Lib.hid (awake_end hb)
      have H41' := Lib.hid (H41.out w1 hb)
      clear hfa hb
      cases fa with
      | false =>
        go_wp2_with fail
        refine HW.out.mono ?_
        rintro e w3 ⟨rfl, hb⟩
        go_wp2_with fail
        go_ret
        exact ⟨rfl, hb⟩
      | true =>
        go_wp2_with fail
        refine H41'.out.mono ?_
        rintro e w2 ⟨rfl, hd⟩
        have HW2 := Lib.hid (KEY.out w1 w2 HB1.out hd)
        clear hd
        go_wp2_with fail
        refine HW2.out.mono ?_
        rintro e w3 ⟨rfl, hb⟩
        go_wp2_with fail
        go_ret
        exact ⟨rfl, hb⟩
    · rw [h1] at H41
      have t1 := (ne_empty h2).1
      clear h1 h2
      go_enter Try.func8, Try.ntmps8
      go_wp2_with fail
      refine HFA.out.mono ?_
      rintro e w1 ⟨⟨fa, rfl, hfa⟩, hb⟩
      have HB1 := Lib.hid hb
      have HW := Lib.hid (awake_end hb)
      have H41' := Lib.hid (H41.out w1 hb)
      clear hfa hb
      cases fa with
      | false =>
        go_wp2_with fail
        refine HW.out.mono ?_
        rintro e w3 ⟨rfl, hb⟩
        go_wp2_with fail
        go_ret
        exact ⟨rfl, hb⟩
      | true =>
        go_wp2_with fail
        refine H41'.out.mono ?_
        rintro e w2 ⟨rfl, hd⟩
        have HW2 := Lib.hid (KEY.out w1 w2 HB1.out hd)
        clear hd
        go_wp2_with fail
        refine HW2.out.mono ?_
        rintro e w3 ⟨rfl, hb⟩
        go_wp2_with fail
        go_ret
        exact ⟨rfl, hb⟩
    · rw [h1] at H41
      have t1 := (ne_empty h2).1
      have t2 : ((l.length : Int) == 0) = true := by simp [h4]
      clear h1 h2 h4
      go_enter Try.func8, Try.ntmps8
      go_wp2_with fail
      refine HFA.out.mono ?_
      rintro e w1 ⟨⟨fa, rfl, hfa⟩, hb⟩
      have HB1 := Lib.hid hb
      have HW := Lib.hid (awake_end hb)
      have H41' := Lib.hid (H41.out w1 hb)
      clear hfa hb
      cases fa with
      | false =>
        go_wp2_with fail
        refine HW.out.mono ?_
        rintro e w3 ⟨rfl, hb⟩
        go_wp2_with fail
        go_ret
        exact ⟨rfl, hb⟩
      | true =>
        go_wp2_with fail
        refine H41'.out.mono ?_
        rintro e w2 ⟨rfl, hd⟩
        have HW2 := Lib.hid (KEY.out w1 w2 HB1.out hd)
        clear hd
        go_wp2_with fail
        refine HW2.out.mono ?_
        rintro e w3 ⟨rfl, hb⟩
        go_wp2_with fail
        go_ret
        exact ⟨rfl, hb⟩
end Go.Proofs.Ytclhgnlhejohgaa.LaneW
