/- PickTurns: its walk. -/
import Derived.Test.YtclhgnlhejohgaaPickSt
set_option linter.unusedVariables false
set_option linter.unusedSimpArgs false
namespace Go.Proofs.Ytclhgnlhejohgaa.PickW
open Go.RowKit Go.Proofs.Ytclhgnlhejohgaa.Tc Go.Proofs.Ytclhgnlhejohgaa.PickP

theorem OwnS.kept {S : List Nat} {w w' : World} {v : Value} {l : List ByteArray} (h : OwnS w v l) (ht : Tch S w w') (hs : ∀ g, v.ownBlock = some g → g ∉ S) : OwnS w' v l := ⟨own_kept h.1 ht hs, h.2⟩
theorem OwnS.lt {w : World} {v : Value} {l : List ByteArray} (h : OwnS w v l) : ∀ g, v.ownBlock = some g → g < w.heap.size := fun g hg => own_lt h.1 hg
def bit (x : Int) (k : Nat) : Bool := bits .and .u32 (x / 2 ^ k) 1 == 1
theorem bounds_u32 {x : Int} (h : (Lit.int .u32 x).wf = true) : 0 ≤ x ∧ x ≤ 4294967295 := by
  have h1 : IntKind.u32.min = 0 := rfl
  have h2 : IntKind.u32.max = 4294967295 := rfl
  simpa [Lit.wf, h1, h2] using h
set_option maxRecDepth 100000 in
set_option maxHeartbeats 4000000 in
theorem turns_law (w : World) (A : Option Addr) (la ca : Nat) (all : List ByteArray) (nb : Int) (last : ByteArray)
    (hA : all.length = la ∧ SliceIs kS w A all) (hb0 : (Lit.int .u32 nb).wf = true) (hl0 : last.size ≤ 140737488351232) :
    Calls Try.prog 6 #[.slice A la ca, .int .u32 nb, .string last] w fun e w' => e = .returned (.bool true) ∧ Below w.heap.size w w' := by
  obtain ⟨rfl, hA⟩ := hA
  have HA := Lib.hid hA
  have HFA := Lib.hid (few_any w A ca all hA)
  have HW := Lib.hid (awake_end (Below.refl w.heap.size w))
  clear hA
  go_enter Try.func6, Try.ntmps6
  go_wp2_with fail
  refine HFA.out.mono ?_
  rintro e w' ⟨⟨fa, rfl, hfa⟩, rfl⟩
  have HFEWA := Lib.hid hfa
  clear hfa HFA
  by_cases hc : fa = true ∧ last.size ≤ 100
  · obtain ⟨rfl, hl⟩ := hc
    obtain ⟨hal, hsm⟩ := HFEWA.out rfl
    have HAS : Hid (Small all) := hsm
    clear hsm HFEWA HW hl0
    have hbd := bounds_u32 hb0
    go_wp2_with fail
    go_loopw [7, 8] (fun v x wr => ∃ k : Nat, k ≤ all.length ∧ x = .int .i64 k ∧ OwnS wr v (sel all (bit nb) k) ∧ Newer w v ∧ Below w.heap.size w wr ∧ (∀ i j, i < k → j < i → all.getD j ByteArray.empty ≠ all.getD i ByteArray.empty)) (fun _ x _ => all.length - (intOf x).toNat)
    case atStart => exact ⟨0, by omega, rfl, OwnS.nil _, Newer.nil _, Below.refl _ _, by intro i j h; omega⟩
    case round =>
      obtain ⟨k, hk, rfl, hO, hN, hB, hD⟩ := hrel
      have HBR := Lib.hid hB
      have HO := Lib.hid hO
      have HN := Lib.hid hN
      have HD := Lib.hid hD
      have HAR := Lib.hid (HA.out.below hB)
      clear hO hN hB hD
      by_cases hlt : k < all.length
      · obtain ⟨wo, hwo⟩ : ∃ wo : World, wo = wr := ⟨_, rfl⟩
        subst hwo
        go_upto_block 2 with (fail)
        go_cut [9] (fun x wx => Gr wo wx ∧ ∀ j, j < k → all.getD j ByteArray.empty ≠ all.getD k ByteArray.empty)
        case first =>
          go_wp2
          go_loopw [9] (fun x wr => ∃ i : Nat, i ≤ k ∧ x = .int .i64 i ∧ Gr wo wr ∧ (∀ j, j < i → all.getD j ByteArray.empty ≠ all.getD k ByteArray.empty)) (fun x _ => k - (intOf x).toNat)
          case atStart => exact ⟨0, by omega, rfl, Below.refl _ _, by intro j h; omega⟩
          case round =>
            obtain ⟨i, hi, rfl, hG, hne⟩ := hrel
            have HG := Lib.hid hG
            have HNE := Lib.hid hne
            clear hne
            by_cases hlt2 : i < k
            · obtain ⟨b, off, rfl, c0, -⟩ := str_cell (HAR.out.below hG) hlt
              obtain ⟨b', off', hAA, c1, -⟩ := str_cell (HAR.out.below hG) (k := i) (by omega)
              injection hAA with hAA
              injection hAA with hA1 hA2
              subst hA1
              subst hA2
              have d0 := fun n : Wd (Gr wr) => n.cell c0
              have d1 := fun n : Wd (Gr wr) => n.cell c1
              clear c0 c1 hG
              generalize hzk : all.getD k ByteArray.empty = zk at *
              generalize hzi : all.getD i ByteArray.empty = zi at *
              have HZI := Lib.hid hzi
              clear hzi hzk
              by_cases e : zi = zk
              · have t1 := str_eq e
                clear e
                go_wp2
                refine wp_region_cls (Gr wr) (gr_drew wr) (by kernel_rfl) (by kernel_rfl) ?_
                repeat (go_big_quiet_step (fail))
                refine wpQuiet_nil ?_
                rintro _ ⟨⟨wq, hq⟩, rfl⟩
                have HWE := Lib.hid (awake_end (then_below HBR.out (then_below HG.out hq)))
                clear hq
                go_wp2_with fail
                refine HWE.out.mono ?_
                rintro e w3 ⟨rfl, hb⟩
                go_wp2_with fail
                go_ret
                exact ⟨rfl, hb⟩
              · have t1 := str_ne e
                have HE := Lib.hid e
                clear e
                go_wp2
                refine wp_region_cls (Gr wr) (gr_drew wr) (by kernel_rfl) (by kernel_rfl) ?_
                repeat (go_big_quiet_step (fail))
                refine wpQuiet_nil ?_
                rintro _ ⟨⟨wq, hq⟩, rfl⟩
                have HQ := Lib.hid (then_below HG.out hq)
                clear hq
                go_wp2
                go_roundw
                case rel =>
                  refine ⟨i + 1, by omega, by go_num, HQ.out, fun j hj => ?_⟩
                  by_cases ej : j = i
                  · subst ej; rw [HZI.out]; exact HE.out
                  · exact HNE.out j (by omega)
                case measure => simp [intOf]; omega
            · obtain rfl : i = k := by omega
              go_wp2
              go_meet
              exact ⟨HG.out, HNE.out⟩
        case rest =>
          obtain ⟨hG, hne⟩ := hcut
          rename_i wc _
          obtain ⟨b, off, rfl, c0, -⟩ := str_cell (HAR.out.below hG) hlt
          have hz := HAS.out k hlt
          have hss := sel_succ all (bit nb) k
          have HNE := Lib.hid hne
          have HG := Lib.hid hG
          have HO2 := Lib.hid (HO.out.below hG)
          have HB2 := Lib.hid (then_below HBR.out hG)
          have hll : (sel all (bit nb) k).length ≤ k := by
            unfold sel
            rw [List.length_map]
            exact Nat.le_trans (List.length_filter_le _ _) (by simp)
          have hD2 : ∀ i j, i < k + 1 → j < i → all.getD j ByteArray.empty ≠ all.getD i ByteArray.empty := by
            intro i j hi hj
            by_cases e : i = k
            · subst e; exact HNE.out j hj
            · exact HD.out i j (by omega) hj
          have HD2 := Lib.hid hD2
          clear hne hG hD2
          generalize hzk : all.getD k ByteArray.empty = zk at c0 hz hss
          have HSS := Lib.hid hss
          clear hss hzk
          cases hbv : bit nb k with
          | false =>
            have hb : (bits .and .u32 (nb / 2 ^ k) 1 == 1) = false := hbv
            have HR : Hid (sel all (bit nb) (k + 1) = sel all (bit nb) k) := by rw [HSS.out, hbv]; rfl
            clear hbv HSS
            go_wp2
            go_roundw
            case rel => exact ⟨k + 1, by omega, by go_num, by rw [HR.out]; exact HO2.out, HN.out, HB2.out, HD2.out⟩
            case measure => simp [intOf]; omega
          | true =>
            have hb : (bits .and .u32 (nb / 2 ^ k) 1 == 1) = true := hbv
            have HR : Hid (sel all (bit nb) (k + 1) = sel all (bit nb) k ++ [zk]) := by rw [HSS.out, hbv]; rfl
            obtain ⟨v', w', hr, ho', ht, hl'⟩ := HO2.out.snoc (by omega) zk (by unfold maxLen; omega)
            have HN' := Lib.hid (HN.out.step HB2.out hl')
            have HB' := Lib.hid (HN.out.below HB2.out ht)
            have HO' := Lib.hid ho'
            have HRUN := Lib.hid hr
            clear hbv HSS hr ho' ht hl'
            go_wp2_with (at_builtin; refine wpList_append_eq rfl _ _ _ rfl rfl rfl HRUN.out ?_)
            go_roundw
            case rel => exact ⟨k + 1, by omega, by go_num, by rw [HR.out]; exact HO'.out, HN'.out, HB'.out, HD2.out⟩
            case measure => simp [intOf]; omega
      · obtain rfl : k = all.length := by omega
        obtain ⟨Al, cl, rfl, hSl⟩ := HO.out.form
        have hdist : Distinct all := HD.out
        have HDI := Lib.hid hdist
        have hstart := Going.start all (bit nb) last
        have HST := Lib.hid hstart
        have hstep := fun got last hg hl => @Going.step all hdist (bit nb) got last hg hl
        have HSTEP := Lib.hid hstep
        have hll : (sel all (bit nb) all.length).length ≤ all.length := by
          unfold sel
          rw [List.length_map]
          exact Nat.le_trans (List.length_filter_le _ _) (by simp)
        have hmem : ∀ s ∈ sel all (bit nb) all.length, s ∈ all := by
          intro s hs
          unfold sel at hs
          simp only [List.mem_map, List.mem_filter, List.mem_range] at hs
          obtain ⟨i, ⟨hi, _⟩, rfl⟩ := hs
          simp [hi]
        have HMEM := Lib.hid hmem
        have HSL := Lib.hid hSl
        have HRN := Lib.hid (robin_none all last)
        clear hdist hstart hstep hSl hmem HD
        generalize sel all (bit nb) all.length = l at *
        by_cases h0 : l.length = 0
        · obtain rfl : l = [] := List.eq_nil_of_length_eq_zero h0
          have H23 := Lib.hid (robin_any wr A Al ca cl all [] last HAR.out HSL.out (by omega))
          rw [HRN.out] at H23
          have HWE := Lib.hid (awake_end HBR.out)
          clear h0 HO HST HSTEP HN
          go_wp2_with fail
          refine H23.out.mono ?_
          rintro e w3 ⟨rfl, rfl⟩
          go_wp2_with fail
          refine HWE.out.mono ?_
          rintro e w3 ⟨rfl, hb⟩
          go_wp2_with fail
          go_ret
          exact ⟨rfl, hb⟩
        · have h0' : ((l.length : Int) == 0) = false := by simp [h0]
          obtain ⟨wo, hwo⟩ : ∃ wo : World, wo = wr := ⟨_, rfl⟩
          subst hwo
          go_wp2_with fail
          go_loopw [2, 10, 11] (fun y v x wq => ∃ (j : Nat) (last : ByteArray) (got : List ByteArray), j ≤ l.length ∧ x = .int .i64 j ∧ y = .string last ∧ OwnS wq v got ∧ got.length = j ∧ Newer wo v ∧ Gr wo wq ∧ Going all (bit nb) got last) (fun _ _ x _ => l.length - (intOf x).toNat)
          case atStart => exact ⟨0, last, [], by omega, rfl, rfl, OwnS.nil _, rfl, Newer.nil _, Below.refl _ _, HST.out⟩
          case round =>
            obtain ⟨j, last, got, hj, rfl, rfl, hOg, hgl, hNg, hG, hgo⟩ := hrel
            have HG := Lib.hid hG
            by_cases hlt : j < l.length
            · obtain ⟨hin, hout, hgo'⟩ := HSTEP.out got last hgo (by omega)
              obtain ⟨Ag, cg, rfl, hSg⟩ := hOg.form
              have hrs := small_mem HAS.out _ (HMEM.out _ hin)
              have H23 := Lib.hid (robin_any wr A Al ca cl all l last (HAR.out.below hG) (HSL.out.below hG) (by omega))
              have H29 := Lib.hid (in_any wr Al cl l (HSL.out.below hG) (robin all l last))
              have H29' := Lib.hid (in_any wr Ag cg got hSg (robin all l last))
              have hn : has got (robin all l last) = false := by
                rw [Bool.eq_false_iff]; intro h; exact hout ((has_iff _ _).1 h)
              rw [(has_iff _ _).2 hin] at H29
              rw [hn] at H29'
              generalize robin all l last = r at *
              obtain ⟨v', w', hr, ho', ht, hl'⟩ := hOg.snoc (by omega) r (by unfold maxLen; omega)
              have HN' := Lib.hid (hNg.step hG hl')
              have HB' := Lib.hid (hNg.below hG ht)
              have HO' := Lib.hid ho'
              have HRUN := Lib.hid hr
              have HGO := Lib.hid hgo'
              have hgl' : (got ++ [r]).length = j + 1 := by simp [hgl]
              have HGL := Lib.hid hgl'
              clear hin hout hgo' hSg hn hr ho' ht hl' hOg hNg hG hgo hgl' hgl
              go_wp2_with fail
              refine H23.out.mono ?_
              rintro e w3 ⟨rfl, rfl⟩
              go_wp2_with fail
              refine H29.out.mono ?_
              rintro e w3 ⟨rfl, rfl⟩
              go_wp2_with fail
              refine H29'.out.mono ?_
              rintro e w3 ⟨rfl, rfl⟩
              go_wp2_with (at_builtin; refine wpList_append_eq rfl _ _ _ rfl rfl rfl HRUN.out ?_)
              go_roundw
              case rel => exact ⟨j + 1, r, got ++ [r], by omega, by go_num, rfl, HO'.out, HGL.out, HN'.out, HB'.out, HGO.out⟩
              case measure => simp [intOf]; omega
            · have HWE := Lib.hid (awake_end (then_below HBR.out hG))
              clear hOg hNg hG hgo hgl
              go_wp2_with fail
              refine HWE.out.mono ?_
              rintro e w3 ⟨rfl, hb⟩
              go_wp2_with fail
              go_ret
              exact ⟨rfl, hb⟩
  · have hcs : fa = false ∨ (fa = true ∧ ¬ last.size ≤ 100) := by
      cases fa with
      | false => exact .inl rfl
      | true => exact .inr ⟨rfl, fun h => hc ⟨rfl, h⟩⟩
    clear HFEWA hc
    rcases hcs with rfl | ⟨rfl, h1⟩
    all_goals
      go_wp2_with fail
      refine HW.out.mono ?_
      rintro e w3 ⟨rfl, hb⟩
      go_wp2_with fail
      go_ret
      exact ⟨rfl, hb⟩
end Go.Proofs.Ytclhgnlhejohgaa.PickW
