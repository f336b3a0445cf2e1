/- QueueRoom: there are never more than room; what expires does not wait any more. -/
import Derived.Test.YtjcdkgdeoeboaaaQuL
set_option linter.unusedVariables false
set_option linter.unusedSimpArgs false
namespace Go.Proofs.Ytjcdkgdeoeboaaa.QuW
open Go.RowKit Go.Proofs.Ytjcdkgdeoeboaaa.Tc

set_option maxRecDepth 100000 in
set_option maxHeartbeats 4000000 in
theorem room_law (w : World) (most : Int) (A : Option Addr) (len cap : Nat) (l : List Mg) (now : Int) (hmost : (Lit.int .i64 most).wf = true) (hl : l.length = len ∧ SliceIs kMsg w A l) (hnow : (Lit.int .i64 now).wf = true) :
    Calls Try.prog 6 #[.int .i64 most, .slice A len cap, .int .i64 now] w fun e w' => e = .returned (.bool true) ∧ Below w.heap.size w w' := by
  obtain ⟨rfl, hS⟩ := hl
  have hlen := hS.len
  unfold maxLen at hlen
  have HR := Lib.hid (rd_msgs hS)
  have HO := Lib.hid (fun k m (hm : l[k]? = some m) => msgs_ok hS hm)
  have HREF := Lib.hid (Below.refl w.heap.size w)
  have HNW := Lib.hid hnow
  clear hS hnow hmost
  by_cases h40 : 40 < l.length
  · have h41 : (40 : Int) < l.length := by omega
    go_enter Try.func6, Try.ntmps6
    go_wp2_with fail
    refine (awake_any _).mono ?_
    rintro e wz ⟨rfl, hb⟩
    have HBZ := Lib.hid (HREF.out.trans (hb.mono HREF.out.size))
    clear hb
    go_wp2_with fail
    go_ret
    exact ⟨rfl, HBZ.out⟩
  have h41 : ¬ (40 : Int) < l.length := by omega
  go_enter Try.func6, Try.ntmps6
  go_wp2_with fail
  refine (new_any w most w.heap.size (Nat.le_refl _)).mono ?_
  rintro e w1 ⟨rfl, hq, hb⟩
  have HQ1 := Lib.hid hq
  have HB1 := Lib.hid (Stp.of_below (B := w.heap.size) hb)
  clear hq hb
  go_wp2_with fail
  go_loopw [8] (fun x wr => ∃ (k : Nat) (v : Value) (L : List Mg), k ≤ l.length ∧ x = .int .i64 k ∧ Q 43 w.heap.size wr w.heap.size most v L ∧ (L.length : Int) ≤ max most 0 ∧ L.length ≤ k ∧ Stp w.heap.size w wr) (fun x _ => l.length - (intOf x).toNat)
  case atStart => exact ⟨0, _, [], by omega, rfl, HQ1.out, by simp; omega, by simp, HB1.out⟩
  case round =>
    obtain ⟨k, v, L, hk, rfl, hq, hmx, hLk, hst⟩ := hrel
    have hbw := hst.below (Nat.le_refl _)
    by_cases hlt : k < l.length
    · obtain ⟨x, hx⟩ : ∃ x, l[k]? = some x := ⟨_, List.getElem?_eq_getElem hlt⟩
      obtain ⟨b, off, rfl, c0, c1, c2, c3, c4, c5, c6, c7, c8⟩ := rd_msg (HR.out.below hbw) hx
      have hxo := HO.out k x hx
      have hxl := hxo.2.len
      unfold maxLen at hxl
      have HSM := Lib.hid (small_any x wr ((rd_slice hxo.2).below hbw) (by omega))
      have HQ := Lib.hid hq
      have HST := Lib.hid hst
      have HBW := Lib.hid hbw
      have HXO := Lib.hid hxo
      unfold Mg.val at HSM
      clear hq hst hbw hx hxo hxl
      go_wp2_with fail
      refine HSM.out.mono ?_
      rintro e w2 ⟨⟨bb, rfl, hbb⟩, hb⟩
      have HB2 := Lib.hid (HBW.out.trans (hb.mono HBW.out.size))
      cases bb with
      | false =>
        clear hbb hb c0 c1 c2 c3 c4 c5 c6 c7 c8
        go_wp2_with fail
        refine (awake_any _).mono ?_
        rintro e wz ⟨rfl, hb⟩
        have HBZ := Lib.hid (HB2.out.trans (hb.mono HB2.out.size))
        clear hb
        go_wp2_with fail
        go_ret
        exact ⟨rfl, HBZ.out⟩
      | true =>
        have hx70 := hbb rfl
        have HXOK := Lib.hid ((ok_of HXO.out hx70).stp (HST.out.trans (Stp.of_below hb)))
        have HLN := Lib.hid (len_any (HQ.out.below hb))
        have HST2 := Lib.hid (HST.out.trans (Stp.of_below hb))
        have d0 := (Same.of_below hb).cell c0
        have d1 := (Same.of_below hb).cell c1
        have d2 := (Same.of_below hb).cell c2
        have d3 := (Same.of_below hb).cell c3
        have d4 := (Same.of_below hb).cell c4
        have d5 := (Same.of_below hb).cell c5
        have d6 := (Same.of_below hb).cell c6
        have d7 := (Same.of_below hb).cell c7
        have d8 := (Same.of_below hb).cell c8
        clear hbb c0 c1 c2 c3 c4 c5 c6 c7 c8
        by_cases hroom : (L.length : Int) < most
        · have hm0 : ¬ most < 0 := by omega
          have hgt : ¬ most < (L.length : Int) + 1 := by omega
          have HPU := Lib.hid (push_room (HQ.out.below hb) (by omega) x HXOK.out (by omega))
          unfold Mg.val at HPU
          clear hb
          go_wp2_with fail
          refine HLN.out.mono ?_
          rintro e w3 ⟨rfl, rfl⟩
          go_wp2_with fail
          refine HPU.out.mono ?_
          rintro e w3 ⟨rfl, v', L', hs, hL'⟩
          have hL'l : L'.length = L.length + 1 := by have := congrArg List.length hL'; simpa using this
          have HLN2 := Lib.hid (len_any hs.q)
          rw [hL'l] at HLN2
          have HE := Lib.hid (show Q 43 w.heap.size w3 w.heap.size most v' L' ∧ Stp w.heap.size w w3 from ⟨hs.q, HST2.out.trans hs.stp⟩)
          clear hs hL' d0 d1 d2 d3 d4 d5 d6 d7 d8
          go_wp2_with fail
          refine HLN2.out.mono ?_
          rintro e w4 ⟨rfl, rfl⟩
          go_wp2_with fail
          go_roundw
          case rel => exact ⟨k + 1, v', L', by omega, by go_num, HE.out.1, by omega, by omega, HE.out.2⟩
          case measure => simp [intOf]; omega
        · by_cases hm0 : most < 0
          · have hgt : ¬ (0 : Int) < L.length := by omega
            have HPU := Lib.hid (push_full (HQ.out.below hb) (by omega) x HXOK.out (by omega))
            unfold Mg.val at HPU
            clear hb
            go_wp2_with fail
            refine HLN.out.mono ?_
            rintro e w3 ⟨rfl, rfl⟩
            go_wp2_with fail
            refine HPU.out.mono ?_
            rintro e w3 ⟨rfl, v', L', hs, hL'⟩
            have hL'l : L'.length = L.length := by have := congrArg List.length hL'; simpa using this
            have HLN2 := Lib.hid (len_any hs.q)
            rw [hL'l] at HLN2
            have HE := Lib.hid (show Q 43 w.heap.size w3 w.heap.size most v' L' ∧ Stp w.heap.size w w3 from ⟨hs.q, HST2.out.trans hs.stp⟩)
            clear hs hL' d0 d1 d2 d3 d4 d5 d6 d7 d8
            go_wp2_with fail
            refine HLN2.out.mono ?_
            rintro e w4 ⟨rfl, rfl⟩
            go_wp2_with fail
            go_roundw
            case rel => exact ⟨k + 1, v', L', by omega, by go_num, HE.out.1, by omega, by omega, HE.out.2⟩
            case measure => simp [intOf]; omega
          · have hgt : ¬ most < (L.length : Int) := by omega
            have HPU := Lib.hid (push_full (HQ.out.below hb) (by omega) x HXOK.out (by omega))
            unfold Mg.val at HPU
            clear hb
            go_wp2_with fail
            refine HLN.out.mono ?_
            rintro e w3 ⟨rfl, rfl⟩
            go_wp2_with fail
            refine HPU.out.mono ?_
            rintro e w3 ⟨rfl, v', L', hs, hL'⟩
            have hL'l : L'.length = L.length := by have := congrArg List.length hL'; simpa using this
            have HLN2 := Lib.hid (len_any hs.q)
            rw [hL'l] at HLN2
            have HE := Lib.hid (show Q 43 w.heap.size w3 w.heap.size most v' L' ∧ Stp w.heap.size w w3 from ⟨hs.q, HST2.out.trans hs.stp⟩)
            clear hs hL' d0 d1 d2 d3 d4 d5 d6 d7 d8
            go_wp2_with fail
            refine HLN2.out.mono ?_
            rintro e w4 ⟨rfl, rfl⟩
            go_wp2_with fail
            go_roundw
            case rel => exact ⟨k + 1, v', L', by omega, by go_num, HE.out.1, by omega, by omega, HE.out.2⟩
            case measure => simp [intOf]; omega
    · obtain rfl : k = l.length := by omega
      have HQ := Lib.hid hq
      have HST := Lib.hid hst
      have HLN := Lib.hid (len_any hq)
      have HX := Lib.hid (expire_any hq (by omega) now)
      clear hq hst hbw
      go_wp2_with fail
      refine HLN.out.mono ?_
      rintro e w2 ⟨rfl, rfl⟩
      go_wp2_with fail
      refine HX.out.mono ?_
      rintro e w2 ⟨rfl, v2, hs⟩
      have hKL := List.length_filter_le (fun m => !come m now) L
      have hKc : ∀ m ∈ (L.filter fun m => !come m now), come m now = false := fun m hm => by simpa using (List.mem_filter.1 hm).2
      have hK2 : ((L.filter fun m => !come m now).filter fun m => !come m now) = (L.filter fun m => !come m now) := List.filter_eq_self.2 (fun a ha => (List.mem_filter.1 ha).2)
      generalize (L.filter fun m => !come m now) = K at *
      have HQ2 := Lib.hid hs.q
      have HST2 := Lib.hid (HST.out.trans hs.stp)
      have HAL := Lib.hid (all_any hs.q (by omega))
      have HKC := Lib.hid hKc
      have HK2 := Lib.hid hK2
      clear hs hKc hK2
      go_wp2_with fail
      refine HAL.out.mono ?_
      rintro e w3 ⟨⟨vA, rfl, hR, hN⟩, hb⟩
      obtain ⟨A3, c3, rfl, hrd⟩ := rd_own hR
      have HQ3 := Lib.hid (HQ2.out.below hb)
      have HST3 := Lib.hid (HST2.out.trans (Stp.of_below hb))
      have HRD := Lib.hid hrd
      clear hR hN hb hrd
      go_wp2_with fail
      go_loopw [13] (fun y wr => ∃ (k : Nat), k ≤ K.length ∧ y = .int .i64 k ∧ Below w3.heap.size w3 wr) (fun y _ => K.length - (intOf y).toNat)
      case atStart => exact ⟨0, by omega, rfl, Below.refl _ _⟩
      case round =>
        obtain ⟨k, hk, rfl, hbr⟩ := hrel
        have HBR := Lib.hid hbr
        by_cases hlt : k < K.length
        · obtain ⟨x, hx⟩ : ∃ x, K[k]? = some x := ⟨_, List.getElem?_eq_getElem hlt⟩
          obtain ⟨b, off, rfl, c0, c1, c2, c3, c4, c5, c6, c7, c8⟩ := rd_msg (HRD.out.below hbr) hx
          have hok := (HQ3.out.below hbr).ok x (List.mem_of_getElem? hx)
          have HLE := Lib.hid (left_any x now wr hok.rd (by have := hok.few; omega) hok.wf HNW.out)
          have HCX := Lib.hid (HKC.out x (List.mem_of_getElem? hx))
          have hk1 : (k : Int) < K.length := by omega
          unfold Mg.val at HLE
          clear hx hok hbr
          go_wp2_with fail
          refine HLE.out.mono ?_
          rintro e w4 ⟨-, hc, hb⟩
          obtain ⟨m', rfl, -, -⟩ := hc HCX.out
          have HBN := Lib.hid ((HBR.out.trans (hb.mono HBR.out.size)).trans ((alloc_below w4 (.cells #[.string m'.topic, .string m'.payload, .int .i64 m'.qos, .bool m'.retain, .slice m'.pA m'.props.length m'.pc, .string m'.from_, .int .i64 m'.until_, .int .i64 m'.seq, .string m'.group] 24)).mono (HBR.out.trans (hb.mono HBR.out.size)).size))
          unfold Mg.val
          clear hc hb c0 c1 c2 c3 c4 c5 c6 c7 c8
          go_wp2_with fail
          go_roundw
          case rel => exact ⟨k + 1, by omega, by go_num, HBN.out⟩
          case measure => simp [intOf]; omega
        · obtain rfl : k = K.length := by omega
          have HX2 := Lib.hid (expire_any (HQ3.out.below hbr) (by omega) now)
          have hge : ((K.length : Int) == (L.length : Int) - ((L.length : Int) - (K.length : Int))) = true := by simp; omega
          clear hbr
          go_wp2_with fail
          refine HX2.out.mono ?_
          rintro e w5 ⟨rfl, v5, hs5⟩
          rw [HK2.out]
          have HBE := Lib.hid (((HST3.out.trans (Stp.of_below HBR.out)).trans hs5.stp).below (Nat.le_refl _))
          have hz : ((K.length : Int) - (K.length : Int)) = 0 := by omega
          rw [hz]
          clear hs5 hz
          go_wp2_with fail
          refine (awake_any _).mono ?_
          rintro e wz ⟨rfl, hb⟩
          have HBZ := Lib.hid (HBE.out.trans (hb.mono HBE.out.size))
          clear hb
          go_wp2_with fail
          go_ret
          exact ⟨rfl, HBZ.out⟩
end Go.Proofs.Ytjcdkgdeoeboaaa.QuW
