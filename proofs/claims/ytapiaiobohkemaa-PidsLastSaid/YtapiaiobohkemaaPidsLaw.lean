/- The three statements on numbers of packets: their walks. -/
import Derived.Test.YtapiaiobohkemaaPidsDo
import Derived.OpenShut
set_option linter.unusedVariables false
set_option linter.unusedSimpArgs false
namespace Go.Proofs.Ytapiaiobohkemaa.PidsW
open Go.RowKit Go.Proofs.Ytapiaiobohkemaa.Tc PidsPure

noncomputable def kI : Kd Try.prog 3 Int := kInt Try.underlying3 (by kernel_rfl)
/-- An act, as it is handed in: its kind and a number. -/
noncomputable def kAct : Kd Try.prog 43 (Int × Int) := kStruct Try.underlying43 rfl (fCons rfl kI (fOne rfl kI)) (by kernel_rfl)
theorem cells43 : Try.prog.cellsOf 43 = 2 := by kernel_rfl
theorem acts_open {H : Type} {enc : TypeId × Value → H} {w : World} {base : Nat} {sp : Nat → Bool} {held : Bool} {A : Option Addr} {len cap : Nat} {d : DataW H} {ps : List MemPlace}
    (h : DataW.Trod enc Try.prog w base sp held 31 (.slice A len cap) d ps) : ∃ xs : List (Int × Int), xs.length = len ∧ SliceIs kAct w A xs := by
  obtain ⟨fuel, hf⟩ := h
  obtain ⟨A', c', xs, hcs, hx⟩ := slice_opens Try.underlying31 (by rw [cells43]; decide) kAct hf
  simp [Value.cells] at hcs
  obtain ⟨rfl, rfl, rfl⟩ := hcs
  exact ⟨xs, rfl, hx⟩
theorem act_cells {w : World} {A : Option Addr} {xs : List (Int × Int)} (h : SliceIs kAct w A xs) {k : Nat} (hk : k < xs.length) :
    ∃ b off, A = some ⟨b, off, none⟩ ∧ b < w.heap.size ∧ w.cell? ⟨b, off + k * 2, none⟩ = some (.int .i64 xs[k].1) ∧ w.cell? ⟨b, off + k * 2 + 1, none⟩ = some (.int .i64 xs[k].2) ∧ (Lit.int .i64 xs[k].1).wf = true ∧ (Lit.int .i64 xs[k].2).wf = true := by
  obtain ⟨b, off, hA, hb, hc⟩ := h.at_ (by omega)
  obtain ⟨cs, ⟨c0, c1, rfl, ⟨h0, w0⟩, ⟨h1, w1⟩⟩, hcell⟩ := hc k xs[k] (List.getElem?_eq_getElem hk)
  subst h0
  subst h1
  rw [cells43] at hcell
  exact ⟨b, off, hA, hb, hcell 0 _ rfl, hcell 1 _ rfl, w0, w1⟩

set_option maxHeartbeats 1000000 in
theorem last_law (w : World) (most : Int) (A : Option Addr) (len cap : Nat) (acts : List (Int × Int)) (hm : (Lit.int .u8 most).wf = true) (hl : acts.length = len ∧ SliceIs kAct w A acts) :
    Calls Try.prog 8 #[.int .u8 most, .slice A len cap] w fun e w' => e = .returned (.bool true) ∧ Below w.heap.size w w' := by
  obtain ⟨rfl, hS⟩ := hl
  have hb := bounds_u8 hm
  have hlen := hS.len
  unfold maxLen at hlen
  by_cases h60 : acts.length ≤ 60
  · go_enter Try.func8, Try.ntmps8
    go_wp2_with fail
    refine (new_any _ most (WalkArith.wf_i64 (by omega))).mono ?_
    rintro e w1 ⟨rfl, hA, hB⟩
    rw [show max 0 (min most 65535) = most by omega] at hA
    have hz : w.heap.size ≤ w.heap.size + 1 := by omega
    have I0 : Inv most 0 [] := ⟨by omega, by omega, by omega, by omega, by simp, by simp⟩
    have HS := Lib.hid hS
    clear hS
    go_wp2
    go_loopw [6] (fun x wr => ∃ (k : Nat) (last : Int) (L : List Int), k ≤ acts.length ∧ x = .int .i64 k ∧ At wr (w.heap.size + 1) w.heap.size most last L ∧ Inv most last L ∧ L.length ≤ k ∧ Below w.heap.size w wr) (fun x _ => acts.length - (intOf x).toNat)
    case atStart => exact ⟨0, 0, [], by omega, rfl, hA, I0, by simp, hB⟩
    case round =>
      obtain ⟨k, last, L, hk, rfl, hA, hI, hL, hB⟩ := hrel
      by_cases hlt : k < acts.length
      · obtain ⟨b, off, rfl, hbl, c0, c1, w0, w1⟩ := act_cells (HS.out.below hB) hlt
        have hdo := do_any wr _ _ most last L hA hI (by omega) acts[k].1 acts[k].2 w1
        have hI' := act_inv hI acts[k].1 acts[k].2
        have hL' := act_len most last L acts[k].1 acts[k].2
        generalize pact most last L acts[k].1 acts[k].2 = r at hdo hI' hL'
        have HD := Lib.hid hdo
        have HB := Lib.hid hB
        clear hdo hA hI hB
        go_wp2_with fail
        refine HD.out.mono ?_
        rintro e w' ⟨rfl, hA', hT'⟩
        have HA' := Lib.hid hA'
        have HT' := Lib.hid hT'
        clear hA' hT'
        go_wp2
        go_roundw
        case rel => exact ⟨k + 1, r.2.1, r.2.2, by omega, by go_num, HA'.out, hI', by omega, HB.out.trans (HT'.out.below HB.out.size (by simp))⟩
        case measure => simp [intOf]; omega
      · obtain rfl : k = acts.length := by omega
        have HB := Lib.hid hB
        have HA := Lib.hid hA
        have HI := Lib.hid hI
        clear hA hI hB
        by_cases hf : most ≤ L.length
        · have hle := len_le HI.out
          have heq : (L.length : Int) = most := by omega
          have hn := next_full wr _ _ most last L HA.out hf
          have HN := Lib.hid hn
          have HE := Lib.hid heq
          clear hn heq hf
          go_wp2_with fail
          refine HN.out.mono ?_
          rintro e w' ⟨rfl, n, rfl⟩
          go_wp2_with fail
          refine (len_any _ _ _ most last L (HA.out.drewN n)).mono ?_
          rintro e w' ⟨rfl, rfl⟩
          rw [HE.out]
          go_wp2_with fail
          refine (pawake_any _).mono ?_
          rintro e w' ⟨rfl, hb'⟩
          have HB' := Lib.hid hb'
          clear hb'
          go_wp2
          go_ret
          exact ⟨rfl, (below_drewN HB.out n).trans (HB'.out.mono HB.out.size)⟩
        · have hf' : (L.length : Int) < most := by omega
          obtain ⟨f1, f2, f3⟩ := free_spec HI.out hf'
          have hr := cand_range (last := last) (show 0 < most by omega) (free most last L)
          have hn := next_yes _ _ wr _ _ most last L HA.out HI.out hf' (seek_free f2 f3)
          generalize hid : cand most last (free most last L) = id at *
          have I2 : Inv most id L := ⟨by omega, by omega, by omega, hr.2, HI.out.in_, HI.out.nodup⟩
          have hag := again I2 hr.1 f2 hf'
          obtain ⟨g1, g2, g3⟩ := free_spec I2 hf'
          have hn2 := fun W h => next_yes _ _ W (w.heap.size + 1) w.heap.size most id L h I2 hf' (seek_free g2 g3)
          generalize hid2 : cand most id (free most id L) = id2 at *
          have hend : (id2 == id) = ((L.length : Int) + 1 == most) := by
            by_cases h : id2 = id
            · have := hag.1 h
              rw [beq_iff_eq.2 h, beq_iff_eq.2 this]
            · have h' : ¬ (L.length : Int) + 1 = most := fun e => h (hag.2 e)
              rw [beq_eq_false_iff_ne.2 h, beq_eq_false_iff_ne.2 h']
          have HN := Lib.hid hn
          have HN2 := Lib.hid hn2
          have HF2 := Lib.hid f2
          have HEND := Lib.hid hend
          clear hn hn2 hid hid2 hag f2 f3 g2 g3 f1 g1 hend hf hf' I2
          go_wp2_with fail
          refine HN.out.mono ?_
          rintro e w1 ⟨rfl, hA1, hT1⟩
          have hfr := free_yes w1 _ _ most id (L ++ [id]) hA1 id (WalkArith.wf_i64 (by omega)) (by simp)
          rw [filter_back HF2.out] at hfr
          have HFR := Lib.hid hfr
          have HT1 := Lib.hid hT1
          clear hfr hA1 hT1
          go_wp2_with fail
          refine HFR.out.mono ?_
          rintro e w2 ⟨rfl, hA2, hT2⟩
          have hn3 := HN2.out w2 hA2
          have HN3 := Lib.hid hn3
          have HT2 := Lib.hid hT2
          clear hn3 hA2 hT2
          go_wp2_with fail
          refine HN3.out.mono ?_
          rintro e w3 ⟨rfl, hA3, hT3⟩
          have hln := len_any w3 _ _ most id2 (L ++ [id2]) hA3
          have HLN := Lib.hid hln
          have HT3 := Lib.hid hT3
          clear hln hA3 hT3
          go_wp2_with fail
          refine HLN.out.mono ?_
          rintro e w4 ⟨rfl, rfl⟩
          have hbool := HEND.out
          go_wp2_with fail
          refine (pawake_any _).mono ?_
          rintro e w' ⟨rfl, hb'⟩
          have HB' := Lib.hid hb'
          clear hb'
          go_wp2
          go_ret
          refine ⟨rfl, ?_⟩
          have t1 := HT1.out.trans ((HT2.out.mono (by simp)).trans HT3.out)
          exact (HB.out.trans (t1.below HB.out.size (by simp))).trans (HB'.out.mono (Nat.le_trans HB.out.size t1.size))
  · go_enter Try.func8, Try.ntmps8
    go_wp2_with fail
    refine (pawake_any _).mono ?_
    rintro e w' ⟨rfl, hb⟩
    go_wp2
    go_ret
    exact ⟨rfl, hb⟩

def zeros : Array Value := Array.replicate 256 (.bool false)
theorem run_zero51 (w : World) : (zeroValue 51).run Try.prog w = .ok (.agg zeros) w := by kernel_rfl
/-- What the loop over the numbers has laid. -/
def Used (w : World) (ub : Nat) (L : List Int) (j : Nat) : Prop :=
  ∃ c : Array Value, w.heap[ub]? = some (.cells c 51 (0, 0)) ∧ c.size = 256 ∧ ∀ i : Nat, 1 ≤ i → i < j → c[i]? = some (.bool (decide ((i : Int) ∈ L)))
theorem Used.set {w : World} {ub : Nat} {L : List Int} {j : Nat} (h : Used w ub L j) (hj : j < 256) : Used (w.setCell ⟨ub, j, none⟩ (.bool (decide ((j : Int) ∈ L)))) ub L (j + 1) := by
  obtain ⟨c, hb, hs, hc⟩ := h
  refine ⟨_, set_of hb j _, by simpa using hs, fun i h1 h2 => ?_⟩
  rw [Array.getElem?_setIfInBounds]
  by_cases e : j = i
  · subst e
    rw [if_pos rfl, if_pos (by omega)]
  · rw [if_neg e]
    exact hc i h1 (by omega)
set_option maxHeartbeats 2000000 in
set_option maxRecDepth 100000 in
theorem fresh_law (w : World) (most : Int) (A : Option Addr) (len cap : Nat) (acts : List (Int × Int)) (hm : (Lit.int .u8 most).wf = true) (hl : acts.length = len ∧ SliceIs kAct w A acts) :
    Calls Try.prog 7 #[.int .u8 most, .slice A len cap] w fun e w' => e = .returned (.bool true) ∧ Below w.heap.size w w' := by
  obtain ⟨rfl, hS⟩ := hl
  have hb := bounds_u8 hm
  have hlen := hS.len
  unfold maxLen at hlen
  by_cases h60 : acts.length ≤ 60
  · go_enter Try.func7, Try.ntmps7
    go_wp2_with fail
    refine (new_any _ most (WalkArith.wf_i64 (by omega))).mono ?_
    rintro e w1 ⟨rfl, hA, hB⟩
    rw [show max 0 (min most 65535) = most by omega] at hA
    have hz : w.heap.size ≤ w.heap.size + 1 := by omega
    have I0 : Inv most 0 [] := ⟨by omega, by omega, by omega, by omega, by simp, by simp⟩
    have HS := Lib.hid hS
    clear hS
    go_wp2
    go_loopw [6] (fun x wr => ∃ (k : Nat) (last : Int) (L : List Int), k ≤ acts.length ∧ x = .int .i64 k ∧ At wr (w.heap.size + 1) w.heap.size most last L ∧ Inv most last L ∧ L.length ≤ k ∧ Below w.heap.size w wr) (fun x _ => acts.length - (intOf x).toNat)
    case atStart => exact ⟨0, 0, [], by omega, rfl, hA, I0, by simp, hB⟩
    case round =>
      obtain ⟨k, last, L, hk, rfl, hA, hI, hL, hB⟩ := hrel
      by_cases hlt : k < acts.length
      · obtain ⟨b, off, rfl, hbl, c0, c1, w0, w1⟩ := act_cells (HS.out.below hB) hlt
        have hln := len_any wr _ _ most last L hA
        have HLN := Lib.hid hln
        clear hln
        by_cases h1 : acts[k].1 = 1
        · have hb1 : (acts[k].1 != 1) = false := by simpa using h1
          have hz51 := run_zero51
          have HA := Lib.hid hA
          have HI := Lib.hid hI
          have HB := Lib.hid hB
          clear hA hI hB h1
          go_wp2_with fail
          refine HLN.out.mono ?_
          rintro e w' ⟨rfl, rfl⟩
          go_wp2
          obtain ⟨wo, rfl⟩ : ∃ wo : World, wo = wr := ⟨_, rfl⟩
          have hsz := HB.out.size
          go_loopw [9] (fun x wr => ∃ j : Nat, 1 ≤ j ∧ j ≤ 256 ∧ x = .int .i64 j ∧ Used wr wo.heap.size L j ∧ Tch [] wo wr) (fun x _ => 256 - (intOf x).toNat)
          case atStart => exact ⟨1, by omega, by omega, rfl, ⟨zeros, heap_alloc_new wo _, rfl, fun i h1 h2 => absurd h1 (by omega)⟩, (Tch.refl _ _).alloc _⟩
          case round =>
            obtain ⟨j, hj1, hj2, rfl, hU, hT⟩ := hrel
            by_cases hj : j < 256
            · have his := is_any wr _ _ most last L (HA.out.kept hT (by simp) (by simp)) j (WalkArith.wf_i64 (by omega))
              have HIS := Lib.hid his
              obtain ⟨c, hcb, hcs, -⟩ := id hU
              obtain ⟨ov, hcell⟩ : ∃ v, wr.cell? ⟨wo.heap.size, j, none⟩ = some v := ⟨c[j]'(by omega), cell_of hcb (by simp)⟩
              have hfree := free_of hcb j
              have HU := Lib.hid (hU.set hj)
              have HT := Lib.hid hT
              clear hcb hcs his hU hT
              go_wp2_with fail
              refine HIS.out.mono ?_
              rintro e w' ⟨rfl, rfl⟩
              go_wp2
              go_roundw
              case rel => exact ⟨j + 1, by omega, by omega, by go_num, HU.out, HT.out.setCell (.inr (Nat.le_refl _)) _⟩
              case measure => simp [intOf]; omega
            · obtain rfl : j = 256 := by omega
              have hA2 := HA.out.kept hT (by simp) (by simp)
              have HA2 := Lib.hid hA2
              have HT := Lib.hid hT
              have HU := Lib.hid hU
              clear hA2 hT hU
              by_cases hf : most ≤ L.length
              · have hle := len_le HI.out
                have hn := next_full wr _ _ most last L HA2.out hf
                have HN := Lib.hid hn
                clear hn
                go_wp2_with fail
                refine HN.out.mono ?_
                rintro e w' ⟨rfl, n, rfl⟩
                have HA3 := Lib.hid (HA2.out.drewN n)
                go_wp2
                go_roundw
                case rel => exact ⟨k + 1, last, L, by omega, by go_num, HA3.out, HI.out, by omega, below_drewN (HB.out.trans (HT.out.below HB.out.size (by simp))) n⟩
                case measure => simp [intOf]; omega
              · have hf' : (L.length : Int) < most := by omega
                obtain ⟨f1, f2, f3⟩ := free_spec HI.out hf'
                have hr := cand_range (last := last) (show 0 < most by omega) (free most last L)
                have hn := next_yes _ _ wr _ _ most last L HA2.out HI.out hf' (seek_free f2 f3)
                have hinv := act_inv HI.out 1 0
                unfold pact at hinv
                rw [if_pos rfl, if_neg hf] at hinv
                simp only at hinv
                generalize hid : cand most last (free most last L) = id at *
                obtain ⟨c, hcb, hcs, hcc⟩ := HU.out
                have hcell : wr.cell? ⟨wo.heap.size, id.toNat, none⟩ = some (.bool (decide (id ∈ L))) := by
                  refine cell_of hcb ?_
                  have := hcc id.toNat (by omega) (by omega)
                  rwa [show ((id.toNat : Nat) : Int) = id by omega] at this
                rw [decide_eq_false f2] at hcell
                have HN := Lib.hid hn
                have HV := Lib.hid hinv
                have HCELL := Lib.hid hcell
                have hsw := lt_of_block hcb
                have hsw2 := lt_of_block HA.out.st
                clear hn hinv hid f2 f3 f1 hcb hcs hcc hcell hf
                go_wp2_with fail
                refine HN.out.mono ?_
                rintro e w3 ⟨rfl, hA3, hT3⟩
                have hcell : w3.cell? ⟨wo.heap.size, id.toNat, none⟩ = some (.bool false) := by
                  rw [World.cell?_of_block (w := wr) (hT3.block _ hsw (by simp; omega))]
                  exact HCELL.out
                have his := is_any w3 _ _ most id (L ++ [id]) hA3 id (WalkArith.wf_i64 (by omega))
                rw [decide_eq_true (by simp : id ∈ L ++ [id])] at his
                have hln := len_any w3 _ _ most id (L ++ [id]) hA3
                rw [show (L ++ [id]).length = L.length + 1 by simp] at hln
                have HIS := Lib.hid his
                have HLN2 := Lib.hid hln
                have HA3 := Lib.hid hA3
                have HT3 := Lib.hid hT3
                clear hA3 hT3 his hln
                go_wp2_with fail
                refine HIS.out.mono ?_
                rintro e w4 ⟨rfl, rfl⟩
                go_wp2_with fail
                refine HLN2.out.mono ?_
                rintro e w4 ⟨rfl, rfl⟩
                go_wp2
                go_roundw
                case rel => exact ⟨k + 1, id, L ++ [id], by omega, by go_num, HA3.out, HV.out, by simp; omega, (HB.out.trans (HT.out.below HB.out.size (by simp))).trans (HT3.out.below (Nat.le_trans HB.out.size HT.out.size) (by simp))⟩
                case measure => simp [intOf]; omega
        · have hb1 : (acts[k].1 != 1) = true := by simpa using h1
          have hdo := do_any wr _ _ most last L hA hI (by omega) acts[k].1 acts[k].2 w1
          have hI' := act_inv hI acts[k].1 acts[k].2
          have hL' := act_len most last L acts[k].1 acts[k].2
          generalize pact most last L acts[k].1 acts[k].2 = r at hdo hI' hL'
          have HD := Lib.hid hdo
          have HB := Lib.hid hB
          clear hdo hA hI hB h1
          go_wp2_with fail
          refine HLN.out.mono ?_
          rintro e w' ⟨rfl, rfl⟩
          go_wp2_with fail
          refine HD.out.mono ?_
          rintro e w' ⟨rfl, hA', hT'⟩
          have HA' := Lib.hid hA'
          have HT' := Lib.hid hT'
          clear hA' hT'
          go_wp2
          go_roundw
          case rel => exact ⟨k + 1, r.2.1, r.2.2, by omega, by go_num, HA'.out, hI', by omega, HB.out.trans (HT'.out.below HB.out.size (by simp))⟩
          case measure => simp [intOf]; omega
      · obtain rfl : k = acts.length := by omega
        have HB := Lib.hid hB
        clear hA hI hB
        go_wp2_with fail
        refine (pawake_any _).mono ?_
        rintro e w' ⟨rfl, hb'⟩
        have HB' := Lib.hid hb'
        clear hb'
        go_wp2
        go_ret
        exact ⟨rfl, HB.out.trans (HB'.out.mono HB.out.size)⟩
  · go_enter Try.func7, Try.ntmps7
    go_wp2_with fail
    refine (pawake_any _).mono ?_
    rintro e w' ⟨rfl, hb⟩
    go_wp2
    go_ret
    exact ⟨rfl, hb⟩
end Go.Proofs.Ytapiaiobohkemaa.PidsW
