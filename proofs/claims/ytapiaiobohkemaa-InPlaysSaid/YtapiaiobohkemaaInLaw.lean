/- InOnce and InAnew: their walks. -/
import Derived.Test.YtapiaiobohkemaaIn
import Derived.Test.YtapiaiobohkemaaKind
import Derived.OpenShut
set_option linter.unusedVariables false
set_option linter.unusedSimpArgs false
namespace Go.Proofs.Ytapiaiobohkemaa.InW
open Go.RowKit Go.Proofs.Ytapiaiobohkemaa.Tc InPure

theorem once_step {most : Int} {L : List (Int × Int)} (I : Inv L) (kind id qos : Int) :
    ((act most L kind id qos).1.1 = 1 ∧ (act most L kind id qos).1.2 = false ∧ getQ L id = 0 ∧ getQ (act most L kind id qos).2 id ≠ 0) ∨
    ((act most L kind id qos).1.1 = 2 ∧ (act most L kind id qos).1.2 = false ∧ getQ L id ≠ 0 ∧ getQ (act most L kind id qos).2 id ≠ 0) ∨
    ((act most L kind id qos).1.1 ≠ 1 ∧ (act most L kind id qos).1.1 ≠ 2 ∧ (act most L kind id qos).1.2 = true ∧ getQ (act most L kind id qos).2 id = 0) ∨
    ((act most L kind id qos).1.1 ≠ 1 ∧ (act most L kind id qos).1.1 ≠ 2 ∧ (act most L kind id qos).1.2 = false ∧ (getQ (act most L kind id qos).2 id = 0 ↔ getQ L id = 0)) := by
  have hz : ∀ x ∈ L, x.2 ≠ 0 := fun x hx => by have := I.q x hx; omega
  unfold act
  by_cases k1 : kind = 1
  · rw [if_pos k1]
    simp only
    unfold take
    by_cases c1 : ¬ (qos = 1 ∨ qos = 2)
    · rw [if_pos c1]; simp
    · rw [if_neg c1]
      by_cases c2 : getQ L id = 2 ∧ qos = 2
      · rw [if_pos c2]; simp [c2.1]
      · rw [if_neg c2]
        by_cases c3 : getQ L id ≠ 0
        · rw [if_pos c3]; simp
        · rw [if_neg c3]
          have c3' : getQ L id = 0 := Decidable.not_not.1 c3
          by_cases c4 : most ≤ L.length
          · rw [if_pos c4]; simp
          · rw [if_neg c4]
            left
            simp only
            rw [getQ_push c3' id hz, if_pos rfl]
            refine ⟨trivial, trivial, c3', by omega⟩
  · rw [if_neg k1]
    by_cases k2 : kind = 2
    · rw [if_pos k2]
      simp only
      rw [getQ_del, if_pos rfl]
      by_cases c : getQ L id = 0
      · simp [c]
      · simp [c]
    · rw [if_neg k2]
      by_cases k3 : kind = 3
      · rw [if_pos k3]
        by_cases c : getQ L id = 2
        · rw [if_pos c]
          simp only
          rw [getQ_del, if_pos rfl]
          simp
        · rw [if_neg c]; simp
      · rw [if_neg k3]; simp
theorem other_step {most : Int} {L : List (Int × Int)} (I : Inv L) (kind id qos : Int) {j : Int} (h : j ≠ id) : getQ (act most L kind id qos).2 j = getQ L j := by
  have hz : ∀ x ∈ L, x.2 ≠ 0 := fun x hx => by have := I.q x hx; omega
  unfold act take
  repeat' split
  all_goals simp only
  all_goals first | rfl | (rw [getQ_del, if_neg h]) | skip
  rename_i c3 c4
  rw [getQ_push (by omega) j hz, if_neg h]
theorem getQ_new {L : List (Int × Int)} (I : Inv L) {i q : Int} (h : getQ L i = 0) : getQ (L ++ [(i, q)]) i = q := by
  rw [getQ_push h i (fun x hx => by have := I.q x hx; omega), if_pos rfl]
theorem del_new {L : List (Int × Int)} (I : Inv L) {i q : Int} (h : getQ L i = 0) : del (L ++ [(i, q)]) i = L := by
  have := del_none I h
  unfold del at this ⊢
  rw [List.filter_append, this]
  simp

noncomputable def kI : Kd Try.prog 3 Int := kInt Try.underlying3 (by kernel_rfl)
/-- An act, as it is handed in: its kind, a number, a QoS. -/
noncomputable def kAct : Kd Try.prog 65 (Int × Int × Int) := kStruct Try.underlying65 rfl (fCons rfl kI (fCons rfl kI (fOne rfl kI))) (by kernel_rfl)
theorem cells65 : Try.prog.cellsOf 65 = 3 := by kernel_rfl
theorem acts_open {H : Type} {enc : TypeId × Value → H} {w : World} {base : Nat} {sp : Nat → Bool} {held : Bool} {A : Option Addr} {len cap : Nat} {d : DataW H} {ps : List MemPlace}
    (h : DataW.Trod enc Try.prog w base sp held 53 (.slice A len cap) d ps) : ∃ xs : List (Int × Int × Int), xs.length = len ∧ SliceIs kAct w A xs := by
  obtain ⟨fuel, hf⟩ := h
  obtain ⟨A', c', xs, hcs, hx⟩ := slice_opens Try.underlying53 (by rw [cells65]; decide) kAct hf
  simp [Value.cells] at hcs
  obtain ⟨rfl, rfl, rfl⟩ := hcs
  exact ⟨xs, rfl, hx⟩
theorem act_cells {w : World} {A : Option Addr} {xs : List (Int × Int × Int)} (h : SliceIs kAct w A xs) {k : Nat} (hk : k < xs.length) :
    ∃ b off, A = some ⟨b, off, none⟩ ∧ b < w.heap.size ∧ w.cell? ⟨b, off + k * 3, none⟩ = some (.int .i64 xs[k].1) ∧ w.cell? ⟨b, off + k * 3 + 1, none⟩ = some (.int .i64 xs[k].2.1) ∧ w.cell? ⟨b, off + k * 3 + 2, none⟩ = some (.int .i64 xs[k].2.2) ∧
      (Lit.int .i64 xs[k].1).wf = true ∧ (Lit.int .i64 xs[k].2.1).wf = true ∧ (Lit.int .i64 xs[k].2.2).wf = true := by
  obtain ⟨b, off, hA, hb, hc⟩ := h.at_ (by omega)
  obtain ⟨cs, ⟨c0, cr, rfl, ⟨h0, w0⟩, ⟨c1, c2, hcr, ⟨h1, w1⟩, ⟨h2, w2⟩⟩⟩, hcell⟩ := hc k xs[k] (List.getElem?_eq_getElem hk)
  subst h0
  subst hcr
  subst h1
  subst h2
  rw [cells65] at hcell
  exact ⟨b, off, hA, hb, hcell 0 _ rfl, hcell 1 _ rfl, hcell 2 _ rfl, w0, w1, w2⟩

/-- What must come. -/
theorem pawake_any (w : World) : Calls Try.prog 32 #[] w fun e w' => e = .returned (.bool true) ∧ Below w.heap.size w w' := by
  have I0 : Inv [] := ⟨by simp, by simp⟩
  have I1 : Inv [(7, 2)] := ⟨by simp, by simp⟩
  have I2 : Inv [(7, 2), (8, 1)] := ⟨by simp, by simp⟩
  go_enter Try.func32, Try.ntmps32
  go_wp2_with fail
  refine (new_any _ 2).mono ?_
  rintro e w1 ⟨rfl, h1, t1⟩
  go_wp2_with fail
  refine (take_any _ _ _ 2 [] h1 I0 (by simp) 7 2 (by decide)).mono ?_
  rintro e w2 ⟨rfl, h2, t2⟩
  rw [show take 2 [] 7 2 = (1, [(7, 2)]) by decide] at h2 ⊢
  go_wp2_with fail
  refine (take_any _ _ _ 2 [(7, 2)] h2 I1 (by simp) 7 2 (by decide)).mono ?_
  rintro e w3 ⟨rfl, h3, t3⟩
  rw [show take 2 [(7, 2)] 7 2 = (2, [(7, 2)]) by decide] at h3 ⊢
  go_wp2_with fail
  refine (take_any _ _ _ 2 [(7, 2)] h3 I1 (by simp) 7 1 (by decide)).mono ?_
  rintro e w4 ⟨rfl, h4, t4⟩
  rw [show take 2 [(7, 2)] 7 1 = (4, [(7, 2)]) by decide] at h4 ⊢
  go_wp2_with fail
  refine (take_any _ _ _ 2 [(7, 2)] h4 I1 (by simp) 8 1 (by decide)).mono ?_
  rintro e w5 ⟨rfl, h5, t5⟩
  rw [show take 2 [(7, 2)] 8 1 = (1, [(7, 2), (8, 1)]) by decide] at h5 ⊢
  go_wp2_with fail
  refine (take_any _ _ _ 2 [(7, 2), (8, 1)] h5 I2 (by simp) 9 1 (by decide)).mono ?_
  rintro e w6 ⟨rfl, h6, t6⟩
  rw [show take 2 [(7, 2), (8, 1)] 9 1 = (3, [(7, 2), (8, 1)]) by decide] at h6 ⊢
  go_wp2_with fail
  refine (release_any _ _ _ 2 [(7, 2), (8, 1)] h6 I2 8 (by decide)).mono ?_
  rintro e w7 ⟨rfl, h7, t7⟩
  rw [show getQ [(7, 2), (8, 1)] 8 = 1 by decide, if_neg (by decide)] at h7
  rw [show getQ [(7, 2), (8, 1)] 8 = 1 by decide]
  go_wp2_with fail
  refine (done_any _ _ _ 2 [(7, 2), (8, 1)] h7 I2 8 (by decide)).mono ?_
  rintro e w8 ⟨rfl, h8, t8⟩
  rw [show del [(7, 2), (8, 1)] 8 = [(7, 2)] by decide] at h8
  rw [show getQ [(7, 2), (8, 1)] 8 = 1 by decide]
  go_wp2_with fail
  refine (release_any _ _ _ 2 [(7, 2)] h8 I1 7 (by decide)).mono ?_
  rintro e w9 ⟨rfl, h9, t9⟩
  rw [show getQ [(7, 2)] 7 = 2 by decide, if_pos rfl, show del [(7, 2)] 7 = [] by decide] at h9
  rw [show getQ [(7, 2)] 7 = 2 by decide]
  go_wp2_with fail
  refine (len_any _ _ _ 2 [] h9).mono ?_
  rintro e w10 ⟨rfl, rfl⟩
  go_wp2_with fail
  go_ret
  refine ⟨rfl, ?_⟩
  have a := (((((((((Tch.of_below (S := [w.heap.size]) t1).trans t2).trans t3).trans t4).trans t5).trans t6).trans t7).trans t8).trans t9)
  exact a.below (Nat.le_refl _) (by simp)

set_option maxHeartbeats 2000000 in
theorem once_law (w : World) (most : Int) (A : Option Addr) (len cap : Nat) (acts : List (Int × Int × Int)) (id : Int) (hm : (Lit.int .i64 most).wf = true) (hl : acts.length = len ∧ SliceIs kAct w A acts) (hid : (Lit.int .i64 id).wf = true) :
    Calls Try.prog 10 #[.int .i64 most, .slice A len cap, .int .i64 id] w fun e w' => e = .returned (.bool true) ∧ Below w.heap.size w w' := by
  obtain ⟨rfl, hS⟩ := hl
  have hlen := hS.len
  unfold maxLen at hlen
  by_cases h60 : acts.length ≤ 60
  · go_enter Try.func10, Try.ntmps10
    go_wp2_with fail
    refine (new_any _ most).mono ?_
    rintro e w1 ⟨rfl, hA, hB⟩
    have I0 : Inv [] := ⟨by simp, by simp⟩
    have HS := Lib.hid hS
    have hs0 : w.heap.size ≤ w.heap.size + 1 := by omega
    clear hS
    go_wp2
    go_loopw [8, 9] (fun t x wr => ∃ (k : Nat) (L : List (Int × Int)), k ≤ acts.length ∧ x = .int .i64 k ∧ t = .bool (decide (getQ L id ≠ 0)) ∧ At wr (w.heap.size + 1) w.heap.size most L ∧ Inv L ∧ L.length ≤ k ∧ (L.length : Int) ≤ max most 0 ∧ Below w.heap.size w wr) (fun _ x _ => acts.length - (intOf x).toNat)
    case atStart => exact ⟨0, [], by omega, rfl, rfl, hA, I0, by simp, by simp; omega, hB⟩
    case round =>
      obtain ⟨k, L, hk, rfl, rfl, hA, hI, hL, hR, hB⟩ := hrel
      by_cases hlt : k < acts.length
      · obtain ⟨b, off, rfl, hbl, c0, c1, c2, w0, w1, w2⟩ := act_cells (HS.out.below hB) hlt
        have hmlt : w.heap.size < wr.heap.size := hA.mp.lt
        have hT0 : Tch [] wr (wr.alloc (.cells #[.int .i64 acts[k].1, .int .i64 acts[k].2.1, .int .i64 acts[k].2.2] 65)) := (Tch.refl _ _).alloc _
        have hdo := do_any _ _ _ most L (hA.kept hT0 (by simp) (by simp)) hI (by omega) acts[k].1 acts[k].2.1 acts[k].2.2 w1
        have hI' := act_inv (most := most) hI acts[k].1 acts[k].2.1 acts[k].2.2
        have hL' := act_len most L acts[k].1 acts[k].2.1 acts[k].2.2
        have hR' := act_room hR acts[k].1 acts[k].2.1 acts[k].2.2
        have hone := once_step (most := most) hI acts[k].1 acts[k].2.1 acts[k].2.2
        have hoth := fun (h : id ≠ acts[k].2.1) => other_step (most := most) (j := id) hI acts[k].1 acts[k].2.1 acts[k].2.2 h
        generalize act most L acts[k].1 acts[k].2.1 acts[k].2.2 = r at hdo hI' hL' hR' hone hoth
        have HD := Lib.hid hdo
        have HB := Lib.hid hB
        have HO := Lib.hid hone
        have HX := Lib.hid hoth
        have HT0 := Lib.hid hT0
        clear hdo hA hI hB hone hoth hT0
        go_wp2_with fail
        refine HD.out.mono ?_
        rintro e w2 ⟨rfl, hA2, hT2⟩
        have hcell : w2.cell? ⟨wr.heap.size, 1, none⟩ = some (.int .i64 acts[k].2.1) := by
          rw [World.cell?_of_block (w := wr.alloc (.cells #[.int .i64 acts[k].1, .int .i64 acts[k].2.1, .int .i64 acts[k].2.2] 65)) (hT2.block _ (by simp) (by simp; omega))]
          exact cell_of (heap_alloc_new wr _) rfl
        have HLN := Lib.hid (len_any _ _ _ most r.2 hA2)
        have HA2 := Lib.hid hA2
        have HT2 := Lib.hid hT2
        have HBB := Lib.hid (HB.out.trans (((HT0.out.mono (by simp)).trans HT2.out).below HB.out.size (by simp)))
        clear hA2 hT2
        go_wp2_with fail
        refine HLN.out.mono ?_
        rintro e w3 ⟨rfl, rfl⟩
        have hmx : ¬ max most 0 < (r.2.length : Int) := by omega
        by_cases hid2 : acts[k].2.1 = id
        · have q0 : (acts[k].2.1 != id) = false := by simpa using hid2
          have hO := HO.out
          rw [hid2] at hO
          clear HO HX hid2
          rcases hO with ⟨o1, o2, o3, o4⟩ | ⟨o1, o2, o3, o4⟩ | ⟨o1, o2, o3, o4⟩ | ⟨o1, o2, o3, o4⟩
          · have q1 : decide (getQ L id = 0) = true := by simpa using o3
            have HV := Lib.hid (show decide (getQ r.2 id ≠ 0) = true by simpa using o4)
            clear o3 o4
            go_wp2_with fail
            go_roundw
            case rel => exact ⟨k + 1, r.2, by omega, by go_num, by rw [HV.out], HA2.out, hI', by omega, hR', HBB.out⟩
            case measure => simp [intOf]; omega
          · have q1 : decide (getQ L id = 0) = false := by simpa using o3
            have HV := Lib.hid (show decide (getQ r.2 id ≠ 0) = true by simpa using o4)
            clear o3 o4
            go_wp2_with fail
            go_roundw
            case rel => exact ⟨k + 1, r.2, by omega, by go_num, by rw [HV.out], HA2.out, hI', by omega, hR', HBB.out⟩
            case measure => simp [intOf]; omega
          · have q1 : (r.1.1 == 1) = false := by simpa using o1
            have q2 : (r.1.1 == 2) = false := by simpa using o2
            have HV := Lib.hid (show decide (getQ r.2 id ≠ 0) = false by simpa using o4)
            clear o1 o2 o4
            go_wp2_with fail
            go_roundw
            case rel => exact ⟨k + 1, r.2, by omega, by go_num, by rw [HV.out], HA2.out, hI', by omega, hR', HBB.out⟩
            case measure => simp [intOf]; omega
          · have q1 : (r.1.1 == 1) = false := by simpa using o1
            have q2 : (r.1.1 == 2) = false := by simpa using o2
            have HV := Lib.hid o4
            clear o1 o2 o4
            go_wp2_with fail
            go_roundw
            case rel => exact ⟨k + 1, r.2, by omega, by go_num, by simp [HV.out], HA2.out, hI', by omega, hR', HBB.out⟩
            case measure => simp [intOf]; omega
        · have q0 : (acts[k].2.1 != id) = true := by simpa using hid2
          have HV := Lib.hid (HX.out fun e => hid2 e.symm)
          clear HO HX hid2
          go_wp2_with fail
          go_roundw
          case rel => exact ⟨k + 1, r.2, by omega, by go_num, by simp [HV.out], HA2.out, hI', by omega, hR', HBB.out⟩
          case measure => simp [intOf]; omega
      · obtain rfl : k = acts.length := by omega
        have HB := Lib.hid hB
        clear hA hI hB
        go_wp2_with fail
        refine (pawake_any _).mono ?_
        rintro e w' ⟨rfl, hb'⟩
        have HB' := Lib.hid hb'
        clear hb'
        go_wp2
        go_ret
        exact ⟨rfl, HB.out.trans (HB'.out.mono HB.out.size)⟩
  · go_enter Try.func10, Try.ntmps10
    go_wp2_with fail
    refine (pawake_any _).mono ?_
    rintro e w' ⟨rfl, hb⟩
    go_wp2
    go_ret
    exact ⟨rfl, hb⟩

set_option maxHeartbeats 2000000 in
theorem anew_law (w : World) (most : Int) (A : Option Addr) (len cap : Nat) (acts : List (Int × Int × Int)) (id : Int) (hm : (Lit.int .i64 most).wf = true) (hl : acts.length = len ∧ SliceIs kAct w A acts) (hid : (Lit.int .i64 id).wf = true) :
    Calls Try.prog 11 #[.int .i64 most, .slice A len cap, .int .i64 id] w fun e w' => e = .returned (.bool true) ∧ Below w.heap.size w w' := by
  obtain ⟨rfl, hS⟩ := hl
  have hlen := hS.len
  unfold maxLen at hlen
  by_cases h60 : acts.length ≤ 60
  · go_enter Try.func11, Try.ntmps11
    go_wp2_with fail
    refine (new_any _ most).mono ?_
    rintro e w1 ⟨rfl, hA, hB⟩
    have I0 : Inv [] := ⟨by simp, by simp⟩
    have HS := Lib.hid hS
    have hs0 : w.heap.size ≤ w.heap.size + 1 := by omega
    clear hS
    go_wp2
    go_loopw [8] (fun x wr => ∃ (k : Nat) (L : List (Int × Int)), k ≤ acts.length ∧ x = .int .i64 k ∧ At wr (w.heap.size + 1) w.heap.size most L ∧ Inv L ∧ L.length ≤ k ∧ Below w.heap.size w wr) (fun x _ => acts.length - (intOf x).toNat)
    case atStart => exact ⟨0, [], by omega, rfl, hA, I0, by simp, hB⟩
    case round =>
      obtain ⟨k, L, hk, rfl, hA, hI, hL, hB⟩ := hrel
      by_cases hlt : k < acts.length
      · obtain ⟨b, off, rfl, hbl, c0, c1, c2, w0, w1, w2⟩ := act_cells (HS.out.below hB) hlt
        have hdo := do_any _ _ _ most L hA hI (by omega) acts[k].1 acts[k].2.1 acts[k].2.2 w1
        have hI' := act_inv (most := most) hI acts[k].1 acts[k].2.1 acts[k].2.2
        have hL' := act_len most L acts[k].1 acts[k].2.1 acts[k].2.2
        generalize act most L acts[k].1 acts[k].2.1 acts[k].2.2 = r at hdo hI' hL'
        have HD := Lib.hid hdo
        have HB := Lib.hid hB
        clear hdo hA hI hB
        go_wp2_with fail
        refine HD.out.mono ?_
        rintro e w2 ⟨rfl, hA2, hT2⟩
        have HA2 := Lib.hid hA2
        have HBB := Lib.hid (HB.out.trans (hT2.below HB.out.size (by simp)))
        clear hA2 hT2
        go_wp2
        go_roundw
        case rel => exact ⟨k + 1, r.2, by omega, by go_num, HA2.out, hI', by omega, HBB.out⟩
        case measure => simp [intOf]; omega
      · obtain rfl : k = acts.length := by omega
        have hdn := done_any wr _ _ most L hA hI id hid
        have hI2 := del_inv hI id
        have hL2 := del_len L id
        have hg : getQ (del L id) id = 0 := by rw [getQ_del, if_pos rfl]
        generalize del L id = M at hdn hI2 hL2 hg
        generalize decide (getQ L id ≠ 0) = dn at hdn
        have HB := Lib.hid hB
        have HDN := Lib.hid hdn
        clear hA hI hB hdn
        go_wp2_with fail
        refine HDN.out.mono ?_
        rintro e w2 ⟨rfl, hA2, hT2⟩
        have HLN := Lib.hid (len_any _ _ _ most M hA2)
        have HA2 := Lib.hid hA2
        have HBB := Lib.hid (HB.out.trans (hT2.below HB.out.size (by simp)))
        clear hA2 hT2
        go_wp2_with fail
        refine HLN.out.mono ?_
        rintro e w3 ⟨rfl, rfl⟩
        clear HLN HDN
        go_wp2
        obtain ⟨wo, rfl⟩ : ∃ wo : World, wo = w2 := ⟨_, rfl⟩
        have hGN := fun q => getQ_new (q := q) hI2 hg
        have hDN := fun q => del_new (q := q) hI2 hg
        have HGN := Lib.hid hGN
        have HDN := Lib.hid hDN
        clear hGN hDN
        go_loopw [10] (fun x wr => ∃ (q : Nat), 1 ≤ q ∧ q ≤ 3 ∧ x = .int .i64 q ∧ At wr (w.heap.size + 1) w.heap.size most M ∧ Below w.heap.size w wr) (fun x _ => 3 - (intOf x).toNat)
        case atStart => exact ⟨1, by omega, by omega, rfl, HA2.out, HBB.out⟩
        case round =>
          obtain ⟨q, hq1, hq3, rfl, hA3, hB3⟩ := hrel
          by_cases hq : q = 3
          · subst hq
            have HB3 := Lib.hid hB3
            clear hA3 hB3
            go_wp2_with fail
            refine (pawake_any _).mono ?_
            rintro e w' ⟨rfl, hb'⟩
            have HB' := Lib.hid hb'
            clear hb'
            go_wp2
            go_ret
            exact ⟨rfl, HB3.out.trans (HB'.out.mono HB3.out.size)⟩
          · have ht := take_any wr _ _ most M hA3 hI2 (by omega) id q hid
            have hq12 : (q : Int) = 1 ∨ (q : Int) = 2 := by omega
            have htk : take most M id q = if most ≤ M.length then (3, M) else (1, M ++ [(id, (q : Int))]) := by
              unfold take
              rw [if_neg (by omega), if_neg (by omega), if_neg (by omega)]
            rw [htk] at ht
            have HB3 := Lib.hid hB3
            clear hB3 htk
            by_cases hf : most ≤ M.length
            · rw [if_pos hf] at ht
              have d1 : decide ((M.length : Int) < most) = false := by simpa using hf
              have HT := Lib.hid ht
              clear ht hA3 hf
              go_wp2_with fail
              refine HT.out.mono ?_
              rintro e w4 ⟨rfl, hA4, hT4⟩
              have HLN := Lib.hid (len_any _ _ _ most M hA4)
              have HA4 := Lib.hid hA4
              have HB4 := Lib.hid (HB3.out.trans (hT4.below HB3.out.size (by simp)))
              clear hA4 hT4
              go_wp2_with fail
              refine HLN.out.mono ?_
              rintro e w5 ⟨rfl, rfl⟩
              go_wp2
              go_roundw
              case rel => exact ⟨q + 1, by omega, by omega, by go_num, HA4.out, HB4.out⟩
              case measure => simp [intOf]; omega
            · rw [if_neg hf] at ht
              have d1 : decide ((M.length : Int) < most) = true := by simpa using hf
              have hI3 : Inv (M ++ [(id, (q : Int))]) := push_inv hI2 hg hq12
              have HT := Lib.hid ht
              clear ht hA3 hf
              go_wp2_with fail
              refine HT.out.mono ?_
              rintro e w4 ⟨rfl, hA4, hT4⟩
              have hrl := release_any _ _ _ most _ hA4 hI3 id hid
              rw [HGN.out, HDN.out] at hrl
              have HB4 := Lib.hid (HB3.out.trans (hT4.below HB3.out.size (by simp)))
              have HI3 := Lib.hid hI3
              clear hA4 hT4 hI3
              rcases hq12 with hq | hq
              · obtain rfl : q = 1 := by omega
                rw [if_neg (by decide), decide_eq_false (by decide)] at hrl
                have HRL := Lib.hid hrl
                clear hrl hq
                go_wp2_with fail
                refine HRL.out.mono ?_
                rintro e w5 ⟨rfl, hA5, hT5⟩
                have hd := done_any _ _ _ most _ hA5 HI3.out id hid
                rw [HGN.out, HDN.out, decide_eq_true (by decide)] at hd
                have HD := Lib.hid hd
                have HB5 := Lib.hid (HB4.out.trans (hT5.below HB4.out.size (by simp)))
                clear hA5 hT5 hd
                go_wp2_with fail
                refine HD.out.mono ?_
                rintro e w6 ⟨rfl, hA6, hT6⟩
                have HLN := Lib.hid (len_any _ _ _ most M hA6)
                have HA6 := Lib.hid hA6
                have HB6 := Lib.hid (HB5.out.trans (hT6.below HB5.out.size (by simp)))
                clear hA6 hT6
                go_wp2_with fail
                refine HLN.out.mono ?_
                rintro e w7 ⟨rfl, rfl⟩
                go_wp2
                go_roundw
                case rel => exact ⟨2, by omega, by omega, by go_num, HA6.out, HB6.out⟩
                case measure => simp [intOf]
              · obtain rfl : q = 2 := by omega
                rw [if_pos (by decide), decide_eq_true (by decide)] at hrl
                have HRL := Lib.hid hrl
                clear hrl hq
                go_wp2_with fail
                refine HRL.out.mono ?_
                rintro e w5 ⟨rfl, hA5, hT5⟩
                have hd := done_any _ _ _ most _ hA5 hI2 id hid
                rw [hg, del_none hI2 hg, decide_eq_false (by decide)] at hd
                have HD := Lib.hid hd
                have HB5 := Lib.hid (HB4.out.trans (hT5.below HB4.out.size (by simp)))
                clear hA5 hT5 hd
                go_wp2_with fail
                refine HD.out.mono ?_
                rintro e w6 ⟨rfl, hA6, hT6⟩
                have HLN := Lib.hid (len_any _ _ _ most M hA6)
                have HA6 := Lib.hid hA6
                have HB6 := Lib.hid (HB5.out.trans (hT6.below HB5.out.size (by simp)))
                clear hA6 hT6
                go_wp2_with fail
                refine HLN.out.mono ?_
                rintro e w7 ⟨rfl, rfl⟩
                go_wp2
                go_roundw
                case rel => exact ⟨3, by omega, by omega, by go_num, HA6.out, HB6.out⟩
                case measure => simp [intOf]
  · go_enter Try.func11, Try.ntmps11
    go_wp2_with fail
    refine (pawake_any _).mono ?_
    rintro e w' ⟨rfl, hb⟩
    go_wp2
    go_ret
    exact ⟨rfl, hb⟩
end Go.Proofs.Ytapiaiobohkemaa.InW
