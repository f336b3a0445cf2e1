/- DiskSure: its walk. -/
import Derived.Test.YtapiaiobohkemaaDiskDo
set_option linter.unusedVariables false
set_option linter.unusedSimpArgs false
namespace Go.Proofs.Ytapiaiobohkemaa.DiskW
open Go.RowKit Go.Proofs.Ytapiaiobohkemaa.Tc

/-- What is sure stays, but by a swap. -/
theorem pact_sure {room sure : Int} {l : List UInt8} (I : Inv room sure l) {kind : Int} (hk : kind ≠ 4) (t : ByteArray) (keep : Int) :
    sure ≤ (pact room sure l kind t keep).2.1 ∧ (pact room sure l kind t keep).2.2.take sure.toNat = l.take sure.toNat := by
  obtain ⟨h1, h2, h3, h4, h5⟩ := I
  have hl : 0 ≤ left l sure keep ∧ left l sure keep ≤ l.length ∧ sure ≤ left l sure keep := by unfold left; omega
  unfold pact
  repeat' split
  · exact ⟨by simp, by simp only; rw [List.take_append_of_le_length (by omega)]⟩
  · exact ⟨by simp, rfl⟩
  · exact ⟨by simpa using h4, rfl⟩
  · exact ⟨hl.2.2, by simp only; rw [List.take_take]; congr 1; omega⟩
  · exact ⟨by simp, rfl⟩
theorem pact_one {room sure : Int} {l : List UInt8} (t : ByteArray) (keep : Int) :
    ((pact room sure l 1 t keep).1 = true ↔ (t.size : Int) ≤ room - l.length) ∧ ((pact room sure l 1 t keep).1 = false → (pact room sure l 1 t keep).2.2 = l) := by
  unfold pact
  rw [if_pos rfl]
  by_cases h : (t.size : Int) ≤ room - l.length
  · rw [if_pos h]; simp [h]
  · rw [if_neg h]; simp; omega
theorem pact_three {room sure : Int} {l : List UInt8} (I : Inv room sure l) (t : ByteArray) (keep : Int) :
    (pact room sure l 3 t keep).2.2 = l.take (pact room sure l 3 t keep).2.2.length ∧ (pact room sure l 3 t keep).2.1 = (pact room sure l 3 t keep).2.2.length ∧ (pact room sure l 3 t keep).2.2.length ≤ l.length := by
  obtain ⟨h1, h2, h3, h4, h5⟩ := I
  have hl : 0 ≤ left l sure keep ∧ left l sure keep ≤ l.length := by unfold left; omega
  have hp : pact room sure l 3 t keep = (false, left l sure keep, l.take (left l sure keep).toNat) := by
    unfold pact
    rw [if_neg (by decide), if_neg (by decide), if_pos rfl]
  rw [hp]
  simp only
  have e : (l.take (left l sure keep).toNat).length = (left l sure keep).toNat := by rw [List.length_take]; omega
  rw [e]
  exact ⟨rfl, by omega, by omega⟩
theorem extract_eq {a b : List UInt8} {n : Nat} (h : a.take n = b.take n) : (ByteArray.mk a.toArray).extract 0 n = (ByteArray.mk b.toArray).extract 0 n := by
  apply ByteArray.ext
  apply Array.ext'
  simp [ByteArray.data_extract, List.extract_eq_take_drop, h]
theorem quiet_left {P : Program} {f : FuncId} {args : Array Value} {w : World} {n : Nat} {v : Value}
    (h : Calls P f args (w.drewN n) fun e w' => e = .returned v ∧ w.drewN n = w') : Calls P f args (w.drewN n) fun e w'' => e = .returned v ∧ ∃ m, w'' = w.drewN m :=
  h.mono fun _ _ ⟨he, hm⟩ => ⟨he, n, hm.symm⟩

set_option maxHeartbeats 2000000 in
set_option maxRecDepth 100000 in
theorem sure_law (w : World) (room : Int) (A : Option Addr) (len cap : Nat) (acts : List (Int × ByteArray × Int)) (hm : (Lit.int .i64 room).wf = true) (hl : acts.length = len ∧ SliceIs kAct w A acts) :
    Calls Try.prog 13 #[.int .i64 room, .slice A len cap] w fun e w' => e = .returned (.bool true) ∧ Below w.heap.size w w' := by
  obtain ⟨rfl, hS⟩ := hl
  have hlen := hS.len
  unfold maxLen at hlen
  have hb := bounds_i64 hm
  have HS := Lib.hid hS
  have HF := Lib.hid (few_any w A cap acts hS)
  clear hS hm
  go_enter Try.func13, Try.ntmps13
  go_wp2_with fail
  refine HF.out.mono ?_
  rintro e w' ⟨⟨fb, rfl, hfew⟩, rfl⟩
  have HFEW := Lib.hid hfew
  clear hfew HF
  cases fb with
  | false =>
    go_wp2_with fail
    refine (pawake_any _).mono ?_
    rintro e w' ⟨rfl, hb'⟩
    go_wp2_with fail
    go_ret
    exact ⟨rfl, hb'⟩
  | true =>
    obtain ⟨h40, h100⟩ := HFEW.out rfl
    have H100 := Lib.hid h100
    clear HFEW h100
    go_wp2_with fail
    refine (new_any _ room).mono ?_
    rintro e w1 ⟨rfl, hA, hB⟩
    have I0 : Inv (max room 0) 0 [] := ⟨by omega, by omega, by omega, by simp, by simp; omega⟩
    generalize hM : max room 0 = M at hA I0
    have HM := Lib.hid hM
    have HI0 := Lib.hid I0
    clear hM I0
    go_wp2
    go_loopw [6] (fun x wr => ∃ (k : Nat) (v : Value) (sure : Int) (l : List UInt8), k ≤ acts.length ∧ x = .int .i64 k ∧ At wr w.heap.size v M sure l ∧ Inv M sure l ∧ l.length ≤ 100 * k ∧ Below w.heap.size w wr) (fun x _ => acts.length - (intOf x).toNat)
    case atStart => exact ⟨0, _, 0, [], by omega, rfl, hA, HI0.out, by simp, hB⟩
    case round =>
      obtain ⟨k, v, sure, l, hk, rfl, hA, hI, hL, hB⟩ := hrel
      by_cases hlt : k < acts.length
      · obtain ⟨b, off, rfl, hbl, c0, c1, c2, a2⟩ := act_cells (HS.out.below hB) hlt
        have h100 := H100.out k hlt
        by_cases k4 : acts[k].1 = 4
        · have HB := Lib.hid hB
          clear hA hI hB
          go_wp2_with fail
          refine (pawake_any _).mono ?_
          rintro e w' ⟨rfl, hb'⟩
          have HB' := Lib.hid hb'
          clear hb'
          go_wp2
          go_ret
          exact ⟨rfl, HB.out.trans (HB'.out.mono HB.out.size)⟩
        · have hk4 : (acts[k].1 == 4) = false := by simpa using k4
          have HBY := Lib.hid (bytes_any wr _ v M sure l hA)
          have HSU := Lib.hid (sure_any wr _ v M sure l hA)
          have hdo := do_any wr _ v M sure l hA hI (by omega) acts[k].1 acts[k].2.1 (by omega) acts[k].2.2 a2
          have hI' := pact_inv hI acts[k].1 acts[k].2.1 acts[k].2.2
          have hL' := pact_len M sure l acts[k].1 acts[k].2.1 acts[k].2.2
          have hsu := pact_sure hI k4 acts[k].2.1 acts[k].2.2
          have hp1 := fun (e : acts[k].1 = 1) => (by rw [e]; exact pact_one acts[k].2.1 acts[k].2.2 : (((pact M sure l acts[k].1 acts[k].2.1 acts[k].2.2).1 = true ↔ (acts[k].2.1.size : Int) ≤ M - l.length) ∧ ((pact M sure l acts[k].1 acts[k].2.1 acts[k].2.2).1 = false → (pact M sure l acts[k].1 acts[k].2.1 acts[k].2.2).2.2 = l)))
          have hp3 := fun (e : acts[k].1 = 3) => (by rw [e]; exact pact_three hI acts[k].2.1 acts[k].2.2 : ((pact M sure l acts[k].1 acts[k].2.1 acts[k].2.2).2.2 = l.take (pact M sure l acts[k].1 acts[k].2.1 acts[k].2.2).2.2.length ∧ (pact M sure l acts[k].1 acts[k].2.1 acts[k].2.2).2.1 = (pact M sure l acts[k].1 acts[k].2.1 acts[k].2.2).2.2.length ∧ (pact M sure l acts[k].1 acts[k].2.1 acts[k].2.2).2.2.length ≤ l.length))
          generalize pact M sure l acts[k].1 acts[k].2.1 acts[k].2.2 = r at hdo hI' hL' hsu hp1 hp3
          obtain ⟨ok, sure', l'⟩ := r
          simp only at hdo hI' hL' hsu hp1 hp3
          have HP1 := Lib.hid hp1
          have HP3 := Lib.hid hp3
          have HSS := Lib.hid hsu
          have HI' := Lib.hid hI'
          have g0 := hI.s0
          have g1 : ¬ (l.length : Int) < sure := by have := hI.s1; omega
          have g2 : ¬ (l'.length : Int) < sure := by have := hI'.s1; omega
          have g3 : ¬ sure' < sure := by omega
          have g4 : ¬ (l'.length : Int) < sure' := by have := hI'.s1; omega
          have g5 : sure ≤ (l'.length : Int) := by omega
          have g6 : sure ≤ (l.length : Int) := by omega
          have d1 : decide ((l.length : Int) < sure) = false := decide_eq_false g1
          have d2 : decide ((l'.length : Int) < sure) = false := decide_eq_false g2
          have d3 : decide (sure' < sure) = false := decide_eq_false g3
          have d4 : decide ((l'.length : Int) < sure') = false := decide_eq_false g4
          have d5 : (ByteArray.mk l'.toArray).extract 0 sure.toNat = (ByteArray.mk l.toArray).extract 0 sure.toNat := extract_eq hsu.2
          clear hp1 hp3 hsu hI'
          have HB := Lib.hid hB
          have HI := Lib.hid hI
          have HD := Lib.hid hdo
          clear hA hB hI hdo
          go_wp2_with fail
          refine HBY.out.mono ?_
          rintro e w2 ⟨rfl, rfl⟩
          go_wp2_with fail
          refine HSU.out.mono ?_
          rintro e w2 ⟨rfl, rfl⟩
          go_wp2_with fail
          refine HD.out.mono ?_
          rintro e w2 ⟨rfl, v2, hA2, hT2⟩
          have HBY2 := Lib.hid (bytes_any w2 _ v2 M _ _ hA2)
          have HSU2 := Lib.hid (fun n => sure_any (w2.drewN n) _ v2 M _ _ (hA2.drewN n))
          have HA2 := Lib.hid hA2
          clear hA2
          go_wp2_with fail
          refine HBY2.out.mono ?_
          rintro e w3 ⟨rfl, rfl⟩
          go_wp2_with fail
          have hMr := HM.out
          have hlM := HI'.out.len
          have hcs : (0 < room ∧ M = room) ∨ (room = 0 ∧ M = 0) ∨ (room < 0 ∧ M = 0) := by omega
          rcases hcs with ⟨q1, q2⟩ | ⟨rfl, q2⟩ | ⟨q1, q2⟩
          · subst q2
            clear hMr
            have m1 : ¬ M < (l'.length : Int) := by omega
            go_quiet ((go_at_call 48; exact quiet_left (HSU2.out _)))
            have HBB := Lib.hid (below_drewN (HB.out.trans (hT2.below HB.out.size (by simp))) nq)
            have hA3 := HA2.out.drewN nq
            generalize w2.drewN nq = w3 at *
            obtain ⟨b', off', hAA, hbl2, e0, e1, e2, -⟩ := act_cells (HS.out.below HBB.out) hlt
            injection hAA with hAA
            injection hAA with hb1 hb2
            subst hb1
            subst hb2
            have HA3 := Lib.hid hA3
            clear hA3 hT2 d1 d2 d3 d4 d5 g1 g2 g3 g4 g5 g6 hk4 HSU2 HBY2 HD
            by_cases k1 : acts[k].1 = 1
            · have hp := HP1.out k1
              have t1 : (acts[k].1 == 1) = true := by simpa using k1
              have t3 : (acts[k].1 == 3) = false := by rw [k1]; rfl
              cases ok with
              | true =>
                have z1 := hp.1.1 rfl
                clear hp k1
                go_wp2
                go_roundw
                case rel => exact ⟨k + 1, v2, sure', l', by omega, by go_num, HA3.out, HI'.out, by omega, HBB.out⟩
                case measure => simp [intOf]; omega
              | false =>
                have z1 : ¬ (acts[k].2.1.size : Int) ≤ M - l.length := fun h => by simpa using hp.1.2 h
                obtain rfl := hp.2 rfl
                clear hp k1
                go_wp2
                go_roundw
                case rel => exact ⟨k + 1, v2, sure', l', by omega, by go_num, HA3.out, HI'.out, by omega, HBB.out⟩
                case measure => simp [intOf]; omega
            · have t1 : (acts[k].1 == 1) = false := by simpa using k1
              by_cases k3 : acts[k].1 = 3
              · obtain ⟨p1, rfl, p3⟩ := HP3.out k3
                have t3 : (acts[k].1 == 3) = true := by simpa using k3
                have p4 : ¬ l.length < l'.length := by omega
                have p5 : (ByteArray.mk l.toArray).extract 0 l'.length = ByteArray.mk l'.toArray := by
                  apply ByteArray.ext
                  apply Array.ext'
                  simp [ByteArray.data_extract, List.extract_eq_take_drop, ← p1]
                have HSU4 := Lib.hid (sure_any w3 _ v2 M _ _ HA3.out)
                clear p1
                go_wp2_with (go_at_call 48; refine HSU4.out.mono ?_; rintro e w5 ⟨rfl, rfl⟩)
                go_roundw
                case rel => exact ⟨k + 1, v2, _, l', by omega, by go_num, HA3.out, HI'.out, by omega, HBB.out⟩
                case measure => simp [intOf]; omega
              · have t3 : (acts[k].1 == 3) = false := by simpa using k3
                go_wp2
                go_roundw
                case rel => exact ⟨k + 1, v2, sure', l', by omega, by go_num, HA3.out, HI'.out, by omega, HBB.out⟩
                case measure => simp [intOf]; omega
          · subst q2
            clear hMr
            have m1 : ¬ 0 < (l'.length : Int) := by omega
            go_quiet ((go_at_call 48; exact quiet_left (HSU2.out _)))
            have HBB := Lib.hid (below_drewN (HB.out.trans (hT2.below HB.out.size (by simp))) nq)
            have hA3 := HA2.out.drewN nq
            generalize w2.drewN nq = w3 at *
            obtain ⟨b', off', hAA, hbl2, e0, e1, e2, -⟩ := act_cells (HS.out.below HBB.out) hlt
            injection hAA with hAA
            injection hAA with hb1 hb2
            subst hb1
            subst hb2
            have HA3 := Lib.hid hA3
            clear hA3 hT2 d1 d2 d3 d4 d5 g1 g2 g3 g4 g5 g6 hk4 HSU2 HBY2 HD
            by_cases k1 : acts[k].1 = 1
            · have hp := HP1.out k1
              have t1 : (acts[k].1 == 1) = true := by simpa using k1
              have t3 : (acts[k].1 == 3) = false := by rw [k1]; rfl
              cases ok with
              | true =>
                have z1 := hp.1.1 rfl
                clear hp k1
                go_wp2
                go_roundw
                case rel => exact ⟨k + 1, v2, sure', l', by omega, by go_num, HA3.out, HI'.out, by omega, HBB.out⟩
                case measure => simp [intOf]; omega
              | false =>
                have z1 : ¬ (acts[k].2.1.size : Int) ≤ 0 - l.length := fun h => by simpa using hp.1.2 h
                obtain rfl := hp.2 rfl
                clear hp k1
                go_wp2
                go_roundw
                case rel => exact ⟨k + 1, v2, sure', l', by omega, by go_num, HA3.out, HI'.out, by omega, HBB.out⟩
                case measure => simp [intOf]; omega
            · have t1 : (acts[k].1 == 1) = false := by simpa using k1
              by_cases k3 : acts[k].1 = 3
              · obtain ⟨p1, rfl, p3⟩ := HP3.out k3
                have t3 : (acts[k].1 == 3) = true := by simpa using k3
                have p4 : ¬ l.length < l'.length := by omega
                have p5 : (ByteArray.mk l.toArray).extract 0 l'.length = ByteArray.mk l'.toArray := by
                  apply ByteArray.ext
                  apply Array.ext'
                  simp [ByteArray.data_extract, List.extract_eq_take_drop, ← p1]
                have HSU4 := Lib.hid (sure_any w3 _ v2 0 _ _ HA3.out)
                clear p1
                go_wp2_with (go_at_call 48; refine HSU4.out.mono ?_; rintro e w5 ⟨rfl, rfl⟩)
                go_roundw
                case rel => exact ⟨k + 1, v2, _, l', by omega, by go_num, HA3.out, HI'.out, by omega, HBB.out⟩
                case measure => simp [intOf]; omega
              · have t3 : (acts[k].1 == 3) = false := by simpa using k3
                go_wp2
                go_roundw
                case rel => exact ⟨k + 1, v2, sure', l', by omega, by go_num, HA3.out, HI'.out, by omega, HBB.out⟩
                case measure => simp [intOf]; omega
          · subst q2
            clear hMr
            have m1 : ¬ 0 < (l'.length : Int) := by omega
            go_quiet ((go_at_call 48; exact quiet_left (HSU2.out _)))
            have HBB := Lib.hid (below_drewN (HB.out.trans (hT2.below HB.out.size (by simp))) nq)
            have hA3 := HA2.out.drewN nq
            generalize w2.drewN nq = w3 at *
            obtain ⟨b', off', hAA, hbl2, e0, e1, e2, -⟩ := act_cells (HS.out.below HBB.out) hlt
            injection hAA with hAA
            injection hAA with hb1 hb2
            subst hb1
            subst hb2
            have HA3 := Lib.hid hA3
            clear hA3 hT2 d1 d2 d3 d4 d5 g1 g2 g3 g4 g5 g6 hk4 HSU2 HBY2 HD
            by_cases k1 : acts[k].1 = 1
            · have hp := HP1.out k1
              have t1 : (acts[k].1 == 1) = true := by simpa using k1
              have t3 : (acts[k].1 == 3) = false := by rw [k1]; rfl
              cases ok with
              | true =>
                have z1 := hp.1.1 rfl
                clear hp k1
                go_wp2
                go_roundw
                case rel => exact ⟨k + 1, v2, sure', l', by omega, by go_num, HA3.out, HI'.out, by omega, HBB.out⟩
                case measure => simp [intOf]; omega
              | false =>
                have z1 : ¬ (acts[k].2.1.size : Int) ≤ 0 - l.length := fun h => by simpa using hp.1.2 h
                obtain rfl := hp.2 rfl
                clear hp k1
                go_wp2
                go_roundw
                case rel => exact ⟨k + 1, v2, sure', l', by omega, by go_num, HA3.out, HI'.out, by omega, HBB.out⟩
                case measure => simp [intOf]; omega
            · have t1 : (acts[k].1 == 1) = false := by simpa using k1
              by_cases k3 : acts[k].1 = 3
              · obtain ⟨p1, rfl, p3⟩ := HP3.out k3
                have t3 : (acts[k].1 == 3) = true := by simpa using k3
                have p4 : ¬ l.length < l'.length := by omega
                have p5 : (ByteArray.mk l.toArray).extract 0 l'.length = ByteArray.mk l'.toArray := by
                  apply ByteArray.ext
                  apply Array.ext'
                  simp [ByteArray.data_extract, List.extract_eq_take_drop, ← p1]
                have HSU4 := Lib.hid (sure_any w3 _ v2 0 _ _ HA3.out)
                clear p1
                go_wp2_with (go_at_call 48; refine HSU4.out.mono ?_; rintro e w5 ⟨rfl, rfl⟩)
                go_roundw
                case rel => exact ⟨k + 1, v2, _, l', by omega, by go_num, HA3.out, HI'.out, by omega, HBB.out⟩
                case measure => simp [intOf]; omega
              · have t3 : (acts[k].1 == 3) = false := by simpa using k3
                go_wp2
                go_roundw
                case rel => exact ⟨k + 1, v2, sure', l', by omega, by go_num, HA3.out, HI'.out, by omega, HBB.out⟩
                case measure => simp [intOf]; omega
      · obtain rfl : k = acts.length := by omega
        have HB := Lib.hid hB
        clear hA hI hB
        go_wp2_with fail
        refine (pawake_any _).mono ?_
        rintro e w' ⟨rfl, hb'⟩
        have HB' := Lib.hid hb'
        clear hb'
        go_wp2
        go_ret
        exact ⟨rfl, HB.out.trans (HB'.out.mono HB.out.size)⟩
end Go.Proofs.Ytapiaiobohkemaa.DiskW
