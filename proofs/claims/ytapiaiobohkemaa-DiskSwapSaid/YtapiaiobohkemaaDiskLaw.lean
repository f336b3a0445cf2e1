/- DiskSwap: its walk. -/
import Derived.Test.YtapiaiobohkemaaDiskDo
set_option linter.unusedVariables false
set_option linter.unusedSimpArgs false
namespace Go.Proofs.Ytapiaiobohkemaa.DiskW
open Go.RowKit Go.Proofs.Ytapiaiobohkemaa.Tc

set_option maxHeartbeats 2000000 in
theorem swap_law (w : World) (room : Int) (A : Option Addr) (len cap : Nat) (acts : List (Int × ByteArray × Int)) (t : ByteArray) (hm : (Lit.int .i64 room).wf = true) (hl : acts.length = len ∧ SliceIs kAct w A acts) (ht' : t.size ≤ 140737488351232) :
    Calls Try.prog 14 #[.int .i64 room, .slice A len cap, .string t] w fun e w' => e = .returned (.bool true) ∧ Below w.heap.size w w' := by
  obtain ⟨rfl, hS⟩ := hl
  have hlen := hS.len
  unfold maxLen at hlen
  have hb := bounds_i64 hm
  have HS := Lib.hid hS
  have HF := Lib.hid (few_any w A cap acts hS)
  clear hS hm
  go_enter Try.func14, Try.ntmps14
  go_wp2_with fail
  refine HF.out.mono ?_
  rintro e w' ⟨⟨fb, rfl, hfew⟩, rfl⟩
  have HFEW := Lib.hid hfew
  clear hfew HF
  by_cases hc : fb = true ∧ t.size ≤ 100
  · obtain ⟨rfl, ht⟩ := hc
    obtain ⟨h40, h100⟩ := HFEW.out rfl
    have H100 := Lib.hid h100
    clear HFEW h100
    go_wp2_with fail
    refine (new_any _ room).mono ?_
    rintro e w1 ⟨rfl, hA, hB⟩
    have I0 : Inv (max room 0) 0 [] := ⟨by omega, by omega, by omega, by simp, by simp; omega⟩
    have hmx : max room 0 = (if 0 < room then room else 0) := by split <;> omega
    generalize hM : max room 0 = M at hA I0 hmx
    have HM := Lib.hid hM
    have HMX := Lib.hid hmx
    have HI0 := Lib.hid I0
    clear hM hmx I0
    go_wp2
    go_loopw [8] (fun x wr => ∃ (k : Nat) (v : Value) (sure : Int) (l : List UInt8), k ≤ acts.length ∧ x = .int .i64 k ∧ At wr w.heap.size v M sure l ∧ Inv M sure l ∧ l.length ≤ 100 * k ∧ Below w.heap.size w wr) (fun x _ => acts.length - (intOf x).toNat)
    case atStart => exact ⟨0, _, 0, [], by omega, rfl, hA, HI0.out, by simp, hB⟩
    case round =>
      obtain ⟨k, v, sure, l, hk, rfl, hA, hI, hL, hB⟩ := hrel
      by_cases hlt : k < acts.length
      · obtain ⟨b, off, rfl, hbl, c0, c1, c2, a2⟩ := act_cells (HS.out.below hB) hlt
        have h100 := H100.out k hlt
        have hdo := do_any wr _ v M sure l hA hI (by omega) acts[k].1 acts[k].2.1 (by omega) acts[k].2.2 a2
        have hI' := pact_inv hI acts[k].1 acts[k].2.1 acts[k].2.2
        have hL' := pact_len M sure l acts[k].1 acts[k].2.1 acts[k].2.2
        generalize pact M sure l acts[k].1 acts[k].2.1 acts[k].2.2 = r at hdo hI' hL'
        have HD := Lib.hid hdo
        have HB := Lib.hid hB
        have HI' := Lib.hid hI'
        clear hdo hA hI hB hI'
        go_wp2_with fail
        refine HD.out.mono ?_
        rintro e w2 ⟨rfl, v2, hA2, hT2⟩
        have HA2 := Lib.hid hA2
        have HBB := Lib.hid (HB.out.trans (hT2.below HB.out.size (by simp)))
        clear hA2 hT2
        go_wp2
        go_roundw
        case rel => exact ⟨k + 1, v2, r.2.1, r.2.2, by omega, by go_num, HA2.out, HI'.out, by omega, HBB.out⟩
        case measure => simp [intOf]; omega
      · obtain rfl : k = acts.length := by omega
        have HBY := Lib.hid (bytes_any wr _ v M sure l hA)
        have HSU := Lib.hid (sure_any wr _ v M sure l hA)
        have HA := Lib.hid hA
        have HB := Lib.hid hB
        have HI := Lib.hid hI
        clear hA hB hI
        go_wp2_with fail
        refine HBY.out.mono ?_
        rintro e w2 ⟨rfl, rfl⟩
        go_wp2_with fail
        refine HSU.out.mono ?_
        rintro e w2 ⟨rfl, rfl⟩
        by_cases hn : (t.size : Int) ≤ M
        · have HSW := Lib.hid (swap_yes wr _ v M sure l HA.out t (by omega) hn)
          go_wp2_with fail
          refine HSW.out.mono ?_
          rintro e w3 ⟨rfl, v3, hA3, hT3⟩
          have HC := Lib.hid (crash_any w3 _ v3 M t.size t.data.toList hA3 (by simp; omega) (by omega) (by simp) 0 (by decide))
          have HB3 := Lib.hid (HB.out.trans (hT3.below HB.out.size (by simp)))
          clear hA3 hT3
          have hcs : (0 < room ∧ M = room) ∨ (room = 0 ∧ M = 0) ∨ (room < 0 ∧ M = 0) := by have := HM.out; omega
          rcases hcs with ⟨q1, q2⟩ | ⟨rfl, q2⟩ | ⟨q1, q2⟩
          · have n1 : (t.size : Int) ≤ room := by omega
            have n2 : ¬ room < (t.size : Int) := by omega
            clear hn
            go_wp2_with fail
            refine HC.out.mono ?_
            rintro e w4 ⟨rfl, v4, hA4, hT4⟩
            have hle : left t.data.toList t.size 0 = t.size := by unfold left; simp
            rw [hle] at hA4
            have htk : t.data.toList.take ((t.size : Int)).toNat = t.data.toList := by rw [Int.toNat_natCast]; exact List.take_of_length_le (by simp)
            rw [htk] at hA4
            have HBY4 := Lib.hid (bytes_any w4 _ v4 M t.size _ hA4)
            have HSU4 := Lib.hid (sure_any w4 _ v4 M t.size _ hA4)
            have HB4 := Lib.hid (HB3.out.trans (hT4.below HB3.out.size (by simp)))
            clear hA4 hT4 hle htk
            go_wp2_with fail
            refine HBY4.out.mono ?_
            rintro e w5 ⟨rfl, rfl⟩
            go_wp2_with fail
            refine HSU4.out.mono ?_
            rintro e w5 ⟨rfl, rfl⟩
            go_wp2_with fail
            refine (pawake_any _).mono ?_
            rintro e w' ⟨rfl, hb'⟩
            have HB' := Lib.hid hb'
            clear hb'
            go_wp2_with fail
            go_ret
            exact ⟨rfl, HB4.out.trans (HB'.out.mono HB4.out.size)⟩
          · have n0 : t.size = 0 := by omega
            obtain rfl : t = ByteArray.empty := ByteArray.ext (Array.eq_empty_of_size_eq_zero n0)
            clear hn n0
            go_wp2_with fail
            refine HC.out.mono ?_
            rintro e w4 ⟨rfl, v4, hA4, hT4⟩
            have hle : left ByteArray.empty.data.toList ByteArray.empty.size 0 = ByteArray.empty.size := by unfold left; simp
            rw [hle] at hA4
            have htk : ByteArray.empty.data.toList.take ((ByteArray.empty.size : Int)).toNat = ByteArray.empty.data.toList := by rw [Int.toNat_natCast]; exact List.take_of_length_le (by simp)
            rw [htk] at hA4
            have HBY4 := Lib.hid (bytes_any w4 _ v4 M ByteArray.empty.size _ hA4)
            have HSU4 := Lib.hid (sure_any w4 _ v4 M ByteArray.empty.size _ hA4)
            have HB4 := Lib.hid (HB3.out.trans (hT4.below HB3.out.size (by simp)))
            clear hA4 hT4 hle htk
            go_wp2_with fail
            refine HBY4.out.mono ?_
            rintro e w5 ⟨rfl, rfl⟩
            go_wp2_with fail
            refine HSU4.out.mono ?_
            rintro e w5 ⟨rfl, rfl⟩
            go_wp2_with fail
            refine (pawake_any _).mono ?_
            rintro e w' ⟨rfl, hb'⟩
            have HB' := Lib.hid hb'
            clear hb'
            go_wp2_with fail
            go_ret
            exact ⟨rfl, HB4.out.trans (HB'.out.mono HB4.out.size)⟩
          · have n0 : t.size = 0 := by omega
            obtain rfl : t = ByteArray.empty := ByteArray.ext (Array.eq_empty_of_size_eq_zero n0)
            clear hn n0
            go_wp2_with fail
            refine HC.out.mono ?_
            rintro e w4 ⟨rfl, v4, hA4, hT4⟩
            have hle : left ByteArray.empty.data.toList ByteArray.empty.size 0 = ByteArray.empty.size := by unfold left; simp
            rw [hle] at hA4
            have htk : ByteArray.empty.data.toList.take ((ByteArray.empty.size : Int)).toNat = ByteArray.empty.data.toList := by rw [Int.toNat_natCast]; exact List.take_of_length_le (by simp)
            rw [htk] at hA4
            have HBY4 := Lib.hid (bytes_any w4 _ v4 M ByteArray.empty.size _ hA4)
            have HSU4 := Lib.hid (sure_any w4 _ v4 M ByteArray.empty.size _ hA4)
            have HB4 := Lib.hid (HB3.out.trans (hT4.below HB3.out.size (by simp)))
            clear hA4 hT4 hle htk
            go_wp2_with fail
            refine HBY4.out.mono ?_
            rintro e w5 ⟨rfl, rfl⟩
            go_wp2_with fail
            refine HSU4.out.mono ?_
            rintro e w5 ⟨rfl, rfl⟩
            go_wp2_with fail
            refine (pawake_any _).mono ?_
            rintro e w' ⟨rfl, hb'⟩
            have HB' := Lib.hid hb'
            clear hb'
            go_wp2_with fail
            go_ret
            exact ⟨rfl, HB4.out.trans (HB'.out.mono HB4.out.size)⟩
        · have HSW := Lib.hid (swap_no wr _ v M sure l HA.out t hn)
          go_wp2_with fail
          refine HSW.out.mono ?_
          rintro e w3 ⟨rfl, rfl⟩
          have hcs : (0 < room ∧ M = room) ∨ (room = 0 ∧ M = 0) ∨ (room < 0 ∧ M = 0) := by have := HM.out; omega
          rcases hcs with ⟨q1, q2⟩ | ⟨rfl, q2⟩ | ⟨q1, q2⟩
          · have n1 : ¬ (t.size : Int) ≤ room := by omega
            have n2 : room < (t.size : Int) := by omega
            clear hn
            go_wp2_with fail
            refine HBY.out.mono ?_
            rintro e w5 ⟨rfl, rfl⟩
            go_wp2_with fail
            refine HSU.out.mono ?_
            rintro e w5 ⟨rfl, rfl⟩
            go_wp2_with fail
            refine (pawake_any _).mono ?_
            rintro e w' ⟨rfl, hb'⟩
            have HB' := Lib.hid hb'
            clear hb'
            go_wp2_with fail
            go_ret
            exact ⟨rfl, HB.out.trans (HB'.out.mono HB.out.size)⟩
          · have n1 : ¬ t.size = 0 := by omega
            have n2 : 0 < t.size := by omega
            clear hn
            go_wp2_with fail
            refine HBY.out.mono ?_
            rintro e w5 ⟨rfl, rfl⟩
            go_wp2_with fail
            refine HSU.out.mono ?_
            rintro e w5 ⟨rfl, rfl⟩
            go_wp2_with fail
            refine (pawake_any _).mono ?_
            rintro e w' ⟨rfl, hb'⟩
            have HB' := Lib.hid hb'
            clear hb'
            go_wp2_with fail
            go_ret
            exact ⟨rfl, HB.out.trans (HB'.out.mono HB.out.size)⟩
          · have n1 : ¬ t.size = 0 := by omega
            have n2 : 0 < t.size := by omega
            clear hn
            go_wp2_with fail
            refine HBY.out.mono ?_
            rintro e w5 ⟨rfl, rfl⟩
            go_wp2_with fail
            refine HSU.out.mono ?_
            rintro e w5 ⟨rfl, rfl⟩
            go_wp2_with fail
            refine (pawake_any _).mono ?_
            rintro e w' ⟨rfl, hb'⟩
            have HB' := Lib.hid hb'
            clear hb'
            go_wp2_with fail
            go_ret
            exact ⟨rfl, HB.out.trans (HB'.out.mono HB.out.size)⟩
  · by_cases h1 : fb = true
    · subst h1
      have h2 : ¬ t.size ≤ 100 := fun h => hc ⟨rfl, h⟩
      clear hc
      go_wp2_with fail
      refine (pawake_any _).mono ?_
      rintro e w' ⟨rfl, hb'⟩
      go_wp2_with fail
      go_ret
      exact ⟨rfl, hb'⟩
    · obtain rfl : fb = false := by simpa using h1
      clear hc h1
      go_wp2_with fail
      refine (pawake_any _).mono ?_
      rintro e w' ⟨rfl, hb'⟩
      go_wp2_with fail
      go_ret
      exact ⟨rfl, hb'⟩
end Go.Proofs.Ytapiaiobohkemaa.DiskW
