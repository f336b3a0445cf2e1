/- Records: the first one of a text. -/
import Derived.Test.YthpplbigmolnjaaDoorWalC
set_option linter.unusedVariables false
set_option linter.unusedSimpArgs false
set_option maxRecDepth 100000
namespace Go.Proofs.YthpplbigmolnjaaDoor.WalW
open Go.RowKit Go.Proofs.YthpplbigmolnjaaDoor.Tc Go.Proofs.YthpplbigmolnjaaDoor.DiskW WalP Go.Proofs.YthpplbigmolnjaaDoor.FltW

theorem tb {w w1 w2 : World} (hB : Below w.heap.size w w1) (hT : Tch [w.heap.size] w1 w2) : Below w.heap.size w w2 := hB.trans (hT.below hB.size (by simp))
theorem tb0 {w w1 w2 : World} (hB : Below w.heap.size w w1) (hT : Tch [] w1 w2) : Below w.heap.size w w2 := hB.trans (hT.below hB.size (by simp))
/-- What 'first' hands back. -/
def FPost (l : List UInt8) (w : World) (e : Ending) (w' : World) : Prop :=
  (∃ s ok, e = .returned (.tuple #[.string s, .bool ok]) ∧ ((ok = true ∧ ∃ b, first l = some b ∧ s = tx b) ∨ (ok = false ∧ first l = none))) ∧ Below w.heap.size w w'
set_option maxHeartbeats 4000000 in
theorem first_short4 (l : List UInt8) (w : World) (a : Nat → Addr) (hE : EnvF w a) (h4 : l.length < 4) : Calls Tryd.prog 44 #[.string (tx l)] w (FPost l w) := by
  generalize hP : FPost l w = PP
  have HPP := Lib.hid (show ∀ s w', Below w.heap.size w w' → PP (.returned (.tuple #[.string s, .bool false])) w' from fun s w' hb => by
    rw [← hP]
    exact ⟨⟨s, false, rfl, .inr ⟨rfl, first_short (by omega)⟩⟩, hb⟩)
  have HN := Lib.hid (new_rd l w)
  have HE := Lib.hid hE
  clear hP hE
  go_enter Tryd.func44, Tryd.ntmps44
  go_wp2_with fail
  refine HN.out.mono ?_
  rintro e w1 ⟨rfl, hR, hB⟩
  have HB := Lib.hid hB
  have HU := Lib.hid (u32_short w1 _ l 0 hR (by omega) (by omega) (by omega) a (HE.out.below hB))
  clear hR hB
  go_wp2_with fail
  refine HU.out.mono ?_
  rintro e w2 ⟨rfl, ⟨v, hR⟩, hT⟩
  have HB2 := Lib.hid (tb HB.out hT)
  have HU2 := Lib.hid (u32_off w2 _ l 0 _ _ hR)
  clear hR hT
  go_wp2_with fail
  refine HU2.out.mono ?_
  rintro e w3 ⟨rfl, hR, hT⟩
  have HB3 := Lib.hid (tb0 HB2.out hT)
  have HR3 := Lib.hid (raw_off w3 _ l 0 0 _ _ hR)
  have HE3 := Lib.hid (err_any w3 _ l 0 _ hR)
  clear hR hT
  go_wp2_with fail
  refine HR3.out.mono ?_
  rintro e w4 ⟨rfl, rfl⟩
  go_wp2_with fail
  refine HE3.out.mono ?_
  rintro e w4 ⟨rfl, rfl⟩
  go_wp2_with fail
  exact HPP.out _ _ HB3.out
set_option maxHeartbeats 4000000 in
theorem first_short8 (l : List UInt8) (w : World) (a : Nat → Addr) (hE : EnvF w a) (h4 : 4 ≤ l.length) (h8 : l.length < 8) : Calls Tryd.prog 44 #[.string (tx l)] w (FPost l w) := by
  generalize hP : FPost l w = PP
  have HPP := Lib.hid (show ∀ s w', Below w.heap.size w w' → PP (.returned (.tuple #[.string s, .bool false])) w' from fun s w' hb => by
    rw [← hP]
    exact ⟨⟨s, false, rfl, .inr ⟨rfl, first_short (by omega)⟩⟩, hb⟩)
  have HN := Lib.hid (new_rd l w)
  have HE := Lib.hid hE
  clear hP hE
  go_enter Tryd.func44, Tryd.ntmps44
  go_wp2_with fail
  refine HN.out.mono ?_
  rintro e w1 ⟨rfl, hR, hB⟩
  have HB := Lib.hid hB
  have HU := Lib.hid (u32_ok w1 _ l 0 hR (by omega) (by omega))
  generalize (val ((l.drop 0).take 4) : Int) = n at HU
  clear hR hB
  go_wp2_with fail
  refine HU.out.mono ?_
  rintro e w2 ⟨rfl, hR, hT⟩
  have HB2 := Lib.hid (tb HB.out hT)
  have HU2 := Lib.hid (u32_short w2 _ l (0 + 4) hR (by omega) (by omega) (by omega) a (HE.out.below HB2.out))
  clear hR hT
  go_wp2_with fail
  refine HU2.out.mono ?_
  rintro e w3 ⟨rfl, ⟨v, hR⟩, hT⟩
  have HB3 := Lib.hid (tb HB2.out hT)
  have HR3 := Lib.hid (raw_off w3 _ l _ n _ _ hR)
  have HE3 := Lib.hid (err_any w3 _ l _ _ hR)
  clear hR hT
  by_cases hn : 65536 < n
  · go_wp2_with fail
    exact HPP.out _ _ HB3.out
  · go_wp2_with fail
    refine HR3.out.mono ?_
    rintro e w4 ⟨rfl, rfl⟩
    go_wp2_with fail
    refine HE3.out.mono ?_
    rintro e w4 ⟨rfl, rfl⟩
    go_wp2_with fail
    exact HPP.out _ _ HB3.out
set_option maxHeartbeats 4000000 in
theorem first_long (l : List UInt8) (w : World) (a : Nat → Addr) (hE : EnvF w a) (h8 : 8 ≤ l.length) (hl : l.length ≤ 1000000) : Calls Tryd.prog 44 #[.string (tx l)] w (FPost l w) := by
  generalize hP : FPost l w = PP
  have HNO := Lib.hid (show first l = none → ∀ s w', Below w.heap.size w w' → PP (.returned (.tuple #[.string s, .bool false])) w' from fun h s w' hb => by
    rw [← hP]
    exact ⟨⟨s, false, rfl, .inr ⟨rfl, h⟩⟩, hb⟩)
  have HYES := Lib.hid (show ∀ b, first l = some b → ∀ w', Below w.heap.size w w' → PP (.returned (.tuple #[.string (tx b), .bool true])) w' from fun b h w' hb => by
    rw [← hP]
    exact ⟨⟨tx b, true, rfl, .inl ⟨rfl, b, h, rfl⟩⟩, hb⟩)
  have HN := Lib.hid (new_rd l w)
  have HE := Lib.hid hE
  have HF := Lib.hid (show first l = if 65536 < val (l.take 4) then none
    else if l.length - 8 < val (l.take 4) then none
    else if crc (num4 (val (l.take 4)) ++ (l.drop 8).take (val (l.take 4))) = val ((l.drop 4).take 4) then some ((l.drop 8).take (val (l.take 4))) else none by
      conv => lhs; unfold first
      rw [if_neg (by omega)])
  have hvl := val_lt (l := l.take 4) (by rw [List.length_take]; omega)
  have HS := Lib.hid (val_lt (l := (l.drop 4).take 4) (by rw [List.length_take]; omega))
  obtain ⟨N, hN⟩ : ∃ N, N = val (l.take 4) := ⟨_, rfl⟩
  obtain ⟨S, hS⟩ : ∃ S, S = val ((l.drop 4).take 4) := ⟨_, rfl⟩
  rw [← hN] at HF hvl
  rw [← hS] at HF HS
  have HNN := Lib.hid hN
  have HSS := Lib.hid hS
  obtain ⟨n, hn⟩ : ∃ n : Int, n = N := ⟨_, rfl⟩
  obtain ⟨s2, hs2⟩ : ∃ n : Int, n = S := ⟨_, rfl⟩
  have HNI := Lib.hid hn
  have HSI := Lib.hid hs2
  have n0 : 0 ≤ n := by omega
  clear hP hE hN hS hvl hn hs2
  go_enter Tryd.func44, Tryd.ntmps44
  go_wp2_with fail
  refine HN.out.mono ?_
  rintro e w1 ⟨rfl, hR, hB⟩
  have HB := Lib.hid hB
  have HU := Lib.hid (u32_ok w1 _ l 0 hR (by omega) (by omega))
  rw [show l.drop 0 = l from rfl, ← HNN.out, ← HNI.out] at HU
  clear hR hB
  go_wp2_with fail
  refine HU.out.mono ?_
  rintro e w2 ⟨rfl, hR, hT⟩
  have HB2 := Lib.hid (tb HB.out hT)
  have HU2 := Lib.hid (u32_ok w2 _ l (0 + 4) hR (by omega) (by omega))
  rw [show (0 + 4 : Nat) = 4 from rfl, ← HSS.out, ← HSI.out] at HU2
  clear hR hT
  go_wp2_with fail
  refine HU2.out.mono ?_
  rintro e w3 ⟨rfl, hR, hT⟩
  have HB3 := Lib.hid (tb HB2.out hT)
  have HR := Lib.hid hR
  clear hR hT
  by_cases hn : 65536 < n
  · have HX := Lib.hid (show first l = none by
      rw [HF.out, if_pos (by have := HNI.out; omega)])
    go_wp2_with fail
    exact HNO.out HX.out _ _ HB3.out
  by_cases hsh : l.length - 8 < N
  · have HX := Lib.hid (show first l = none by
      rw [HF.out, if_neg (by have := HNI.out; omega), if_pos hsh])
    have HRW := Lib.hid (raw_short w3 _ l (4 + 4) N HR.out hl (by omega) (by omega) (by have := HNI.out; omega) a (HE.out.below HB3.out))
    rw [← HNI.out] at HRW
    clear hsh
    go_wp2_with fail
    refine HRW.out.mono ?_
    rintro e w4 ⟨rfl, ⟨v, hR⟩, hT⟩
    have HB4 := Lib.hid (tb HB3.out hT)
    have HE4 := Lib.hid (err_any w4 _ l _ _ hR)
    clear hR hT
    go_wp2_with fail
    refine HE4.out.mono ?_
    rintro e w5 ⟨rfl, rfl⟩
    go_wp2_with fail
    exact HNO.out HX.out _ _ HB4.out
  · have hb1 : ((l.drop 8).take N).length = N := by rw [List.length_take, List.length_drop]; omega
    have HRW := Lib.hid (raw_ok w3 _ l (4 + 4) N HR.out hl (by omega))
    rw [← HNI.out, show (4 + 4 : Nat) = 8 from rfl] at HRW
    have HX := Lib.hid (show first l = if crc (num4 N ++ (l.drop 8).take N) = S then some ((l.drop 8).take N) else none by
      rw [HF.out, if_neg (by have := HNI.out; omega), if_neg hsh])
    have HNU := Lib.hid (fun w' => number_any n n0 (by omega) w')
    rw [show n.toNat = N by have := HNI.out; omega] at HNU
    have HSU := Lib.hid (fun w' => sum_tx (num4 N) (by rw [num4_length]; omega) w')
    have HMO := Lib.hid (fun w' => more_tx (num4 N) ((l.drop 8).take N) (by omega) w')
    generalize (l.drop 8).take N = body at *
    obtain ⟨C, hC⟩ : ∃ C, C = crc (num4 N ++ body) := ⟨_, rfl⟩
    rw [← hC] at HX HMO
    obtain ⟨ci, hci⟩ : ∃ n : Int, n = C := ⟨_, rfl⟩
    rw [← hci] at HMO
    have HCI := Lib.hid hci
    generalize (crc (num4 N) : Int) = c1 at HSU HMO
    generalize tx (num4 N) = t4 at HNU HSU
    clear hsh hb1 hC hci
    go_wp2_with fail
    refine HRW.out.mono ?_
    rintro e w4 ⟨rfl, hR, hT⟩
    have HB4 := Lib.hid (tb HB3.out hT)
    have HE4 := Lib.hid (err_any w4 _ l _ _ hR)
    clear hR hT
    go_wp2_with fail
    refine HE4.out.mono ?_
    rintro e w5 ⟨rfl, rfl⟩
    go_wp2_with fail
    refine (HNU.out _).mono ?_
    rintro e w5 ⟨rfl, hb5⟩
    have HB5 := Lib.hid (HB4.out.trans (hb5.mono HB4.out.size))
    clear hb5
    go_wp2_with fail
    refine (HSU.out _).mono ?_
    rintro e w6 ⟨rfl, hb6⟩
    have HB6 := Lib.hid (HB5.out.trans (hb6.mono HB5.out.size))
    clear hb6
    go_wp2_with fail
    refine (HMO.out _).mono ?_
    rintro e w7 ⟨rfl, hb7⟩
    have HB7 := Lib.hid (HB6.out.trans (hb7.mono HB6.out.size))
    clear hb7
    by_cases he : ci = s2
    · have HY := Lib.hid (show first l = some body by
        rw [HX.out, if_pos (by have := HCI.out; have := HSI.out; omega)])
      have he' : (ci == s2) = true := beq_iff_eq.2 he
      clear he
      go_wp2_with fail
      exact HYES.out _ HY.out _ HB7.out
    · have HY := Lib.hid (show first l = none by
        rw [HX.out, if_neg (by have := HCI.out; have := HSI.out; omega)])
      have he' : (ci == s2) = false := beq_eq_false_iff_ne.2 he
      clear he
      go_wp2_with fail
      exact HNO.out HY.out _ _ HB7.out
theorem first_any (l : List UInt8) (w : World) (a : Nat → Addr) (hE : EnvF w a) (hl : l.length ≤ 1000000) : Calls Tryd.prog 44 #[.string (tx l)] w (FPost l w) := by
  by_cases h4 : l.length < 4
  · exact first_short4 l w a hE h4
  by_cases h8 : l.length < 8
  · exact first_short8 l w a hE (by omega) h8
  · exact first_long l w a hE (by omega) hl
end Go.Proofs.YthpplbigmolnjaaDoor.WalW
