/- Records: what must come; the law of scans. -/
import Derived.Test.YthpplbigmolnjaaDoorWalI
set_option linter.unusedVariables false
set_option linter.unusedSimpArgs false
set_option maxRecDepth 100000
namespace Go.Proofs.YthpplbigmolnjaaDoor.WalW
open Go.RowKit Go.Proofs.YthpplbigmolnjaaDoor.Tc Go.Proofs.YthpplbigmolnjaaDoor.DiskW WalP Go.Proofs.YthpplbigmolnjaaDoor.FltW

def abc : List UInt8 := [97, 98, 99]
theorem tb1 {w w1 w2 : World} {s : Nat} (hB : Below w.heap.size w w1) (hs : w.heap.size ≤ s) (hT : Tch [s] w1 w2) : Below w.heap.size w w2 := hB.trans (hT.below hB.size (by simpa using hs))
theorem scan_abc : scan (put abc) = ([abc], 11) := by
  have := scan_put (b := abc) (by decide) []
  rw [List.append_nil, scan_none (l := []) (first_short (by decide))] at this
  rw [this]
  rfl
theorem scan_abcx : scan (put abc ++ [120]) = ([abc], 11) := by
  rw [scan_put (b := abc) (by decide), scan_none (first_short (by decide))]
  rfl
set_option maxHeartbeats 8000000 in
theorem awake_any (w : World) (a : Nat → Addr) (hE : EnvF w a) : Calls Tryd.prog 18 #[] w fun e w' => e = .returned (.bool true) ∧ Below w.heap.size w w' := by
  have HE := Lib.hid hE
  have HN := Lib.hid (DiskW.new_any w 20)
  clear hE
  go_enter Tryd.func18, Tryd.ntmps18
  go_wp2_with fail
  refine HN.out.mono ?_
  rintro e w1 ⟨rfl, hA, hb⟩
  rw [show max (20 : Int) 0 = 20 by decide] at hA
  have HB1 := Lib.hid hb
  have HO := Lib.hid (open_any w1 _ _ 20 0 [] hA (by decide) (by rw [scan_none (l := []) (first_short (by decide))]; decide) a (HE.out.below hb))
  clear hA hb HN
  unfold OPost at HO
  rw [scan_none (l := []) (first_short (by decide))] at HO
  simp only [List.length_nil, Nat.lt_irrefl, if_false, List.take_zero] at HO
  go_wp2_with fail
  refine HO.out.mono ?_
  rintro e w2 ⟨⟨p, v2, rfl, hL, hp⟩, hT⟩
  have HB2 := Lib.hid (tb1 HB1.out (Nat.le_refl _) hT)
  have hpl : (put abc).length = 11 := put_length abc
  have HA1 := Lib.hid (show Calls Tryd.prog 28 #[.pointer (some ⟨p, 0, none⟩), .string ⟨#[97, 98, 99]⟩] w2 fun e w' => e = .returned .nilIface ∧ (∃ v', Lg w' p w.heap.size v' 20 0 (put abc)) ∧ Tch [w.heap.size] w2 w' from lappend_yes w2 p _ v2 20 0 [] abc hL (by decide) (by decide) (by decide) (by decide) (by decide))
  clear hL hp hT HO
  go_wp2_with fail
  refine HA1.out.mono ?_
  rintro e w3 ⟨rfl, ⟨v3, hL⟩, hT⟩
  have HB3 := Lib.hid (tb1 HB2.out (Nat.le_refl _) hT)
  have HL3 := Lib.hid hL
  have HA2 := Lib.hid (show Calls Tryd.prog 28 #[.pointer (some ⟨p, 0, none⟩), .string ⟨#[109, 111, 114, 101]⟩] w3 fun e w' => (∃ n, e = .returned (.iface 56 (.pointer (some ⟨n, 0, none⟩))) ∧ w'.heap[n]? = some (.cells #[.int .i64 151, .int .i64 0, .iface 96 (.pointer (some (a 4)))] 58 (0, 0))) ∧ Below w3.heap.size w3 w' from
    lappend_no w3 p _ v3 20 0 (put abc) [109, 111, 114, 101] hL (by rw [hpl]; decide) (by decide) (by decide) (by decide) (by rw [hpl]; decide) a (HE.out.below HB3.out))
  clear hL hT HA1
  go_wp2_with fail
  refine HA2.out.mono ?_
  rintro e w4 ⟨⟨n, rfl, hn⟩, hb⟩
  have HB4 := Lib.hid (then_below HB3.out hb)
  have HL4 := Lib.hid (HL3.out.grown hb)
  have HN4 := Lib.hid hn
  have HW4 := Lib.hid (waits_any w4 p _ v3 20 0 _ HL4.out)
  rw [hpl, show decide ((0 : Int) < ((11 : Nat) : Int)) = true by decide] at HW4
  clear hb hn HA2
  go_wp2_with fail
  refine HW4.out.mono ?_
  rintro e w5 ⟨rfl, rfl⟩
  have HS4 := Lib.hid (lsync_any w4 p _ v3 20 0 _ HL4.out)
  rw [hpl] at HS4
  go_wp2_with fail
  refine HS4.out.mono ?_
  rintro e w5 ⟨rfl, hL, hT⟩
  have HB5 := Lib.hid (tb1 HB4.out (Nat.le_refl _) hT)
  have HL5 := Lib.hid hL
  have hnn : n ≠ w.heap.size := type_ne HN4.out HL4.out.at_.st (by decide)
  have HN5 := Lib.hid ((hT.block n (lt_of_block HN4.out) (by simpa using hnn)).trans HN4.out)
  have HP5 := Lib.hid (show Calls Tryd.prog 21 #[.string ⟨#[97, 98, 99]⟩] w5 fun e w' => e = .returned (.string (tx (put abc))) ∧ Below w5.heap.size w5 w' from wput_any abc (by decide) w5)
  clear hL hT hnn HS4 HW4
  have htl : (tx (put abc)).size ≤ 11 := by rw [tx_size, hpl]; exact Nat.le_refl _
  have HSC := Lib.hid (fun (w' : World) (hE : EnvF w' a) => scan_any (put abc ++ [120]) w' a hE (by rw [List.length_append, hpl]; decide))
  rw [← tx_append, show tx [120] = ⟨#[120]⟩ from rfl] at HSC
  unfold SPost at HSC
  rw [scan_abcx] at HSC
  generalize tx (put abc) = tp at HP5 HSC htl
  go_wp2_with fail
  refine HP5.out.mono ?_
  rintro e w6 ⟨rfl, hb⟩
  have HB6 := Lib.hid (then_below HB5.out hb)
  have HL6 := Lib.hid (HL5.out.grown hb)
  have HN6 := Lib.hid ((hb.block n (lt_of_block HN5.out)).trans HN5.out)
  have HS6 := Lib.hid (HSC.out w6 (HE.out.below HB6.out))
  clear hb HSC HP5
  go_wp2_with fail
  refine HS6.out.mono ?_
  rintro e w7 ⟨⟨v7, rfl, ho⟩, hb⟩
  have HB7 := Lib.hid (then_below HB6.out hb)
  have HL7 := Lib.hid (HL6.out.grown hb)
  have HN7 := Lib.hid ((hb.block n (lt_of_block HN6.out)).trans HN6.out)
  obtain ⟨A7, c7, hv7⟩ := own_form ho.own
  obtain rfl : v7 = .slice A7 1 c7 := hv7
  have HF7 := Lib.hid (isfull_any n w7 a (HE.out.below HB7.out) HN7.out)
  clear ho hb HS6
  go_wp2_with fail
  refine HF7.out.mono ?_
  rintro e w8 ⟨rfl, hb⟩
  have HB8 := Lib.hid (then_below HB7.out hb)
  have HL8 := Lib.hid (HL7.out.grown hb)
  have HW8 := Lib.hid (waits_any w8 p _ v3 20 (11 : Nat) _ HL8.out)
  rw [hpl, show decide (((11 : Nat) : Int) < ((11 : Nat) : Int)) = false by decide] at HW8
  clear hb HF7
  go_wp2_with fail
  refine HW8.out.mono ?_
  rintro e w9 ⟨rfl, rfl⟩
  have HS8 := Lib.hid (lsure_any w8 p _ v3 20 11 _ HL8.out (by rw [hpl]; exact Nat.le_refl _) (by rw [hpl]; decide) a (HE.out.below HB8.out))
  rw [List.take_of_length_le (by rw [hpl]; exact Nat.le_refl _), scan_abc, show (([abc] : List (List UInt8)).length : Int) = 1 from rfl] at HS8
  go_wp2_with fail
  refine HS8.out.mono ?_
  rintro e w9 ⟨rfl, hb⟩
  have HB9 := Lib.hid (then_below HB8.out hb)
  have HL9 := Lib.hid (HL8.out.grown hb)
  have HR9 := Lib.hid (records_any w9 p _ v3 20 (11 : Nat) _ HL9.out (by rw [hpl]; decide) a (HE.out.below HB9.out))
  unfold TPost at HR9
  rw [scan_abc] at HR9
  clear hb HS8
  go_wp2_with fail
  refine HR9.out.mono ?_
  rintro e w10 ⟨⟨v10, rfl, ho⟩, hb⟩
  have HB10 := Lib.hid (then_below HB9.out hb)
  obtain ⟨A10, c10, hv10, ht⟩ := ho.txt
  have hba := (Below.refl w10.heap.size w10).alloc (Nat.le_refl _) (.cells #[.string ⟨#[97, 98, 99]⟩] 9)
  have hta : Txt (w10.alloc (.cells #[.string ⟨#[97, 98, 99]⟩] 9)) (some ⟨w10.heap.size, 0, none⟩) ([abc].map tx) := by
    intro k x hx
    cases k with
    | zero =>
      injection hx with hx
      subst hx
      exact ⟨_, 0, rfl, cell_of (heap_alloc_new w10 _) rfl⟩
    | succ k => cases hx
  have HSM := Lib.hid (same_any _ A10 _ ([abc].map tx) c10 1 (ht.below hba) hta (by decide))
  have HBA := Lib.hid (then_below HB10.out hba)
  obtain rfl : v10 = .slice A10 1 c10 := hv10
  have HP10 := Lib.hid (fun w' => show Calls Tryd.prog 21 #[.string ⟨#[]⟩] w' fun e w'' => e = .returned (.string (tx (put []))) ∧ Below w'.heap.size w' w'' from wput_any [] (by decide) w')
  have hp0 : ((tx (put [])).size : Int) = 8 := by rw [tx_size, put_length]; rfl
  have HP0 := Lib.hid hp0
  generalize tx (put []) = t0 at HP10 HP0
  clear ho hb ht hba hta hp0 HR9
  change Hid (Calls Tryd.prog 23 #[.slice A10 1 c10, .slice (some ⟨w10.heap.size, 0, none⟩) 1 1] _ _) at HSM
  go_wp2_with fail
  refine HSM.out.mono ?_
  rintro e w11 ⟨rfl, hd⟩
  have HB11 := Lib.hid (then_below HBA.out hd.below)
  clear hd
  go_wp2_with fail
  refine (HP10.out _).mono ?_
  rintro e w12 ⟨rfl, hb⟩
  have HB12 := Lib.hid (then_below HB11.out hb)
  have hp0 := HP0.out
  clear hb
  go_wp2_with fail
  go_ret
  exact ⟨rfl, HB12.out⟩
set_option maxHeartbeats 4000000 in
/-- WalScans. -/
theorem scans_law (w : World) (b s : ByteArray) (hb' : b.size ≤ 140737488351232) (hs' : s.size ≤ 140737488351232) (hE : ∃ a, EnvF w a) :
    Calls Tryd.prog 4 #[.string b, .string s] w fun e w' => e = .returned (.bool true) ∧ Below w.heap.size w w' := by
  obtain ⟨a, hE⟩ := hE
  have HE := Lib.hid hE
  by_cases hq : b.size ≤ 200 ∧ s.size ≤ 1024
  case neg =>
    have HA := Lib.hid (awake_any w a hE)
    clear hE
    by_cases h1 : 200 < (b.size : Int)
    · clear hq
      go_enter Tryd.func4, Tryd.ntmps4
      go_wp2_with fail
      refine HA.out.mono ?_
      rintro e w1 ⟨rfl, hb⟩
      have HB := Lib.hid hb
      clear hb
      go_wp2_with fail
      go_ret
      exact ⟨rfl, HB.out⟩
    · have h2 : 1024 < (s.size : Int) := by omega
      clear hq
      go_enter Tryd.func4, Tryd.ntmps4
      go_wp2_with fail
      refine HA.out.mono ?_
      rintro e w1 ⟨rfl, hb⟩
      have HB := Lib.hid hb
      clear hb
      go_wp2_with fail
      go_ret
      exact ⟨rfl, HB.out⟩
  case pos =>
    have h1 : ¬ 200 < (b.size : Int) := by omega
    have h2 : ¬ 1024 < (s.size : Int) := by omega
    have hsl : s.data.toList.length = s.size := Array.length_toList
    have hbl : b.data.toList.length = b.size := Array.length_toList
    have hS := scan_any s.data.toList w a hE (by omega)
    have hR := fun w' => rscan_any s.data.toList w' (by omega)
    have hP := fun w' => wput_any b.data.toList (by omega) w'
    have hQ := fun w' => rput_any b.data.toList (by omega) w'
    have hfew := (scan_le _ s.data.toList (Nat.le_refl _)).2.1
    rw [tx_of] at hS hP hQ
    simp only [tx_of] at hR
    unfold SPost at hS hR
    generalize scan s.data.toList = r at hS hR hfew
    obtain ⟨L, g⟩ := r
    have HL := Lib.hid (show L.length ≤ 1000000 by simp only at hfew; omega)
    have HS := Lib.hid hS
    have HR := Lib.hid hR
    have HP := Lib.hid hP
    have HQ := Lib.hid hQ
    generalize tx (put b.data.toList) = pb at HP HQ
    clear hE hq hS hR hP hQ hfew hsl hbl
    go_enter Tryd.func4, Tryd.ntmps4
    go_wp2_with fail
    refine HS.out.mono ?_
    rintro e w1 ⟨⟨v1, rfl, ho1⟩, hb⟩
    have HB1 := Lib.hid hb
    have HO1 := Lib.hid ho1
    clear hb ho1
    go_wp2_with fail
    refine (HR.out _).mono ?_
    rintro e w2 ⟨⟨v2, rfl, ho2⟩, hb⟩
    have HB2 := Lib.hid (then_below HB1.out hb)
    have HO2 := Lib.hid ho2
    have HO1b := Lib.hid (HO1.out.below hb)
    clear hb ho2
    go_wp2_with fail
    refine (HP.out _).mono ?_
    rintro e w3 ⟨rfl, hb⟩
    have HB3 := Lib.hid (then_below HB2.out hb)
    have HO2b := Lib.hid (HO2.out.below hb)
    have HO1c := Lib.hid (HO1b.out.below hb)
    clear hb
    go_wp2_with fail
    refine (HQ.out _).mono ?_
    rintro e w4 ⟨rfl, hb⟩
    have HB4 := Lib.hid (then_below HB3.out hb)
    obtain ⟨A, c, rfl, hA⟩ := (HO1c.out.below hb).txt
    obtain ⟨B, d, rfl, hB⟩ := (HO2b.out.below hb).txt
    have HSM := Lib.hid (same_any w4 A B (L.map tx) c d hA hB (by rw [List.length_map]; exact HL.out))
    rw [List.length_map] at HSM
    have e1 := str_eq (rfl : pb = pb)
    clear hb hA hB
    go_wp2_with fail
    refine HSM.out.mono ?_
    rintro e w5 ⟨rfl, hd⟩
    have HB5 := Lib.hid (then_below HB4.out hd.below)
    have HA := Lib.hid (awake_any w5 a (HE.out.below HB5.out))
    clear hd
    go_wp2_with fail
    refine HA.out.mono ?_
    rintro e w6 ⟨rfl, hb⟩
    have HB6 := Lib.hid (then_below HB5.out hb)
    clear hb
    go_wp2_with fail
    go_ret
    exact ⟨rfl, HB6.out⟩
end Go.Proofs.YthpplbigmolnjaaDoor.WalW
