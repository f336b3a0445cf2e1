/- Records: behind a crash. -/
import Derived.Test.YthpplbigmolnjaaDoorWalJ
import Derived.Test.YthpplbigmolnjaaDoorKind
set_option linter.unusedVariables false
set_option linter.unusedSimpArgs false
set_option maxRecDepth 100000
namespace Go.Proofs.YthpplbigmolnjaaDoor.WalW
open Go.RowKit Go.Proofs.YthpplbigmolnjaaDoor.Tc Go.Proofs.YthpplbigmolnjaaDoor.DiskW WalP Go.Proofs.YthpplbigmolnjaaDoor.FltW

noncomputable def kS : Kd Tryd.prog 9 ByteArray := kStr Tryd.underlying9 (by kernel_rfl)
theorem cells9 : Tryd.prog.cellsOf 9 = 1 := by kernel_rfl
theorem strs_open {H : Type} {enc : TypeId × Value → H} {w : World} {base : Nat} {sp : Nat → Bool} {held : Bool} {A : Option Addr} {len cap : Nat} {d : DataW H} {ps : List MemPlace}
    (h : DataW.Trod enc Tryd.prog w base sp held 35 (.slice A len cap) d ps) : ∃ xs : List ByteArray, xs.length = len ∧ SliceIs kS w A xs := by
  obtain ⟨fuel, hf⟩ := h
  obtain ⟨A', c', xs, hcs, hx⟩ := slice_opens Tryd.underlying35 (by rw [cells9]; decide) kS hf
  simp [Value.cells] at hcs
  obtain ⟨rfl, rfl, rfl⟩ := hcs
  exact ⟨xs, rfl, hx⟩
theorem txt_of {w : World} {A : Option Addr} {l : List ByteArray} (h : SliceIs kS w A l) : Txt w A l := by
  intro k x hk
  have hlt := (List.getElem?_eq_some_iff.1 hk).1
  obtain ⟨b, off, hA, -, hc⟩ := h.at_ (by omega)
  obtain ⟨cs, ⟨rfl, -⟩, hcell⟩ := hc k x hk
  have := hcell 0 _ rfl
  rw [cells9, Nat.mul_one, Nat.add_zero] at this
  exact ⟨b, off, hA, this⟩
/-- Few texts, of few bytes. -/
def Few (L : List ByteArray) : Prop := L.length ≤ 20 ∧ ∀ x ∈ L, x.size ≤ 200
set_option maxHeartbeats 1000000 in
theorem few_yes (w : World) (A : Option Addr) (L : List ByteArray) (c : Nat) (hA : Txt w A L) (h : Few L) :
    Calls Tryd.prog 24 #[.slice A L.length c, .int .i64 20] w fun e w' => e = .returned (.bool true) ∧ w = w' := by
  have HA := Lib.hid hA
  have hl := h.1
  have HS := Lib.hid h.2
  clear hA h
  go_enter Tryd.func24, Tryd.ntmps24
  go_wp2
  go_loopw [5] (fun i wr => ∃ k : Nat, k ≤ L.length ∧ i = .int .i64 k ∧ wr = w) (fun i _ => L.length - (intOf i).toNat)
  case atStart => exact ⟨0, by omega, rfl, rfl⟩
  case round =>
    obtain ⟨k, hk, rfl, rfl⟩ := hrel
    by_cases hlt : k < L.length
    · obtain ⟨x, hx⟩ : ∃ x, L[k]? = some x := ⟨_, List.getElem?_eq_getElem hlt⟩
      obtain ⟨b1, o1, rfl, h1⟩ := HA.out k x hx
      have hs := HS.out x (List.mem_of_getElem? hx)
      clear hx
      go_wp2
      go_roundw
      case rel => exact ⟨k + 1, by omega, by go_num, trivial⟩
      case measure => simp [intOf]; omega
    · obtain rfl : k = L.length := by omega
      go_wp2
      go_ret
      refine ⟨?_, rfl⟩
      show Ending.returned (.bool (decide ((L.length : Int) ≤ 20))) = _
      rw [decide_eq_true (by omega)]
set_option maxHeartbeats 1000000 in
theorem few_no (w : World) (A : Option Addr) (L : List ByteArray) (c : Nat) (hlen : L.length ≤ maxLen) (hA : Txt w A L) (h : ¬ Few L) :
    Calls Tryd.prog 24 #[.slice A L.length c, .int .i64 20] w fun e w' => e = .returned (.bool false) ∧ w = w' := by
  unfold maxLen at hlen
  have HA := Lib.hid hA
  have H := Lib.hid h
  clear hA h
  go_enter Tryd.func24, Tryd.ntmps24
  go_wp2
  go_loopw [5] (fun i wr => ∃ k : Nat, k ≤ L.length ∧ k ≤ 20 ∧ (∀ x ∈ L.take k, x.size ≤ 200) ∧ i = .int .i64 k ∧ wr = w) (fun i _ => L.length - (intOf i).toNat)
  case atStart => exact ⟨0, by omega, by omega, by simp, rfl, rfl⟩
  case round =>
    obtain ⟨k, hk, hk2, hall, rfl, rfl⟩ := hrel
    have HALL := Lib.hid hall
    clear hall
    by_cases hlt : k < L.length ∧ k < 20
    · obtain ⟨hlt, h20⟩ := hlt
      obtain ⟨x, hx⟩ : ∃ x, L[k]? = some x := ⟨_, List.getElem?_eq_getElem hlt⟩
      obtain ⟨b1, o1, rfl, h1⟩ := HA.out k x hx
      by_cases hs : x.size ≤ 200
      · have HN := Lib.hid (show ∀ y ∈ L.take (k + 1), y.size ≤ 200 by
          intro y hy
          rw [List.take_add_one, hx] at hy
          rcases List.mem_append.1 hy with hy | hy
          · exact HALL.out y hy
          · have : y = x := by simpa using hy
            rw [this]; exact hs)
        clear hx
        go_wp2
        go_roundw
        case rel => exact ⟨k + 1, by omega, by omega, HN.out, by go_num, trivial⟩
        case measure => simp [intOf]; omega
      · have hs' : 200 < (x.size : Int) := by omega
        clear hx hs
        go_wp2
        go_ret
        exact ⟨rfl, rfl⟩
    · have h20 : 20 < L.length := by
        rcases Nat.lt_or_ge 20 L.length with h | h
        · exact h
        · exfalso
          have : k = L.length := by omega
          have hf := HALL.out
          rw [this, List.take_of_length_le (Nat.le_refl _)] at hf
          exact H.out ⟨h, hf⟩
      obtain rfl : k = 20 := by omega
      clear hlt
      go_wp2
      go_ret
      refine ⟨?_, rfl⟩
      show Ending.returned (.bool (decide ((L.length : Int) ≤ 20))) = _
      rw [decide_eq_false (by omega)]
/-- The bytes of texts. -/
def bd (L : List ByteArray) : List (List UInt8) := L.map fun x => x.data.toList
theorem bd_tx (L : List ByteArray) : (bd L).map tx = L := by
  unfold bd
  rw [List.map_map]
  conv => rhs; rw [← List.map_id L]
  apply List.map_congr_left
  intro x _
  exact tx_of x
theorem bd_length (L : List ByteArray) : (bd L).length = L.length := List.length_map _
theorem bd_small {L : List ByteArray} (h : Few L) : ∀ b ∈ bd L, b.length ≤ 200 := by
  intro b hb
  obtain ⟨x, hx, rfl⟩ := List.mem_map.1 hb
  rw [show x.data.toList.length = x.size from Array.length_toList]
  exact h.2 x hx
theorem puts_le (l : List (List UInt8)) (h : ∀ b ∈ l, b.length ≤ 200) : (puts l).length ≤ 208 * l.length := by
  induction l with
  | nil => simp [puts]
  | cons b l ih =>
    have h1 := h b (List.mem_cons_self ..)
    have h2 := ih (fun x hx => h x (List.mem_cons_of_mem _ hx))
    rw [puts, List.length_append, put_length, List.length_cons]
    omega
/-- How much is sure behind so many rounds. -/
def sv (M : List (List UInt8)) (n k : Nat) : Int := if n < k then ((puts (M.take n)).length : Int) else 0
theorem sv_next {M : List (List UInt8)} {n k : Nat} (h : k ≠ n) : sv M n (k + 1) = sv M n k := by
  unfold sv
  by_cases h1 : n < k
  · rw [if_pos h1, if_pos (by omega)]
  · rw [if_neg h1, if_neg (by omega)]
theorem sv_here {M : List (List UInt8)} {n : Nat} : sv M n (n + 1) = ((puts (M.take n)).length : Int) := by
  unfold sv
  rw [if_pos (by omega)]
theorem puts_next {M : List (List UInt8)} {k : Nat} {b : List UInt8} (h : M[k]? = some b) : puts (M.take (k + 1)) = puts (M.take k) ++ put b := by
  rw [List.take_add_one, h]
  exact puts_one _ _
theorem puts_take_le (M : List (List UInt8)) (h : ∀ b ∈ M, b.length ≤ 200) (h20 : M.length ≤ 20) (k : Nat) : (puts (M.take k)).length ≤ 4160 := by
  have h1 := puts_le (M.take k) (fun b hb => h b (List.mem_of_mem_take hb))
  have h2 : (M.take k).length ≤ 20 := by rw [List.length_take]; omega
  omega
theorem puts_part (M : List (List UInt8)) (n : Nat) : puts M = puts (M.take n) ++ puts (M.drop n) := by
  rw [← puts_append, List.take_append_drop]
def more4 : List UInt8 := [109, 111, 114, 101]
theorem scan_more (M : List (List UInt8)) (h : Small M) : scan (puts M ++ put more4) = (M ++ [more4], (puts M).length + 12) := by
  have h2 := scan_puts M h (put more4)
  have h1 := scan_put (b := more4) (by decide) []
  rw [List.append_nil, scan_none (l := []) (first_short (by decide))] at h1
  rw [h2, h1]
  rfl
theorem prefix_take {a b : List UInt8} (h : a <+: b) : b.take a.length = a := (List.prefix_iff_eq_take.1 h).symm
set_option maxHeartbeats 8000000 in
theorem crash_few (w : World) (A : Option Addr) (L : List ByteArray) (c : Nat) (sure keep : Int) (hA : Txt w A L) (hF : Few L) (hs0 : 0 ≤ sure) (hs1 : sure ≤ 255) (hk : (Lit.int .i64 keep).wf = true) (a : Nat → Addr) (hE : EnvF w a) :
    Calls Tryd.prog 6 #[.slice A L.length c, .int .u8 sure, .int .i64 keep] w fun e w' => e = .returned (.bool true) ∧ Below w.heap.size w w' := by
  have HE := Lib.hid hE
  have HA := Lib.hid hA
  have HFE := Lib.hid (few_yes w A L c hA hF)
  have HN := Lib.hid (DiskW.new_any w 1048576)
  have hl20 := hF.1
  have HF := Lib.hid hF
  clear hE hA hF
  go_enter Tryd.func6, Tryd.ntmps6
  go_wp2_with fail
  refine HFE.out.mono ?_
  rintro e w0 ⟨rfl, rfl⟩
  go_wp2_with fail
  refine HN.out.mono ?_
  rintro e w1 ⟨rfl, hAt, hb⟩
  rw [show max (1048576 : Int) 0 = 1048576 by decide] at hAt
  have HB1 := Lib.hid hb
  have HO := Lib.hid (open_any w1 _ _ 1048576 0 [] hAt (by decide) (by rw [scan_none (l := []) (first_short (by decide))]; decide) a (HE.out.below hb))
  clear hAt hb HN
  unfold OPost at HO
  rw [scan_none (l := []) (first_short (by decide))] at HO
  simp only [List.length_nil, Nat.lt_irrefl, if_false, List.take_zero] at HO
  go_wp2_with fail
  refine HO.out.mono ?_
  rintro e w2 ⟨⟨p, v2, rfl, hL, hp⟩, hT⟩
  have HB2 := Lib.hid (tb1 HB1.out (Nat.le_refl _) hT)
  have HL2 := Lib.hid hL
  clear hL hp hT HO
  obtain ⟨n, hn⟩ : ∃ n : Nat, sure % ((L.length : Int) + 1) = n := ⟨(sure % ((L.length : Int) + 1)).toNat, by
    have := Int.emod_nonneg sure (show ((L.length : Int) + 1) ≠ 0 by omega)
    omega⟩
  have hnl : n ≤ L.length := by
    have := Int.emod_lt_of_pos sure (show (0 : Int) < (L.length : Int) + 1 by omega)
    omega
  have HMS := Lib.hid (bd_small HF.out)
  have HML := Lib.hid (bd_length L)
  have HPT := Lib.hid (puts_take_le (bd L) HMS.out (by rw [HML.out]; exact hl20))
  go_wp2_with fail
  rw [hn]
  go_loopw [10] (fun x wr => ∃ (k : Nat) (v : Value), k ≤ L.length ∧ Lg wr p w.heap.size v 1048576 (sv (bd L) n k) (puts ((bd L).take k)) ∧ Below w.heap.size w wr ∧ x = .int .i64 k) (fun x _ => L.length - (intOf x).toNat)
  case atStart => exact ⟨0, v2, by omega, HL2.out, HB2.out, rfl⟩
  case round =>
    obtain ⟨k, v, hkl, hLg, hB, rfl⟩ := hrel
    have HB := Lib.hid hB
    have HLg := Lib.hid hLg
    clear hB hLg HL2 HB2
    by_cases hlt : k < L.length
    · obtain ⟨x, hx⟩ : ∃ x, L[k]? = some x := ⟨_, List.getElem?_eq_getElem hlt⟩
      have hx2 : (bd L)[k]? = some x.data.toList := by unfold bd; rw [List.getElem?_map, hx]; rfl
      have HX2 := Lib.hid hx2
      have hxs := HMS.out _ (List.mem_of_getElem? hx2)
      have hpt := HPT.out k
      have HAP := Lib.hid (fun (w' : World) (v : Value) (su : Int) (h : Lg w' p w.heap.size v 1048576 su (puts ((bd L).take k))) => lappend_yes w' p _ v 1048576 su _ x.data.toList h (by omega) (by decide) (by decide) (by omega) (by omega))
      rw [← puts_next hx2, tx_of] at HAP
      have HTX := Lib.hid (fun (w' : World) (hb : Below w.heap.size w w') => (HA.out.below hb) k x hx)
      clear hx hx2 hxs hpt
      by_cases hkn : k = n
      · subst hkn
        have HSY := Lib.hid (lsync_any wr p _ v _ _ _ HLg.out)
        go_wp2_with fail
        refine HSY.out.mono ?_
        rintro e w3 ⟨rfl, hL3, hT3⟩
        have HB3 := Lib.hid (tb1 HB.out (Nat.le_refl _) hT3)
        have HA3 := Lib.hid (HAP.out w3 _ _ hL3)
        obtain ⟨b1, o1, rfl, h1⟩ := HTX.out w3 HB3.out
        clear hL3 hT3
        go_wp2_with fail
        refine HA3.out.mono ?_
        rintro e w4 ⟨rfl, ⟨v4, hL4⟩, hT4⟩
        have HB4 := Lib.hid (tb1 HB3.out (Nat.le_refl _) hT4)
        rw [← sv_here] at hL4
        have HL4 := Lib.hid hL4
        clear hL4 hT4
        go_wp2_with fail
        go_roundw
        case rel => exact ⟨k + 1, v4, by omega, HL4.out, HB4.out, by go_num⟩
        case measure => simp [intOf]; omega
      · have hkn' : ((k : Int) == n) = false := beq_eq_false_iff_ne.2 (by omega)
        have HA3 := Lib.hid (HAP.out wr _ _ HLg.out)
        obtain ⟨b1, o1, rfl, h1⟩ := HTX.out wr HB.out
        have HSV := Lib.hid (sv_next (M := bd L) hkn)
        clear hkn
        go_wp2_with fail
        refine HA3.out.mono ?_
        rintro e w4 ⟨rfl, ⟨v4, hL4⟩, hT4⟩
        have HB4 := Lib.hid (tb1 HB.out (Nat.le_refl _) hT4)
        rw [← HSV.out] at hL4
        have HL4 := Lib.hid hL4
        clear hL4 hT4
        go_wp2_with fail
        go_roundw
        case rel => exact ⟨k + 1, v4, by omega, HL4.out, HB4.out, by go_num⟩
        case measure => simp [intOf]; omega
    · obtain rfl : k = L.length := by omega
      clear hlt
      have HTK := Lib.hid (show (bd L).take L.length = bd L by rw [← HML.out]; exact List.take_of_length_le (Nat.le_refl _))
      have hLg := HLg.out
      rw [HTK.out] at hLg
      by_cases hkn : n = L.length
      · subst hkn
        have HSY := Lib.hid (lsync_any wr p _ v _ _ _ hLg)
        clear hLg
        go_wp2_with fail
        refine HSY.out.mono ?_
        rintro e wz ⟨rfl, hLz, hTz⟩
        have HBz := Lib.hid (tb1 HB.out (Nat.le_refl _) hTz)
        obtain ⟨n, hnL⟩ : ∃ n, n = L.length := ⟨_, rfl⟩
        rw [← hnL] at hnl
        obtain ⟨vz, hvz⟩ : ∃ vz, vz = v := ⟨_, rfl⟩
        rw [← hvz] at hLz
        have HLz := Lib.hid (show Lg wz p w.heap.size vz 1048576 ((puts ((bd L).take n)).length : Int) (puts (bd L)) by rw [hnL, HTK.out]; exact hLz)
        clear hLz hTz hvz hn
        rw [← hnL]
        have HTOT := Lib.hid (show (puts (bd L)).length ≤ 4160 by
          have := HPT.out L.length
          rwa [show (bd L).take L.length = bd L by rw [← HML.out]; exact List.take_of_length_le (Nat.le_refl _)] at this)
        have HSL := Lib.hid (show (puts ((bd L).take n)).length ≤ (puts (bd L)).length by
          rw [puts_part (bd L) n, List.length_append]; omega)
        have HSM := Lib.hid (show Small (bd L) from fun b hb => by have := HMS.out b hb; omega)
        have HCR := Lib.hid (crash_any wz _ vz 1048576 ((puts ((bd L).take n)).length : Int) _ HLz.out.at_ (by have := HTOT.out; omega) (by omega) (by have := HSL.out; omega) keep hk)
        obtain ⟨j, hj⟩ : ∃ j : Nat, left (puts (bd L)) ((puts ((bd L).take n)).length : Int) keep = j := ⟨(left (puts (bd L)) ((puts ((bd L).take n)).length : Int) keep).toNat, by
          have := HSL.out
          unfold left
          omega⟩
        have HJ := Lib.hid (show (puts ((bd L).take n)).length ≤ j ∧ j ≤ (puts (bd L)).length by
          have h1 := HSL.out
          unfold left at hj
          omega)
        rw [hj, Int.toNat_natCast] at HCR
        obtain ⟨m, hnm, hmM, hsc, hpre⟩ := scan_cut (bd L) HSM.out j n (by rw [HML.out]; omega) HJ.out.1
        obtain ⟨g, hg⟩ : ∃ g, g = (puts ((bd L).take m)).length := ⟨_, rfl⟩
        have HGL := Lib.hid (show g ≤ 4160 by rw [hg]; exact HPT.out m)
        have htl : ((puts (bd L)).take j).length = j := by have := HJ.out; rw [List.length_take]; omega
        have hgj : g ≤ j := by
          have := hpre.length_le
          rw [htl] at this
          omega
        have hpt := prefix_take hpre
        rw [← hg] at hpt hsc
        have HOP := Lib.hid (fun (w' : World) (v' : Value) (h : At w' w.heap.size v' 1048576 (j : Nat) ((puts (bd L)).take j)) (hE : EnvF w' a) => open_any w' _ v' 1048576 (j : Nat) _ h (by rw [htl]; have := HJ.out; have := HTOT.out; omega) (by rw [hsc]; have := HGL.out; simp only; omega) a hE)
        unfold OPost at HOP
        rw [hsc, htl] at HOP
        simp only [hpt] at HOP
        rw [show (if g < j then (g : Int) else (j : Int)) = g by split <;> omega] at HOP
        rw [HML.out] at hmM
        have HSG := Lib.hid (show scan (puts ((bd L).take m)) = ((bd L).take m, g) by rw [scan_all _ (fun b hb => HSM.out b (List.mem_of_mem_take hb)), hg])
        have HG := Lib.hid hg
        have hbm : ((bd L).take m).length = m := by rw [List.length_take, HML.out]; omega
        have HBM := Lib.hid hbm
        have HMT := Lib.hid (show ((bd L).take m).map tx = L.take m by rw [List.map_take, bd_tx])
        have HMO := Lib.hid (scan_more ((bd L).take m) (fun b hb => HSM.out b (List.mem_of_mem_take hb)))
        clear hj hsc hpre htl hgj hpt hg hbm
        go_wp2_with fail
        refine HCR.out.mono ?_
        rintro e w4 ⟨rfl, v4, hAt, hT⟩
        have HB4 := Lib.hid (tb1 HBz.out (Nat.le_refl _) hT)
        have HO4 := Lib.hid (HOP.out w4 v4 hAt (HE.out.below HB4.out))
        clear hAt hT
        go_wp2_with fail
        refine HO4.out.mono ?_
        rintro e w5 ⟨⟨p2, v5, rfl, hL5, hp2⟩, hT⟩
        have HB5 := Lib.hid (tb1 HB4.out (Nat.le_refl _) hT)
        have HL5 := Lib.hid hL5
        have HR5 := Lib.hid (records_any w5 p2 _ v5 _ _ _ hL5 (by have := HGL.out; have := HG.out; omega) a (HE.out.below HB5.out))
        unfold TPost at HR5
        rw [HSG.out] at HR5
        clear hL5 hT hp2
        go_wp2_with fail
        refine HR5.out.mono ?_
        rintro e w6 ⟨⟨v6, rfl, ho⟩, hb⟩
        have HB6 := Lib.hid (then_below HB5.out hb)
        have HL6 := Lib.hid (HL5.out.grown hb)
        obtain ⟨A6, c6, hv6, ht6⟩ := ho.txt
        rw [HMT.out] at hv6 ht6
        have e6 : v6 = .slice A6 m c6 := by rw [hv6, List.length_take, Nat.min_eq_left hmM]
        clear hv6
        subst e6
        have HBG := Lib.hid (begins_any w6 A6 A L m hmM c6 c ht6 (HA.out.below HB6.out) (by omega))
        clear ho hb ht6
        go_wp2_with fail
        refine HBG.out.mono ?_
        rintro e w7 ⟨rfl, hd⟩
        have HB7 := Lib.hid (then_below HB6.out hd.below)
        have HL7 := Lib.hid (HL6.out.grown hd.below)
        have HS7 := Lib.hid (lsure_any w7 p2 _ v5 1048576 g _ HL7.out (by rw [HG.out]; exact Nat.le_refl _) (by have := HGL.out; have := HG.out; omega) a (HE.out.below HB7.out))
        rw [List.take_of_length_le (by rw [HG.out]; exact Nat.le_refl _), HSG.out, HBM.out] at HS7
        have hmn : ¬ (m : Int) < n := by omega
        clear hd
        go_wp2_with fail
        refine HS7.out.mono ?_
        rintro e w8 ⟨rfl, hb⟩
        have HB8 := Lib.hid (then_below HB7.out hb)
        have HL8 := Lib.hid (HL7.out.grown hb)
        have HW8 := Lib.hid (waits_any w8 p2 _ v5 1048576 g _ HL8.out)
        rw [← HG.out, show decide ((g : Int) < (g : Int)) = false from decide_eq_false (by omega)] at HW8
        clear hb
        go_wp2_with fail
        refine HW8.out.mono ?_
        rintro e w9 ⟨rfl, rfl⟩
        have HAP := Lib.hid (show Calls Tryd.prog 28 #[.pointer (some ⟨p2, 0, none⟩), .string ⟨#[109, 111, 114, 101]⟩] w8 fun e w' => e = .returned .nilIface ∧ (∃ v', Lg w' p2 w.heap.size v' 1048576 g (puts ((bd L).take m) ++ put more4)) ∧ Tch [w.heap.size] w8 w' from
          lappend_yes w8 p2 _ v5 1048576 g _ more4 HL8.out (by have := HGL.out; have := HG.out; omega) (by decide) (by decide) (by decide) (by have := HGL.out; have := HG.out; have : more4.length = 4 := rfl; omega))
        go_wp2_with fail
        refine HAP.out.mono ?_
        rintro e w10 ⟨rfl, ⟨v10, hL10⟩, hT⟩
        have HB10 := Lib.hid (tb1 HB8.out (Nat.le_refl _) hT)
        have HR10 := Lib.hid (records_any w10 p2 _ v10 _ _ _ hL10 (by have := HGL.out; have := HG.out; rw [List.length_append, put_length]; have : more4.length = 4 := rfl; omega) a (HE.out.below HB10.out))
        unfold TPost at HR10
        rw [HMO.out] at HR10
        clear hL10 hT
        go_wp2_with fail
        refine HR10.out.mono ?_
        rintro e w11 ⟨⟨v11, rfl, ho⟩, hb⟩
        have HB11 := Lib.hid (then_below HB10.out hb)
        obtain ⟨A11, c11, hv11⟩ := own_form ho.own
        have hl11 : ((bd L).take m ++ [more4]).length = m + 1 := by rw [List.length_append, HBM.out]; rfl
        rw [hl11] at hv11
        obtain rfl := hv11
        have HAW := Lib.hid (awake_any w11 a (HE.out.below HB11.out))
        clear ho hb hl11
        go_wp2_with fail
        refine HAW.out.mono ?_
        rintro e w12 ⟨rfl, hb⟩
        have HB12 := Lib.hid (then_below HB11.out hb)
        clear hb
        go_wp2_with fail
        go_ret
        exact ⟨rfl, HB12.out⟩
      · have hkn' : ((n : Int) == L.length) = false := beq_eq_false_iff_ne.2 (by omega)
        rw [show sv (bd L) n L.length = ((puts ((bd L).take n)).length : Int) by unfold sv; rw [if_pos (by omega)]] at hLg
        obtain ⟨vz, hvz⟩ : ∃ vz, vz = v := ⟨_, rfl⟩
        obtain ⟨wz, hwz⟩ : ∃ wz, wz = wr := ⟨_, rfl⟩
        rw [← hvz, ← hwz] at hLg
        rw [← hwz]
        have HLz := Lib.hid hLg
        have HBz := Lib.hid (show Below w.heap.size w wz by rw [hwz]; exact HB.out)
        clear hLg hkn hvz hwz
        have HTOT := Lib.hid (show (puts (bd L)).length ≤ 4160 by
          have := HPT.out L.length
          rwa [show (bd L).take L.length = bd L by rw [← HML.out]; exact List.take_of_length_le (Nat.le_refl _)] at this)
        have HSL := Lib.hid (show (puts ((bd L).take n)).length ≤ (puts (bd L)).length by
          rw [puts_part (bd L) n, List.length_append]; omega)
        have HSM := Lib.hid (show Small (bd L) from fun b hb => by have := HMS.out b hb; omega)
        have HCR := Lib.hid (crash_any wz _ vz 1048576 ((puts ((bd L).take n)).length : Int) _ HLz.out.at_ (by have := HTOT.out; omega) (by omega) (by have := HSL.out; omega) keep hk)
        obtain ⟨j, hj⟩ : ∃ j : Nat, left (puts (bd L)) ((puts ((bd L).take n)).length : Int) keep = j := ⟨(left (puts (bd L)) ((puts ((bd L).take n)).length : Int) keep).toNat, by
          have := HSL.out
          unfold left
          omega⟩
        have HJ := Lib.hid (show (puts ((bd L).take n)).length ≤ j ∧ j ≤ (puts (bd L)).length by
          have h1 := HSL.out
          unfold left at hj
          omega)
        rw [hj, Int.toNat_natCast] at HCR
        obtain ⟨m, hnm, hmM, hsc, hpre⟩ := scan_cut (bd L) HSM.out j n (by rw [HML.out]; omega) HJ.out.1
        obtain ⟨g, hg⟩ : ∃ g, g = (puts ((bd L).take m)).length := ⟨_, rfl⟩
        have HGL := Lib.hid (show g ≤ 4160 by rw [hg]; exact HPT.out m)
        have htl : ((puts (bd L)).take j).length = j := by have := HJ.out; rw [List.length_take]; omega
        have hgj : g ≤ j := by
          have := hpre.length_le
          rw [htl] at this
          omega
        have hpt := prefix_take hpre
        rw [← hg] at hpt hsc
        have HOP := Lib.hid (fun (w' : World) (v' : Value) (h : At w' w.heap.size v' 1048576 (j : Nat) ((puts (bd L)).take j)) (hE : EnvF w' a) => open_any w' _ v' 1048576 (j : Nat) _ h (by rw [htl]; have := HJ.out; have := HTOT.out; omega) (by rw [hsc]; have := HGL.out; simp only; omega) a hE)
        unfold OPost at HOP
        rw [hsc, htl] at HOP
        simp only [hpt] at HOP
        rw [show (if g < j then (g : Int) else (j : Int)) = g by split <;> omega] at HOP
        rw [HML.out] at hmM
        have HSG := Lib.hid (show scan (puts ((bd L).take m)) = ((bd L).take m, g) by rw [scan_all _ (fun b hb => HSM.out b (List.mem_of_mem_take hb)), hg])
        have HG := Lib.hid hg
        have hbm : ((bd L).take m).length = m := by rw [List.length_take, HML.out]; omega
        have HBM := Lib.hid hbm
        have HMT := Lib.hid (show ((bd L).take m).map tx = L.take m by rw [List.map_take, bd_tx])
        have HMO := Lib.hid (scan_more ((bd L).take m) (fun b hb => HSM.out b (List.mem_of_mem_take hb)))
        clear hj hsc hpre htl hgj hpt hg hbm
        go_wp2_with fail
        refine HCR.out.mono ?_
        rintro e w4 ⟨rfl, v4, hAt, hT⟩
        have HB4 := Lib.hid (tb1 HBz.out (Nat.le_refl _) hT)
        have HO4 := Lib.hid (HOP.out w4 v4 hAt (HE.out.below HB4.out))
        clear hAt hT
        go_wp2_with fail
        refine HO4.out.mono ?_
        rintro e w5 ⟨⟨p2, v5, rfl, hL5, hp2⟩, hT⟩
        have HB5 := Lib.hid (tb1 HB4.out (Nat.le_refl _) hT)
        have HL5 := Lib.hid hL5
        have HR5 := Lib.hid (records_any w5 p2 _ v5 _ _ _ hL5 (by have := HGL.out; have := HG.out; omega) a (HE.out.below HB5.out))
        unfold TPost at HR5
        rw [HSG.out] at HR5
        clear hL5 hT hp2
        go_wp2_with fail
        refine HR5.out.mono ?_
        rintro e w6 ⟨⟨v6, rfl, ho⟩, hb⟩
        have HB6 := Lib.hid (then_below HB5.out hb)
        have HL6 := Lib.hid (HL5.out.grown hb)
        obtain ⟨A6, c6, hv6, ht6⟩ := ho.txt
        rw [HMT.out] at hv6 ht6
        have e6 : v6 = .slice A6 m c6 := by rw [hv6, List.length_take, Nat.min_eq_left hmM]
        clear hv6
        subst e6
        have HBG := Lib.hid (begins_any w6 A6 A L m hmM c6 c ht6 (HA.out.below HB6.out) (by omega))
        clear ho hb ht6
        go_wp2_with fail
        refine HBG.out.mono ?_
        rintro e w7 ⟨rfl, hd⟩
        have HB7 := Lib.hid (then_below HB6.out hd.below)
        have HL7 := Lib.hid (HL6.out.grown hd.below)
        have HS7 := Lib.hid (lsure_any w7 p2 _ v5 1048576 g _ HL7.out (by rw [HG.out]; exact Nat.le_refl _) (by have := HGL.out; have := HG.out; omega) a (HE.out.below HB7.out))
        rw [List.take_of_length_le (by rw [HG.out]; exact Nat.le_refl _), HSG.out, HBM.out] at HS7
        have hmn : ¬ (m : Int) < n := by omega
        clear hd
        go_wp2_with fail
        refine HS7.out.mono ?_
        rintro e w8 ⟨rfl, hb⟩
        have HB8 := Lib.hid (then_below HB7.out hb)
        have HL8 := Lib.hid (HL7.out.grown hb)
        have HW8 := Lib.hid (waits_any w8 p2 _ v5 1048576 g _ HL8.out)
        rw [← HG.out, show decide ((g : Int) < (g : Int)) = false from decide_eq_false (by omega)] at HW8
        clear hb
        go_wp2_with fail
        refine HW8.out.mono ?_
        rintro e w9 ⟨rfl, rfl⟩
        have HAP := Lib.hid (show Calls Tryd.prog 28 #[.pointer (some ⟨p2, 0, none⟩), .string ⟨#[109, 111, 114, 101]⟩] w8 fun e w' => e = .returned .nilIface ∧ (∃ v', Lg w' p2 w.heap.size v' 1048576 g (puts ((bd L).take m) ++ put more4)) ∧ Tch [w.heap.size] w8 w' from
          lappend_yes w8 p2 _ v5 1048576 g _ more4 HL8.out (by have := HGL.out; have := HG.out; omega) (by decide) (by decide) (by decide) (by have := HGL.out; have := HG.out; have : more4.length = 4 := rfl; omega))
        go_wp2_with fail
        refine HAP.out.mono ?_
        rintro e w10 ⟨rfl, ⟨v10, hL10⟩, hT⟩
        have HB10 := Lib.hid (tb1 HB8.out (Nat.le_refl _) hT)
        have HR10 := Lib.hid (records_any w10 p2 _ v10 _ _ _ hL10 (by have := HGL.out; have := HG.out; rw [List.length_append, put_length]; have : more4.length = 4 := rfl; omega) a (HE.out.below HB10.out))
        unfold TPost at HR10
        rw [HMO.out] at HR10
        clear hL10 hT
        go_wp2_with fail
        refine HR10.out.mono ?_
        rintro e w11 ⟨⟨v11, rfl, ho⟩, hb⟩
        have HB11 := Lib.hid (then_below HB10.out hb)
        obtain ⟨A11, c11, hv11⟩ := own_form ho.own
        have hl11 : ((bd L).take m ++ [more4]).length = m + 1 := by rw [List.length_append, HBM.out]; rfl
        rw [hl11] at hv11
        obtain rfl := hv11
        have HAW := Lib.hid (awake_any w11 a (HE.out.below HB11.out))
        clear ho hb hl11
        go_wp2_with fail
        refine HAW.out.mono ?_
        rintro e w12 ⟨rfl, hb⟩
        have HB12 := Lib.hid (then_below HB11.out hb)
        clear hb
        go_wp2_with fail
        go_ret
        exact ⟨rfl, HB12.out⟩
set_option maxHeartbeats 2000000 in
/-- WalCrash. -/
theorem crash_law (w : World) (A : Option Addr) (len cap : Nat) (l : List ByteArray) (sure keep : Int) (hl : l.length = len ∧ SliceIs kS w A l) (hs : (Lit.int .u8 sure).wf = true) (hk : (Lit.int .i64 keep).wf = true) (hE : ∃ a, EnvF w a) :
    Calls Tryd.prog 6 #[.slice A len cap, .int .u8 sure, .int .i64 keep] w fun e w' => e = .returned (.bool true) ∧ Below w.heap.size w w' := by
  obtain ⟨rfl, hS⟩ := hl
  obtain ⟨a, hE⟩ := hE
  have hs' : 0 ≤ sure ∧ sure ≤ 255 := by
    unfold Lit.wf at hs
    simp only [Bool.and_eq_true, decide_eq_true_eq] at hs
    exact hs
  by_cases hF : Few l
  · exact crash_few w A l cap sure keep (txt_of hS) hF hs'.1 hs'.2 hk a hE
  · have HFN := Lib.hid (few_no w A l cap hS.len (txt_of hS) hF)
    have HA := Lib.hid (awake_any w a hE)
    clear hs hs' hk hE hF hS
    go_enter Tryd.func6, Tryd.ntmps6
    go_wp2_with fail
    refine HFN.out.mono ?_
    rintro e w1 ⟨rfl, rfl⟩
    go_wp2_with fail
    refine HA.out.mono ?_
    rintro e w1 ⟨rfl, hb⟩
    have HB := Lib.hid hb
    clear hb
    go_wp2_with fail
    go_ret
    exact ⟨rfl, HB.out⟩
end Go.Proofs.YthpplbigmolnjaaDoor.WalW
