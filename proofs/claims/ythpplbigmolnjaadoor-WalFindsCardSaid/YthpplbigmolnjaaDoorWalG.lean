/- Records: the document's scan. -/
import Derived.Test.YthpplbigmolnjaaDoorWalF
set_option linter.unusedVariables false
set_option linter.unusedSimpArgs false
set_option maxRecDepth 100000
namespace Go.Proofs.YthpplbigmolnjaaDoor.WalW
open Go.RowKit Go.Proofs.YthpplbigmolnjaaDoor.Tc Go.Proofs.YthpplbigmolnjaaDoor.DiskW WalP Go.Proofs.YthpplbigmolnjaaDoor.FltW

theorem first_def {l : List UInt8} (h8 : 8 ≤ l.length) : first l = if 65536 < val (l.take 4) then none
    else if l.length - 8 < val (l.take 4) then none
    else if crc (num4 (val (l.take 4)) ++ (l.drop 8).take (val (l.take 4))) = val ((l.drop 4).take 4) then some ((l.drop 8).take (val (l.take 4))) else none := by
  conv => lhs; unfold first
  rw [if_neg (by omega)]
/-- One round of the document's scan: at 'no' it ends, at 'yes' it goes on. -/
theorem rr_new (l : List UInt8) (w : World) : Rr (w.alloc (.cells #[.string (tx l), .int .i64 0, .int .i64 0, .int .i64 0] 77)) w.heap.size l 0 0 0 := ⟨heap_alloc_new w _⟩
/-- What stays over a round: the texts that are there. -/
structure Kp (w : World) (v : Value) (L : List (List UInt8)) (x : World) : Prop where
  own : OwnT w.heap.size x v L
  bel : Below w.heap.size w x
theorem Kp.grow {w x y : World} {v : Value} {L : List (List UInt8)} (h : Kp w v L x) (hb : Below x.heap.size x y) : Kp w v L y := ⟨h.own.below hb, h.bel.trans (hb.mono h.bel.size)⟩
theorem Kp.touch {w x y : World} {v : Value} {L : List (List UInt8)} {s : Nat} {c : Array Value} {t : TypeId} {f : Nat × Nat} (h : Kp w v L x) (hst : x.heap[s]? = some (.cells c t f)) (ht : (9 : TypeId) ≠ t) (hs : w.heap.size ≤ s) (hT : Tch [s] x y) : Kp w v L y :=
  ⟨⟨own_kept h.own.own hT (by
    have h1 := own_type_ne h.own.own hst ht
    intro g hg hm
    exact h1 g hg (by simpa using hm)), h.own.new⟩, h.bel.trans (hT.below h.bel.size (by simpa using hs))⟩
set_option maxHeartbeats 8000000 in
theorem rscan_any (l : List UInt8) (w : World) (hl : l.length ≤ 1000000) : Calls Tryd.prog 20 #[.string (tx l)] w (SPost l w) := by
  generalize hP : SPost l w = PP
  have HPP := Lib.hid (show ∀ v k L w', scan l = (L, k) → OwnT w.heap.size w' v L → Below w.heap.size w w' → PP (.returned (.tuple #[v, .int .i64 (k : Nat)])) w' from fun v k L w' hs ho hb => by
    rw [← hP]
    unfold SPost
    rw [hs]
    exact ⟨⟨v, rfl, ho⟩, hb⟩)
  have HSL := Lib.hid (fun (k : Nat) (h : k ≤ l.length) (w' : World) => show (Instr.slice 9 (.string (tx l)) (some (.int .i64 (k : Int))) none none).run Tryd.prog w' = .ok (.string (tx (l.drop k))) w' by
    rw [slice_rest (tx l) k (by rw [tx_size]; exact h), tx_rest])
  have hsz0 := tx_size l
  have hsz : ((tx l).size : Int) = l.length := by rw [hsz0]
  generalize tx l = t at HSL hsz ⊢
  clear hP hsz0
  go_enter Tryd.func20, Tryd.ntmps20
  go_wp2
  go_loopw [4, 5] (fun v x wr => ∃ (k : Nat) (done : List (List UInt8)), Far l k done ∧ OwnT w.heap.size wr v done ∧ Below w.heap.size w wr ∧ x = .int .i64 k) (fun _ x _ => l.length - (intOf x).toNat)
  case atStart => exact ⟨0, [], Far.zero l, OwnT.nil _ _, Below.refl _ _, rfl⟩
  case round =>
    obtain ⟨k, done, hf, ho, hb, rfl⟩ := hrel
    have hsl := HSL.out k hf.1
    have HF := Lib.hid hf
    have hk1 := hf.1
    have hdl : (l.drop k).length = l.length - k := List.length_drop
    obtain ⟨r, hr⟩ : ∃ r, r = l.drop k := ⟨_, rfl⟩
    rw [← hr] at hsl hdl
    have HRR := Lib.hid hr
    have hba := (Below.refl wr.heap.size wr).alloc (Nat.le_refl _) (.cells #[.string (tx r), .int .i64 0, .int .i64 0, .int .i64 0] 77)
    have HKA := Lib.hid (Kp.grow (Kp.mk ho hb) hba)
    have HSZ := Lib.hid hb.size
    have hrn := rr_new r wr
    generalize hxr : tx r = xr at hsl hba HKA hrn
    obtain ⟨wa, hwa⟩ : ∃ wa, wa = wr.alloc (.cells #[.string xr, .int .i64 0, .int .i64 0, .int .i64 0] 77) := ⟨_, rfl⟩
    rw [← hwa] at HKA hrn
    have HWA := Lib.hid hwa
    have HRN := Lib.hid hrn
    clear hf ho hb hr hba hrn hwa hxr
    go_upto_region 4 with (fail)
    rw [← HWA.out]
    by_cases h4 : r.length < 4
    · have HX := Lib.hid (show first r = none from first_short (by omega))
      have HU := Lib.hid (ru32_short wa _ r 0 0 HRN.out (by omega) (by omega) (by omega))
      clear h4
      go_wp2_with fail
      refine HU.out.mono ?_
      rintro e w1 ⟨rfl, hR, hT⟩
      have HK1 := Lib.hid (HKA.out.touch HRN.out.st (by decide) HSZ.out hT)
      have HR1 := Lib.hid hR
      have HU2 := Lib.hid (ru32_off w1 _ r 0 _ hR)
      clear hR hT
      go_wp2_with fail
      refine HU2.out.mono ?_
      rintro e w2 ⟨rfl, hR, hT⟩
      have HK2 := Lib.hid (HK1.out.touch HR1.out.st (by decide) HSZ.out hT)
      have c2 : w2.cell? ⟨wr.heap.size, 2, none⟩ = some (.int .i64 1) := cell_of hR.st rfl
      have HL := Lib.hid (HF.out.last (HRR.out ▸ HX.out))
      clear hR hT
      go_wp2_with fail
      exact HPP.out _ _ _ _ HL.out HK2.out.own HK2.out.bel
    by_cases h8 : r.length < 8
    · have HX := Lib.hid (show first r = none from first_short (by omega))
      have HU := Lib.hid (ru32_ok wa _ r 0 0 HRN.out (by omega) (by omega))
      generalize (val ((r.drop 0).take 4) : Int) = n at HU
      go_wp2_with fail
      refine HU.out.mono ?_
      rintro e w1 ⟨rfl, hR, hT⟩
      have HK1 := Lib.hid (HKA.out.touch HRN.out.st (by decide) HSZ.out hT)
      have HR1 := Lib.hid hR
      have HU2 := Lib.hid (ru32_short w1 _ r (0 + 4) _ hR (by omega) (by omega) (by omega))
      clear hR hT
      go_wp2_with fail
      refine HU2.out.mono ?_
      rintro e w2 ⟨rfl, hR, hT⟩
      have HK2 := Lib.hid (HK1.out.touch HR1.out.st (by decide) HSZ.out hT)
      have c2 : w2.cell? ⟨wr.heap.size, 2, none⟩ = some (.int .i64 1) := cell_of hR.st rfl
      have HL := Lib.hid (HF.out.last (HRR.out ▸ HX.out))
      clear hR hT
      go_wp2_with fail
      exact HPP.out _ _ _ _ HL.out HK2.out.own HK2.out.bel
    have HFD := Lib.hid (first_def (l := r) (by omega))
    have HS := Lib.hid (val_lt (l := (r.drop 4).take 4) (by rw [List.length_take]; omega))
    have hvl := val_lt (l := r.take 4) (by rw [List.length_take]; omega)
    obtain ⟨N, hN⟩ : ∃ N, N = val (r.take 4) := ⟨_, rfl⟩
    obtain ⟨S, hS⟩ : ∃ S, S = val ((r.drop 4).take 4) := ⟨_, rfl⟩
    rw [← hN] at HFD hvl
    rw [← hS] at HFD HS
    have HNN := Lib.hid hN
    have HSS := Lib.hid hS
    obtain ⟨n, hn⟩ : ∃ n : Int, n = N := ⟨_, rfl⟩
    obtain ⟨s2, hs2⟩ : ∃ n : Int, n = S := ⟨_, rfl⟩
    have HNI := Lib.hid hn
    have HSI := Lib.hid hs2
    have n0 : 0 ≤ n := by omega
    have HU := Lib.hid (ru32_ok wa _ r 0 0 HRN.out (by omega) (by omega))
    rw [show r.drop 0 = r from rfl, ← HNN.out, ← HNI.out] at HU
    have HRL := Lib.hid hdl
    clear hN hS hvl hn hs2 h4 hdl
    go_wp2_with fail
    refine HU.out.mono ?_
    rintro e w1 ⟨rfl, hR, hT⟩
    have HK1 := Lib.hid (HKA.out.touch HRN.out.st (by decide) HSZ.out hT)
    have HR1 := Lib.hid hR
    have HU2 := Lib.hid (ru32_ok w1 _ r (0 + 4) 0 hR (by have := HRL.out; omega) (by omega))
    rw [show (0 + 4 : Nat) = 4 from rfl, ← HSS.out, ← HSI.out] at HU2
    clear hR hT
    go_wp2_with fail
    refine HU2.out.mono ?_
    rintro e w2 ⟨rfl, hR, hT⟩
    have HK2 := Lib.hid (HK1.out.touch HR1.out.st (by decide) HSZ.out hT)
    have HR2 := Lib.hid hR
    have c2 : w2.cell? ⟨wr.heap.size, 2, none⟩ = some (.int .i64 0) := cell_of hR.st rfl
    clear hR hT
    by_cases hn : 65536 < n
    · have HX := Lib.hid (show first r = none by
        rw [HFD.out, if_pos (by have := HNI.out; omega)])
      have HL := Lib.hid (HF.out.last (HRR.out ▸ HX.out))
      go_wp2_with fail
      exact HPP.out _ _ _ _ HL.out HK2.out.own HK2.out.bel
    by_cases hsh : (l.length : Int) - k - 8 < n
    · have HX := Lib.hid (show first r = none by
        have := HNI.out
        have := HRL.out
        rw [HFD.out, if_neg (by omega), if_pos (by omega)])
      have HL := Lib.hid (HF.out.last (HRR.out ▸ HX.out))
      go_wp2_with fail
      exact HPP.out _ _ _ _ HL.out HK2.out.own HK2.out.bel
    · have hb1 : ((r.drop 8).take N).length = N := by
        have := HNI.out
        have := HRL.out
        rw [List.length_take, List.length_drop]; omega
      have hNr : 8 + N ≤ r.length := by
        have := HNI.out
        have := HRL.out
        omega
      have HRW := Lib.hid (rraw_ok w2 _ r (4 + 4) N 0 HR2.out (by have := HRL.out; omega) (by omega))
      rw [← HNI.out, show (4 + 4 : Nat) = 8 from rfl] at HRW
      have HX := Lib.hid (show first r = if crc (num4 N ++ (r.drop 8).take N) = S then some ((r.drop 8).take N) else none by
        have := HNI.out
        rw [HFD.out, if_neg (by omega), if_neg (by omega)])
      have HNU := Lib.hid (fun w' => rnumber_any N (by have := HNI.out; omega) w')
      rw [← HNI.out] at HNU
      have HSU := Lib.hid (fun w' => rsum_tx (num4 N ++ (r.drop 8).take N) (by have := HNI.out; rw [List.length_append, num4_length]; omega) w')
      rw [← tx_append] at HSU
      generalize (r.drop 8).take N = body at *
      obtain ⟨C, hC⟩ : ∃ C, C = crc (num4 N ++ body) := ⟨_, rfl⟩
      rw [← hC] at HX HSU
      obtain ⟨ci, hci⟩ : ∃ n : Int, n = C := ⟨_, rfl⟩
      rw [← hci] at HSU
      have HCI := Lib.hid hci
      have s1 : (tx (num4 N)).size ≤ 4 := by rw [tx_size, num4_length]; exact Nat.le_refl _
      have s3 : (tx body).size ≤ 70000 := by rw [tx_size, hb1]; have := HNI.out; omega
      have HB1 := Lib.hid hb1
      have HAP := Lib.hid (fun (v : Value) (L : List (List UInt8)) (x : World) (h : OwnT w.heap.size x v L) (hB : w.heap.size ≤ x.heap.size) (hL : L.length ≤ 1000000) => app_one h hB body hL)
      generalize tx (num4 N) = t4 at HNU HSU s1
      generalize tx body = xb at HRW HSU s3 HAP
      clear hb1 hC hci hNr
      go_wp2_with fail
      refine HRW.out.mono ?_
      rintro e w3 ⟨rfl, hT⟩
      have HK3 := Lib.hid (HK2.out.touch HR2.out.st (by decide) HSZ.out hT)
      clear hT
      go_wp2_with fail
      refine (HNU.out _).mono ?_
      rintro e w4 ⟨rfl, hb4⟩
      have HK4 := Lib.hid (HK3.out.grow hb4)
      clear hb4
      go_wp2_with fail
      refine (HSU.out _).mono ?_
      rintro e w5 ⟨rfl, rfl⟩
      by_cases he : ci = s2
      · have HY := Lib.hid (show first r = some body by
          rw [HX.out, if_pos (by have := HCI.out; have := HSI.out; omega)])
        have he' : (ci != s2) = false := by simpa using he
        have HN := Lib.hid (HF.out.next (HRR.out ▸ HY.out))
        obtain ⟨v', w6, hr, ho2, hb2⟩ := HAP.out _ _ _ HK4.out.own HK4.out.bel.size (by have := HF.out.few; omega)
        have HR := Lib.hid hr
        have HO2 := Lib.hid ho2
        have HB2 := Lib.hid (HK4.out.bel.trans hb2)
        have hkl := HF.out.1
        clear hr ho2 hb2 he
        go_wp2_with (at_builtin; refine wpList_append_eq rfl _ _ _ rfl rfl rfl HR.out ?_)
        go_roundw
        case rel => exact ⟨_, _, HN.out, HO2.out, HB2.out, by rw [HB1.out, HNI.out]; go_num⟩
        case measure =>
          simp only [intOf]
          omega
      · have HY := Lib.hid (show first r = none by
          rw [HX.out, if_neg (by have := HCI.out; have := HSI.out; omega)])
        have he' : (ci != s2) = true := by simpa using he
        have HL := Lib.hid (HF.out.last (HRR.out ▸ HY.out))
        clear he
        go_wp2_with fail
        exact HPP.out _ _ _ _ HL.out HK4.out.own HK4.out.bel
end Go.Proofs.YthpplbigmolnjaaDoor.WalW
