/- Records: a log opened, appended to. -/
import Derived.Test.YthpplbigmolnjaaDoorWalH
set_option linter.unusedVariables false
set_option linter.unusedSimpArgs false
set_option maxRecDepth 100000
namespace Go.Proofs.YthpplbigmolnjaaDoor.WalW
open Go.RowKit Go.Proofs.YthpplbigmolnjaaDoor.Tc Go.Proofs.YthpplbigmolnjaaDoor.DiskW WalP Go.Proofs.YthpplbigmolnjaaDoor.FltW

/-- What Open hands back. -/
def OPost (s : Nat) (room sure : Int) (l : List UInt8) (w : World) (e : Ending) (w' : World) : Prop :=
  (∃ p v', e = .returned (.pointer (some ⟨p, 0, none⟩)) ∧ Lg w' p s v' room (if (scan l).2 < l.length then ((scan l).2 : Int) else sure) (l.take (scan l).2) ∧ w.heap.size ≤ p) ∧ Tch [s] w w'
theorem lg_new {w : World} {s : Nat} {v : Value} {room sure : Int} {l : List UInt8} (h : At w s v room sure l) :
    Lg (w.alloc (.cells #[.pointer (some ⟨s, 0, none⟩)] 84)) w.heap.size s v room sure l :=
  ⟨heap_alloc_new w _, h.grown ((Below.refl _ _).alloc (Nat.le_refl _) _)⟩
set_option maxHeartbeats 2000000 in
theorem open_any (w : World) (s : Nat) (v : Value) (room sure : Int) (l : List UInt8) (h : At w s v room sure l) (hl : l.length < 1000000) (hr : ((scan l).2 : Int) ≤ room) (a : Nat → Addr) (hE : EnvF w a) :
    Calls Tryd.prog 26 #[.pointer (some ⟨s, 0, none⟩)] w (OPost s room sure l w) := by
  generalize hP : OPost s room sure l w = PP
  have hle := (scan_le l.length l (Nat.le_refl _)).1
  have HPP := Lib.hid (show ∀ p v' w', Lg w' p s v' room (if (scan l).2 < l.length then ((scan l).2 : Int) else sure) (l.take (scan l).2) → w.heap.size ≤ p → Tch [s] w w' → PP (.returned (.pointer (some ⟨p, 0, none⟩))) w' from fun p v' w' h1 h2 h3 => by
    rw [← hP]
    exact ⟨⟨p, v', rfl, h1, h2⟩, h3⟩)
  have HB := Lib.hid (bytes_any w s v room sure l h)
  have HS := Lib.hid (scan_any l w a hE (by omega))
  have hsl := fun w' => slice_head (tx l) (scan l).2 (by rw [tx_size]; exact hle) w'
  rw [tx_head] at hsl
  have hsz := tx_size l
  change Hid (Calls Tryd.prog 52 #[.pointer (some ⟨s, 0, none⟩)] w fun e w' => e = .returned (.string (tx l)) ∧ w = w') at HB
  generalize tx l = t at HB hsl hsz HS
  have hs1 : (t.size : Int) = l.length := by rw [hsz]
  have H := Lib.hid h
  have hg2 : (tx (l.take (scan l).2)).size = (scan l).2 := by rw [tx_size, List.length_take]; omega
  have hg3 : (tx (l.take (scan l).2)).data.toList = l.take (scan l).2 := rfl
  unfold SPost at HS
  generalize hg : (scan l).2 = g at *
  generalize (scan l).1 = L at *
  by_cases hlt : g < l.length
  · rw [if_pos hlt] at HPP
    generalize hxt : tx (l.take g) = xt at hsl hg2 hg3
    have HW := Lib.hid (fun (w' : World) (hb : Below w.heap.size w w') => swap_yes w' s v room sure l (H.out.grown hb) xt (by omega) (by omega))
    rw [hg2, hg3] at HW
    have hlt' : (g : Int) < l.length := by omega
    clear h hP hE hsz hg2 hg3 hxt hg hr hle
    go_enter Tryd.func26, Tryd.ntmps26
    go_wp2_with fail
    refine HB.out.mono ?_
    rintro e w1 ⟨rfl, rfl⟩
    go_wp2_with fail
    refine HS.out.mono ?_
    rintro e w1 ⟨⟨u, rfl, ho⟩, hb⟩
    have HB1 := Lib.hid hb
    have HW1 := Lib.hid (HW.out w1 hb)
    clear ho hb
    go_wp2_with fail
    refine HW1.out.mono ?_
    rintro e w2 ⟨rfl, v', hA, hT⟩
    have HL := Lib.hid (lg_new hA)
    have HT := Lib.hid (((Tch.of_below (S := [s]) HB1.out).trans hT).alloc (.cells #[.pointer (some ⟨s, 0, none⟩)] 84))
    have HSZ := Lib.hid (show w.heap.size ≤ w2.heap.size from Nat.le_trans HB1.out.size hT.size)
    clear hA hT
    go_wp2_with fail
    exact HPP.out _ _ _ HL.out HSZ.out HT.out
  · rw [if_neg hlt] at HPP
    obtain rfl : g = l.length := by omega
    rw [List.take_of_length_le (Nat.le_refl _)] at HPP
    have hlt' : ¬ (l.length : Int) < l.length := by omega
    clear h hP hE hsz hg2 hg3 hg hr hle
    go_enter Tryd.func26, Tryd.ntmps26
    go_wp2_with fail
    refine HB.out.mono ?_
    rintro e w1 ⟨rfl, rfl⟩
    go_wp2_with fail
    refine HS.out.mono ?_
    rintro e w1 ⟨⟨u, rfl, ho⟩, hb⟩
    have HL := Lib.hid (lg_new (H.out.grown hb))
    have HT := Lib.hid ((Tch.of_below (S := [s]) hb).alloc (.cells #[.pointer (some ⟨s, 0, none⟩)] 84))
    have HSZ := Lib.hid hb.size
    clear ho hb
    go_wp2_with fail
    exact HPP.out _ _ _ HL.out HSZ.out HT.out
set_option maxHeartbeats 1000000 in
theorem full_any (w : World) (a : Nat → Addr) (hE : EnvF w a) :
    Calls Tryd.prog 57 #[] w fun e w' => e = .returned (.iface 56 (.pointer (some ⟨w.heap.size, 0, none⟩))) ∧ w'.heap[w.heap.size]? = some (.cells #[.int .i64 151, .int .i64 0, .iface 96 (.pointer (some (a 4)))] 58 (0, 0)) ∧ Below w.heap.size w w' := by
  have g4 := hE.var 4 (by decide)
  have HN := Lib.hid (new_any 151 0 96 (.pointer (some (a 4))) w)
  clear hE
  go_enter Tryd.func57, Tryd.ntmps57
  go_wp2_with fail
  refine HN.out.mono ?_
  rintro e w1 ⟨rfl, h1, h2⟩
  have H1 := Lib.hid h1
  have H2 := Lib.hid h2
  clear h1 h2
  go_wp2_with fail
  go_ret
  exact ⟨rfl, H1.out, H2.out⟩
set_option maxHeartbeats 1000000 in
/-- The law's own 'full', at such an error. -/
theorem isfull_any (n : Nat) (w : World) (a : Nat → Addr) (hE : EnvF w a) (hn : w.heap[n]? = some (.cells #[.int .i64 151, .int .i64 0, .iface 96 (.pointer (some (a 4)))] 58 (0, 0))) :
    Calls Tryd.prog 43 #[.iface 56 (.pointer (some ⟨n, 0, none⟩))] w fun e w' => e = .returned (.bool true) ∧ Below w.heap.size w w' := by
  have HN := Lib.hid (FltW.number_any w a hE 4 (by decide) [(n, 151, 0)] (.iface 56 (.pointer (some ⟨n, 0, none⟩))) ⟨rfl, _, hn, rfl⟩)
  have HE := Lib.hid hE
  have HB := Lib.hid hn
  clear hE hn
  go_enter Tryd.func43, Tryd.ntmps43
  go_wp2_with fail
  refine HN.out.mono ?_
  rintro e w1 ⟨rfl, hb⟩
  have HB1 := Lib.hid hb
  have hn1 := (hb.block n (lt_of_block HB.out)).trans HB.out
  have HN1 := Lib.hid hn1
  have HR := Lib.hid (reason_any n 151 0 _ w1 (HE.out.below hb).as_ hn1)
  clear hb hn1
  go_wp2_with fail
  refine HR.out.mono ?_
  rintro e w2 ⟨rfl, hb⟩
  have HB2 := Lib.hid (then_below HB1.out hb)
  have hn1 := (hb.block n (lt_of_block HN1.out)).trans HN1.out
  have HA := Lib.hid (FltW.at_any n 151 0 _ w2 (HE.out.below HB2.out).as_ hn1)
  clear hb hn1
  go_wp2_with fail
  refine HA.out.mono ?_
  rintro e w3 ⟨rfl, hb⟩
  have HB3 := Lib.hid (then_below HB2.out hb)
  clear hb
  go_wp2_with fail
  go_ret
  exact ⟨rfl, HB3.out⟩
set_option maxHeartbeats 1000000 in
theorem lappend_yes (w : World) (p s : Nat) (v : Value) (room sure : Int) (l b : List UInt8) (h : Lg w p s v room sure l) (hl : l.length < 1000000) (hr : 0 ≤ room) (hr2 : room ≤ 9223372036854775807) (hb : b.length ≤ 65536) (hn : (l.length : Int) + (8 + b.length) ≤ room) :
    Calls Tryd.prog 28 #[.pointer (some ⟨p, 0, none⟩), .string (tx b)] w fun e w' => e = .returned .nilIface ∧ (∃ v', Lg w' p s v' room sure (l ++ put b)) ∧ Tch [s] w w' := by
  have HD := Lib.hid (disk_any w p s h.lg)
  have HP := Lib.hid (wput_any b (by omega) w)
  have hpl := put_length b
  have HA := Lib.hid (fun (w' : World) (hb' : Below w.heap.size w w') => append_yes w' s v room sure l (h.at_.grown hb') hl hr hr2 (tx (put b)) (by rw [tx_size]; omega) (by rw [tx_size]; omega))
  rw [tx_list] at HA
  have hsz := tx_size b
  have hs1 : ¬ 65536 < ((tx b).size : Int) := by omega
  generalize tx (put b) = tp at HP HA
  generalize tx b = t at *
  have H := Lib.hid h
  clear h hsz hpl hn hr2 hb
  go_enter Tryd.func28, Tryd.ntmps28
  go_wp2_with fail
  refine HD.out.mono ?_
  rintro e w1 ⟨rfl, rfl⟩
  go_wp2_with fail
  refine HP.out.mono ?_
  rintro e w1 ⟨rfl, hb⟩
  have HB := Lib.hid hb
  have HA1 := Lib.hid (HA.out w1 hb)
  clear hb
  go_wp2_with fail
  refine HA1.out.mono ?_
  rintro e w2 ⟨rfl, v', hA, hT⟩
  have HT := Lib.hid ((Tch.of_below (S := [s]) HB.out).trans hT)
  have HL := Lib.hid hA
  clear hA hT
  go_wp2_with fail
  go_ret
  exact ⟨rfl, ⟨v', H.out.moved HT.out HL.out⟩, HT.out⟩
set_option maxHeartbeats 1000000 in
theorem lappend_no (w : World) (p s : Nat) (v : Value) (room sure : Int) (l b : List UInt8) (h : Lg w p s v room sure l) (hl : l.length < 1000000) (hr : 0 ≤ room) (hr2 : room ≤ 9223372036854775807) (hb : b.length ≤ 65536) (hn : room < (l.length : Int) + (8 + b.length)) (a : Nat → Addr) (hE : EnvF w a) :
    Calls Tryd.prog 28 #[.pointer (some ⟨p, 0, none⟩), .string (tx b)] w fun e w' => (∃ n, e = .returned (.iface 56 (.pointer (some ⟨n, 0, none⟩))) ∧ w'.heap[n]? = some (.cells #[.int .i64 151, .int .i64 0, .iface 96 (.pointer (some (a 4)))] 58 (0, 0))) ∧ Below w.heap.size w w' := by
  generalize hP : (fun e w' => (∃ n, e = .returned (.iface 56 (.pointer (some ⟨n, 0, none⟩))) ∧ w'.heap[n]? = some (.cells #[.int .i64 151, .int .i64 0, .iface 96 (.pointer (some (a 4)))] 58 (0, 0))) ∧ Below w.heap.size w w' : Ending → World → Prop) = PP
  have HPP := Lib.hid (show ∀ n w', w'.heap[n]? = some (.cells #[.int .i64 151, .int .i64 0, .iface 96 (.pointer (some (a 4)))] 58 (0, 0)) → Below w.heap.size w w' → PP (.returned (.iface 56 (.pointer (some ⟨n, 0, none⟩)))) w' from fun n w' h1 h2 => by
    rw [← hP]
    exact ⟨⟨n, rfl, h1⟩, h2⟩)
  have HE := Lib.hid hE
  have HD := Lib.hid (disk_any w p s h.lg)
  have HP := Lib.hid (wput_any b (by omega) w)
  have hpl := put_length b
  have HA := Lib.hid (fun (w' : World) (hb' : Below w.heap.size w w') => append_no w' s v room sure l (h.at_.grown hb') hl hr hr2 (tx (put b)) (by rw [tx_size]; omega))
  have hsz := tx_size b
  have hs1 : ¬ 65536 < ((tx b).size : Int) := by omega
  generalize tx (put b) = tp at HP HA
  generalize tx b = t at *
  clear h hsz hpl hn hr2 hb hP hE
  go_enter Tryd.func28, Tryd.ntmps28
  go_wp2_with fail
  refine HD.out.mono ?_
  rintro e w1 ⟨rfl, rfl⟩
  go_wp2_with fail
  refine HP.out.mono ?_
  rintro e w1 ⟨rfl, hb⟩
  have HB := Lib.hid hb
  have HA1 := Lib.hid (HA.out w1 hb)
  clear hb
  go_wp2_with fail
  refine HA1.out.mono ?_
  rintro e w2 ⟨rfl, m, rfl⟩
  have HB2 := Lib.hid (below_drewN HB.out m)
  have HF := Lib.hid (full_any (w1.drewN m) a (HE.out.below HB2.out))
  go_wp2_with fail
  refine HF.out.mono ?_
  rintro e w3 ⟨rfl, h1, h2⟩
  have H1 := Lib.hid h1
  have H2 := Lib.hid (HB2.out.trans (h2.mono HB2.out.size))
  clear h1 h2
  go_wp2_with fail
  exact HPP.out _ _ H1.out H2.out
end Go.Proofs.YthpplbigmolnjaaDoor.WalW
