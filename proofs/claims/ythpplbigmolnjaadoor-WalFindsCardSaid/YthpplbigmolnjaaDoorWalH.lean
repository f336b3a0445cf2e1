/- Records: texts compared; a log on a disk. -/
import Derived.Test.YthpplbigmolnjaaDoorWalG
set_option linter.unusedVariables false
set_option linter.unusedSimpArgs false
set_option maxRecDepth 100000
namespace Go.Proofs.YthpplbigmolnjaaDoor.WalW
open Go.RowKit Go.Proofs.YthpplbigmolnjaaDoor.Tc Go.Proofs.YthpplbigmolnjaaDoor.DiskW WalP Go.Proofs.YthpplbigmolnjaaDoor.FltW

/-- Texts that can be read. -/
def Txt (w : World) (A : Option Addr) (L : List ByteArray) : Prop := ∀ k x, L[k]? = some x → ∃ b off, A = some ⟨b, off, none⟩ ∧ w.cell? ⟨b, off + k, none⟩ = some (.string x)
theorem Txt.below {w w' : World} {A : Option Addr} {L : List ByteArray} (h : Txt w A L) (hb : Below w.heap.size w w') : Txt w' A L := fun k x hx => by
  obtain ⟨b, off, hA, hc⟩ := h k x hx
  exact ⟨b, off, hA, (World.cell?_of_block (hb.block b (World.block_lt_of_cell? w _ hc))).trans hc⟩
theorem Txt.drew {w w' : World} {A : Option Addr} {L : List ByteArray} (h : Txt w A L) (hb : Dr w w') : Txt w' A L := h.below hb.below
theorem OwnT.txt {B : Nat} {w : World} {v : Value} {L : List (List UInt8)} (h : OwnT B w v L) : ∃ A c, v = .slice A (L.map tx).length c ∧ Txt w A (L.map tx) := by
  obtain ⟨A, c, rfl⟩ := own_form h.own
  refine ⟨A, c, by rw [List.length_map], fun k x hx => ?_⟩
  have hk := (List.getElem?_eq_some_iff.1 hx).1
  rw [List.length_map] at hk
  obtain ⟨g, c', hv, -, hc⟩ := own_cells h.own (by omega)
  injection hv with hA
  subst hA
  refine ⟨g, 0, rfl, ?_⟩
  rw [Nat.zero_add]
  rw [List.getElem?_map] at hx
  cases hq : L[k]? with
  | none => rw [hq] at hx; cases hx
  | some y =>
    rw [hq] at hx
    injection hx with hx
    exact hc k _ (by rw [List.getElem?_map, hq, ← hx]; rfl)
set_option maxHeartbeats 1000000 in
theorem same_any (w : World) (A B : Option Addr) (L : List ByteArray) (c d : Nat) (hA : Txt w A L) (hB : Txt w B L) (hL : L.length ≤ 1000000) :
    Calls Tryd.prog 23 #[.slice A L.length c, .slice B L.length d] w fun e w' => e = .returned (.bool true) ∧ Dr w w' := by
  have HA := Lib.hid hA
  have HB := Lib.hid hB
  clear hA hB
  go_enter Tryd.func23, Tryd.ntmps23
  go_wp2
  go_loopw [5] (fun i wr => ∃ k : Nat, k ≤ L.length ∧ i = .int .i64 k ∧ Dr w wr) (fun i _ => L.length - (intOf i).toNat)
  case atStart => exact ⟨0, by omega, rfl, dr_refl w⟩
  case round =>
    obtain ⟨k, hk, rfl, n, rfl⟩ := hrel
    by_cases hlt : k < L.length
    · obtain ⟨x, hx⟩ : ∃ x, L[k]? = some x := ⟨_, List.getElem?_eq_getElem hlt⟩
      obtain ⟨b1, o1, rfl, h1⟩ := HA.out k x hx
      obtain ⟨b2, o2, rfl, h2⟩ := HB.out k x hx
      have e1 := str_eq (rfl : x = x)
      clear hx
      go_wp2
      go_quiet (fail)
      go_wp2
      go_roundw
      case rel => exact ⟨k + 1, by omega, by go_num, n + nq, rfl⟩
      case measure => simp [intOf]; omega
    · obtain rfl : k = L.length := by omega
      go_wp2
      go_ret
      exact ⟨rfl, n, rfl⟩
set_option maxHeartbeats 1000000 in
theorem begins_any (w : World) (A B : Option Addr) (L : List ByteArray) (m : Nat) (hm : m ≤ L.length) (c d : Nat) (hA : Txt w A (L.take m)) (hB : Txt w B L) (hL : L.length ≤ 1000000) :
    Calls Tryd.prog 31 #[.slice A m c, .slice B L.length d] w fun e w' => e = .returned (.bool true) ∧ Dr w w' := by
  have HA := Lib.hid hA
  have HB := Lib.hid hB
  clear hA hB
  go_enter Tryd.func31, Tryd.ntmps31
  go_wp2
  go_loopw [5] (fun i wr => ∃ k : Nat, k ≤ m ∧ i = .int .i64 k ∧ Dr w wr) (fun i _ => m - (intOf i).toNat)
  case atStart => exact ⟨0, by omega, rfl, dr_refl w⟩
  case round =>
    obtain ⟨k, hk, rfl, n, rfl⟩ := hrel
    by_cases hlt : k < m
    · obtain ⟨x, hx⟩ : ∃ x, L[k]? = some x := ⟨_, List.getElem?_eq_getElem (by omega)⟩
      obtain ⟨b1, o1, rfl, h1⟩ := HA.out k x (by rw [List.getElem?_take, if_pos hlt]; exact hx)
      obtain ⟨b2, o2, rfl, h2⟩ := HB.out k x hx
      have e1 := str_eq (rfl : x = x)
      clear hx
      go_wp2
      go_quiet (fail)
      go_wp2
      go_roundw
      case rel => exact ⟨k + 1, by omega, by go_num, n + nq, rfl⟩
      case measure => simp [intOf]; omega
    · obtain rfl : k = m := by omega
      go_wp2
      go_ret
      exact ⟨rfl, n, rfl⟩
/-- A wal.Log on a disk. -/
structure Lg (w : World) (p s : Nat) (v : Value) (room sure : Int) (l : List UInt8) : Prop where
  lg : w.heap[p]? = some (.cells #[.pointer (some ⟨s, 0, none⟩)] 84 (0, 0))
  at_ : At w s v room sure l
theorem disk_any (w : World) (p s : Nat) (h : w.heap[p]? = some (.cells #[.pointer (some ⟨s, 0, none⟩)] 84 (0, 0))) : Calls Tryd.prog 54 #[.pointer (some ⟨p, 0, none⟩)] w fun e w' => e = .returned (.pointer (some ⟨s, 0, none⟩)) ∧ w = w' := by
  have c0 : w.cell? ⟨p, 0, none⟩ = some (.pointer (some ⟨s, 0, none⟩)) := cell_of h rfl
  clear h
  go_enter Tryd.func54, Tryd.ntmps54
  go_wp2
  go_ret
  exact ⟨rfl, rfl⟩
section
variable {w w' : World} {p s : Nat} {v : Value} {room sure : Int} {l : List UInt8}
theorem Lg.grown (h : Lg w p s v room sure l) (hb : Below w.heap.size w w') : Lg w' p s v room sure l := ⟨(hb.block p (lt_of_block h.lg)).trans h.lg, h.at_.grown hb⟩
theorem Lg.ne (h : Lg w p s v room sure l) : p ≠ s := type_ne h.lg h.at_.st (by decide)
theorem Lg.moved (h : Lg w p s v room sure l) {v' : Value} {room' sure' : Int} {l' : List UInt8} (hT : Tch [s] w w') (hA : At w' s v' room' sure' l') : Lg w' p s v' room' sure' l' :=
  ⟨(hT.block p (lt_of_block h.lg) (by simpa using h.ne)).trans h.lg, hA⟩
end
set_option maxHeartbeats 1000000 in
theorem lsync_any (w : World) (p s : Nat) (v : Value) (room sure : Int) (l : List UInt8) (h : Lg w p s v room sure l) :
    Calls Tryd.prog 27 #[.pointer (some ⟨p, 0, none⟩)] w fun e w' => e = .returned (.tuple #[]) ∧ Lg w' p s v room l.length l ∧ Tch [s] w w' := by
  have HD := Lib.hid (disk_any w p s h.lg)
  have HS := Lib.hid (sync_any w s v room sure l h.at_)
  have H := Lib.hid h
  clear h
  go_enter Tryd.func27, Tryd.ntmps27
  go_wp2_with fail
  refine HD.out.mono ?_
  rintro e w1 ⟨rfl, rfl⟩
  go_wp2_with fail
  refine HS.out.mono ?_
  rintro e w2 ⟨rfl, hA, hT⟩
  have HA := Lib.hid hA
  have HT := Lib.hid hT
  clear hA hT
  go_wp2_with fail
  go_returns
  exact ⟨rfl, H.out.moved HT.out HA.out, HT.out⟩
set_option maxHeartbeats 1000000 in
theorem waits_any (w : World) (p s : Nat) (v : Value) (room sure : Int) (l : List UInt8) (h : Lg w p s v room sure l) :
    Calls Tryd.prog 33 #[.pointer (some ⟨p, 0, none⟩)] w fun e w' => e = .returned (.bool (decide (sure < l.length))) ∧ w = w' := by
  have HD := Lib.hid (disk_any w p s h.lg)
  have HS := Lib.hid (sure_any w s v room sure l h.at_)
  have HB := Lib.hid (bytes_any w s v room sure l h.at_)
  have hsz := tx_size l
  unfold tx at hsz
  generalize (⟨l.toArray⟩ : ByteArray) = t at HB hsz
  have hs1 : (t.size : Int) = l.length := by rw [hsz]
  rw [← hs1]
  clear h hsz hs1
  go_enter Tryd.func33, Tryd.ntmps33
  go_wp2_with fail
  refine HD.out.mono ?_
  rintro e w1 ⟨rfl, rfl⟩
  go_wp2_with fail
  refine HS.out.mono ?_
  rintro e w2 ⟨rfl, rfl⟩
  go_wp2_with fail
  refine HB.out.mono ?_
  rintro e w2 ⟨rfl, rfl⟩
  go_wp2_with fail
  go_ret
  exact ⟨rfl, rfl⟩
/-- Texts that a call handed back. -/
def TPost (L : List (List UInt8)) (w : World) (e : Ending) (w' : World) : Prop := (∃ v, e = .returned v ∧ OwnT w.heap.size w' v L) ∧ Below w.heap.size w w'
set_option maxHeartbeats 1000000 in
theorem records_any (w : World) (p s : Nat) (v : Value) (room sure : Int) (l : List UInt8) (h : Lg w p s v room sure l) (hl : l.length ≤ 1000000) (a : Nat → Addr) (hE : EnvF w a) :
    Calls Tryd.prog 30 #[.pointer (some ⟨p, 0, none⟩)] w (TPost (scan l).1 w) := by
  generalize hP : TPost (scan l).1 w = PP
  have HPP := Lib.hid (show ∀ v w', OwnT w.heap.size w' v (scan l).1 → Below w.heap.size w w' → PP (.returned v) w' from fun v w' ho hb => by
    rw [← hP]
    exact ⟨⟨v, rfl, ho⟩, hb⟩)
  have HD := Lib.hid (disk_any w p s h.lg)
  have HB := Lib.hid (bytes_any w s v room sure l h.at_)
  have HS := Lib.hid (scan_any l w a hE hl)
  unfold tx at HS
  generalize (⟨l.toArray⟩ : ByteArray) = t at HB HS
  clear h hP hE
  go_enter Tryd.func30, Tryd.ntmps30
  go_wp2_with fail
  refine HD.out.mono ?_
  rintro e w1 ⟨rfl, rfl⟩
  go_wp2_with fail
  refine HB.out.mono ?_
  rintro e w1 ⟨rfl, rfl⟩
  go_wp2_with fail
  refine HS.out.mono ?_
  rintro e w1 ⟨⟨u, rfl, ho⟩, hb⟩
  have HO := Lib.hid ho
  have HB1 := Lib.hid hb
  clear ho hb
  go_wp2_with fail
  exact HPP.out _ _ HO.out HB1.out
theorem tx_head (l : List UInt8) (n : Nat) : (tx l).extract 0 n = tx (l.take n) := by
  have := tx_cut l 0 n
  simpa using this
theorem slice_head (t : ByteArray) (n : Nat) (h : n ≤ t.size) (w : World) : (Instr.slice 9 (.string t) none (some (.int .i64 (n : Int))) none).run Tryd.prog w = .ok (.string (t.extract 0 n)) w := by
  rw [run_slice_string_h (P := Tryd.prog) w 9 t Tryd.underlying9 .i64 (n : Int) (by omega) (by omega), Int.toNat_natCast]
set_option maxHeartbeats 1000000 in
theorem lsure_any (w : World) (p s : Nat) (v : Value) (room : Int) (sure : Nat) (l : List UInt8) (h : Lg w p s v room sure l) (hs : sure ≤ l.length) (hl : l.length ≤ 1000000) (a : Nat → Addr) (hE : EnvF w a) :
    Calls Tryd.prog 32 #[.pointer (some ⟨p, 0, none⟩)] w fun e w' => e = .returned (.int .i64 ((scan (l.take sure)).1.length : Int)) ∧ Below w.heap.size w w' := by
  have HD := Lib.hid (disk_any w p s h.lg)
  have HB := Lib.hid (bytes_any w s v room sure l h.at_)
  have HSU := Lib.hid (sure_any w s v room sure l h.at_)
  have HS := Lib.hid (scan_any (l.take sure) w a hE (by rw [List.length_take]; omega))
  have hsl := fun w' => slice_head (tx l) sure (by rw [tx_size]; exact hs) w'
  rw [tx_head] at hsl
  change Hid (Calls Tryd.prog 52 #[.pointer (some ⟨s, 0, none⟩)] w fun e w' => e = .returned (.string (tx l)) ∧ w = w') at HB
  generalize tx l = t at HB hsl
  generalize tx (l.take sure) = t2 at HS hsl
  clear h hE
  go_enter Tryd.func32, Tryd.ntmps32
  go_wp2_with fail
  refine HD.out.mono ?_
  rintro e w1 ⟨rfl, rfl⟩
  go_wp2_with fail
  refine HB.out.mono ?_
  rintro e w1 ⟨rfl, rfl⟩
  go_wp2_with fail
  refine HSU.out.mono ?_
  rintro e w1 ⟨rfl, rfl⟩
  go_wp2_with fail
  refine HS.out.mono ?_
  rintro e w1 ⟨⟨u, rfl, ho⟩, hb⟩
  obtain ⟨A, c, rfl⟩ := own_form ho.own
  have HB1 := Lib.hid hb
  clear ho hb
  go_wp2_with fail
  go_ret
  exact ⟨rfl, HB1.out⟩
end Go.Proofs.YthpplbigmolnjaaDoor.WalW
