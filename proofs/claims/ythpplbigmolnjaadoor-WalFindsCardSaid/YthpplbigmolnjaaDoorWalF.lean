/- Records: the document's reader. -/
import Derived.Test.YthpplbigmolnjaaDoorWalE
set_option linter.unusedVariables false
set_option linter.unusedSimpArgs false
set_option maxRecDepth 100000
namespace Go.Proofs.YthpplbigmolnjaaDoor.WalW
open Go.RowKit Go.Proofs.YthpplbigmolnjaaDoor.Tc Go.Proofs.YthpplbigmolnjaaDoor.DiskW WalP Go.Proofs.YthpplbigmolnjaaDoor.FltW

/-- The document's Reader. -/
structure Rr (w : World) (s : Nat) (l : List UInt8) (k : Nat) (err at_ : Int) : Prop where
  st : w.heap[s]? = some (.cells #[.string (tx l), .int .i64 k, .int .i64 err, .int .i64 at_] 77 (0, 0))
set_option maxHeartbeats 4000000 in
theorem take_off (w : World) (s : Nat) (l : List UInt8) (k : Nat) (n err at_ : Int) (he : err ≠ 0) (h : Rr w s l k err at_) : Calls Tryd.prog 71 #[.pointer (some ⟨s, 0, none⟩), .int .i64 n] w fun e w' => e = .returned (.tuple #[.string (tx []), .bool false]) ∧ w = w' := by
  have c2 : w.cell? ⟨s, 2, none⟩ = some (.int .i64 err) := cell_of h.st rfl
  have he' : (err != 0) = true := by simpa using he
  clear h he
  go_enter Tryd.func71, Tryd.ntmps71
  go_wp2
  go_returns
  exact ⟨rfl, rfl⟩
set_option maxHeartbeats 4000000 in
theorem take_ok (w : World) (s : Nat) (l : List UInt8) (k n : Nat) (at_ : Int) (h : Rr w s l k 0 at_) (hl : l.length ≤ 1000000) (hk : k + n ≤ l.length) :
    Calls Tryd.prog 71 #[.pointer (some ⟨s, 0, none⟩), .int .i64 n] w fun e w' => e = .returned (.tuple #[.string (tx ((l.drop k).take n)), .bool true]) ∧ Rr w' s l (k + n) 0 at_ ∧ Tch [s] w w' := by
  have c0 : w.cell? ⟨s, 0, none⟩ = some (.string (tx l)) := cell_of h.st rfl
  have c1 : w.cell? ⟨s, 1, none⟩ = some (.int .i64 k) := cell_of h.st rfl
  have c2 : w.cell? ⟨s, 2, none⟩ = some (.int .i64 0) := cell_of h.st rfl
  have f1 := free_of h.st 1
  have HX := Lib.hid (tx_cut l k n)
  have hsz := tx_size l
  have hs1 : ((tx l).size : Int) = l.length := by rw [hsz]
  have hsl := slice_run (tx l) k n (by omega)
  have HR := Lib.hid (fun j => show Rr ((w.drewN j).setCell ⟨s, 1, none⟩ (.int .i64 ((k : Int) + n))) s l (k + n) 0 at_ from ⟨by
    have := set_of (w := w.drewN j) h.st 1 (.int .i64 ((k : Int) + n))
    simpa using this⟩)
  have HT := Lib.hid (fun j => show Tch [s] w ((w.drewN j).setCell ⟨s, 1, none⟩ (.int .i64 ((k : Int) + n))) from ((Tch.refl [s] w).drewN j).setCell (.inl (by simp)) _)
  generalize tx l = t at *
  clear h hsz
  go_enter Tryd.func71, Tryd.ntmps71
  go_wp2
  go_quiet (fail)
  go_wp2
  go_quiet (fail)
  go_wp2
  go_returns
  exact ⟨congrArg _ (by rw [HX.out]; rfl), HR.out _, HT.out _⟩
theorem fail_any (w : World) (s : Nat) (l : List UInt8) (k : Nat) (n a err at_ : Int) (h : Rr w s l k err at_) : Calls Tryd.prog 82 #[.pointer (some ⟨s, 0, none⟩), .int .i64 n, .int .i64 a] w fun e w' => e = .returned (.tuple #[]) ∧ Rr w' s l k n a ∧ Tch [s] w w' := by
  have c2 : w.cell? ⟨s, 2, none⟩ = some (.int .i64 err) := cell_of h.st rfl
  have f2 := free_of h.st 2
  have h1 := set_of h.st 2 (.int .i64 n)
  have c3 : (w.setCell ⟨s, 2, none⟩ (.int .i64 n)).cell? ⟨s, 3, none⟩ = some (.int .i64 at_) := cell_of h1 (by simp)
  have f3 := free_of (show (w.setCell ⟨s, 2, none⟩ (.int .i64 n)).heap[s]? = some (.cells _ 77 (0, 0)) from h1) 3
  have HR := Lib.hid (show Rr ((w.setCell ⟨s, 2, none⟩ (.int .i64 n)).setCell ⟨s, 3, none⟩ (.int .i64 a)) s l k n a from ⟨by
    have := set_of h1 3 (.int .i64 a)
    simpa using this⟩)
  have HT := Lib.hid (show Tch [s] w ((w.setCell ⟨s, 2, none⟩ (.int .i64 n)).setCell ⟨s, 3, none⟩ (.int .i64 a)) from ((Tch.refl [s] w).setCell (.inl (by simp)) _).setCell (.inl (by simp)) _)
  clear h h1
  go_enter Tryd.func82, Tryd.ntmps82
  go_wp2
  go_returns
  exact ⟨rfl, HR.out, HT.out⟩
theorem Rr.drewN {w : World} {s : Nat} {l : List UInt8} {k : Nat} {e a : Int} (h : Rr w s l k e a) (n : Nat) : Rr (w.drewN n) s l k e a := ⟨h.st⟩
theorem Rr.grown {w w' : World} {s : Nat} {l : List UInt8} {k : Nat} {e a : Int} (h : Rr w s l k e a) (hb : Below w.heap.size w w') : Rr w' s l k e a := ⟨(hb.block s (lt_of_block h.st)).trans h.st⟩
set_option maxHeartbeats 4000000 in
theorem take_short (w : World) (s : Nat) (l : List UInt8) (k n : Nat) (at_ : Int) (h : Rr w s l k 0 at_) (hl : l.length ≤ 1000000) (hkl : k ≤ l.length) (hk : l.length < k + n) (hn : (n : Int) < 9223372036854775807) :
    Calls Tryd.prog 71 #[.pointer (some ⟨s, 0, none⟩), .int .i64 n] w fun e w' => e = .returned (.tuple #[.string (tx []), .bool false]) ∧ Rr w' s l k 1 l.length ∧ Tch [s] w w' := by
  have c0 : w.cell? ⟨s, 0, none⟩ = some (.string (tx l)) := cell_of h.st rfl
  have c1 : w.cell? ⟨s, 1, none⟩ = some (.int .i64 k) := cell_of h.st rfl
  have c2 : w.cell? ⟨s, 2, none⟩ = some (.int .i64 0) := cell_of h.st rfl
  have hsz := tx_size l
  have hs1 : ((tx l).size : Int) = l.length := by rw [hsz]
  have HF := Lib.hid (fun j => fail_any (w.drewN j) s l k 1 l.length 0 at_ (h.drewN j))
  generalize tx l = t at c0 hs1
  obtain ⟨m, hm⟩ : ∃ m : Int, m = n := ⟨_, rfl⟩
  rw [← hm]
  have m0 : ¬ m < 0 := by omega
  have m1 : (l.length : Int) - k < m := by omega
  clear h hsz hk hn hm
  go_enter Tryd.func71, Tryd.ntmps71
  go_wp2_with fail
  go_quiet (fail)
  go_wp2_with fail
  refine (HF.out _).mono ?_
  rintro e w2 ⟨rfl, hR, hT⟩
  have HR := Lib.hid hR
  have HT := Lib.hid (((Tch.refl [s] w).drewN _).trans hT)
  clear hR hT
  go_wp2_with fail
  go_returns
  exact ⟨rfl, HR.out, HT.out⟩
set_option maxHeartbeats 4000000 in
/-- The document's number. -/
theorem rnum_rd (w : World) (s : Nat) (P : World → Prop) (b : List UInt8) (ok : Bool) (hb : b.length ≤ 4) (hok : ok = true ∨ b = [])
    (hraw : Calls Tryd.prog 71 #[.pointer (some ⟨s, 0, none⟩), .int .i64 4] w fun e w' => e = .returned (.tuple #[.string (tx b), .bool ok]) ∧ P w') :
    Calls Tryd.prog 70 #[.pointer (some ⟨s, 0, none⟩), .int .i64 4] w fun e w' => e = .returned (.int .i64 (val b : Int)) ∧ P w' := by
  have HRAW := Lib.hid hraw
  have hsz := tx_size b
  have HB := Lib.hid hok
  clear hraw hok
  go_enter Tryd.func70, Tryd.ntmps70
  go_wp2_with fail
  refine HRAW.out.mono ?_
  rintro e w1 ⟨rfl, hp⟩
  have HP1 := Lib.hid hp
  clear hp
  go_wp2_with fail
  go_loopw [7, 8] (fun v i wr => wr = w1 ∧ ∃ k : Nat, k ≤ b.length ∧ i = .int .i64 k ∧ v = .int .i64 (val (b.take k) : Nat)) (fun _ i _ => b.length - (intOf i).toNat)
  case atStart => exact ⟨rfl, 0, by omega, rfl, rfl⟩
  case round =>
    obtain ⟨rfl, k, hk, rfl, rfl⟩ := hrel
    by_cases hlt : k < b.length
    · have hok : ok = true := by
        rcases HB.out with h | h
        · exact h
        · subst h; simp at hlt
      subst hok
      go_wp2
      go_roundw
      case rel =>
        refine ⟨trivial, k + 1, by omega, by go_num, ?_⟩
        have hv := val_lt (l := b.take k) (by rw [List.length_take]; omega)
        have hby := UInt8.toNat_lt (b[k]'hlt)
        rw [val_take hlt, show (tx b)[k] = b[k]'hlt from rfl]
        rw [wrap64_id ((val (b.take k) : Int) * 256) (by omega) (by omega), wrap64_id ((b[k]'hlt).toNat : Int) (by omega) (by omega), wrap64_id _ (by omega) (by omega)]
        congr 1
      case measure => simp [intOf]; omega
    · obtain rfl : k = b.length := by omega
      rw [List.take_of_length_le (Nat.le_refl _)]
      go_wp2
      go_ret
      exact ⟨rfl, HP1.out⟩
set_option maxHeartbeats 1000000 in
theorem ru32_rd (w : World) (s : Nat) (P : World → Prop) (b : List UInt8) (ok : Bool) (hb : b.length ≤ 4) (hok : ok = true ∨ b = [])
    (hraw : Calls Tryd.prog 71 #[.pointer (some ⟨s, 0, none⟩), .int .i64 4] w fun e w' => e = .returned (.tuple #[.string (tx b), .bool ok]) ∧ P w') :
    Calls Tryd.prog 45 #[.pointer (some ⟨s, 0, none⟩)] w fun e w' => e = .returned (.int .i64 (val b : Int)) ∧ P w' := by
  have HN := Lib.hid (rnum_rd w s P b ok hb hok hraw)
  clear hraw
  go_enter Tryd.func45, Tryd.ntmps45
  go_wp2_with fail
  refine HN.out.mono ?_
  rintro e w1 ⟨rfl, hp⟩
  have HP := Lib.hid hp
  clear hp
  go_wp2_with fail
  go_ret
  exact ⟨rfl, HP.out⟩
set_option maxHeartbeats 1000000 in
theorem rraw_ok (w : World) (s : Nat) (l : List UInt8) (k n : Nat) (at_ : Int) (h : Rr w s l k 0 at_) (hl : l.length ≤ 1000000) (hk : k + n ≤ l.length) :
    Calls Tryd.prog 46 #[.pointer (some ⟨s, 0, none⟩), .int .i64 n] w fun e w' => e = .returned (.string (tx ((l.drop k).take n))) ∧ Tch [s] w w' := by
  have HN := Lib.hid (take_ok w s l k n at_ h hl hk)
  clear h hl hk
  go_enter Tryd.func46, Tryd.ntmps46
  go_wp2_with fail
  refine HN.out.mono ?_
  rintro e w1 ⟨rfl, -, hp⟩
  have HP := Lib.hid hp
  clear hp
  go_wp2_with fail
  go_ret
  exact ⟨rfl, HP.out⟩
theorem ru32_ok (w : World) (s : Nat) (l : List UInt8) (k : Nat) (at_ : Int) (h : Rr w s l k 0 at_) (hl : l.length ≤ 1000000) (hk : k + 4 ≤ l.length) :
    Calls Tryd.prog 45 #[.pointer (some ⟨s, 0, none⟩)] w fun e w' => e = .returned (.int .i64 (val ((l.drop k).take 4) : Int)) ∧ Rr w' s l (k + 4) 0 at_ ∧ Tch [s] w w' :=
  ru32_rd w s (fun w' => Rr w' s l (k + 4) 0 at_ ∧ Tch [s] w w') _ true (by rw [List.length_take]; omega) (.inl rfl) (take_ok w s l k 4 at_ h hl hk)
theorem ru32_short (w : World) (s : Nat) (l : List UInt8) (k : Nat) (at_ : Int) (h : Rr w s l k 0 at_) (hl : l.length ≤ 1000000) (hkl : k ≤ l.length) (hk : l.length < k + 4) :
    Calls Tryd.prog 45 #[.pointer (some ⟨s, 0, none⟩)] w fun e w' => e = .returned (.int .i64 0) ∧ Rr w' s l k 1 l.length ∧ Tch [s] w w' :=
  ru32_rd w s (fun w' => Rr w' s l k 1 l.length ∧ Tch [s] w w') [] false (by simp) (.inr rfl) (take_short w s l k 4 at_ h hl hkl hk (by decide))
theorem ru32_off (w : World) (s : Nat) (l : List UInt8) (k : Nat) (at_ : Int) (h : Rr w s l k 1 at_) :
    Calls Tryd.prog 45 #[.pointer (some ⟨s, 0, none⟩)] w fun e w' => e = .returned (.int .i64 0) ∧ Rr w' s l k 1 at_ ∧ Tch [s] w w' :=
  ru32_rd w s (fun w' => Rr w' s l k 1 at_ ∧ Tch [s] w w') [] false (by simp) (.inr rfl) ((take_off w s l k 4 1 at_ (by decide) h).mono fun e w' ⟨he, hw⟩ => ⟨he, hw ▸ h, hw ▸ Tch.refl _ _⟩)
end Go.Proofs.YthpplbigmolnjaaDoor.WalW
