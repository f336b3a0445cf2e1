/- Who gets a message: the functions of pick, and of its reference, that pickBy. -/
import Derived.Test.YtclhgnlhejohgaaPickW
import Derived.Deep.Cut
import Derived.Shelf.Abstract
import Derived.Deep.CutBlock
import Derived.Deep.DeepCutAuto
set_option linter.unusedVariables false
set_option linter.unusedSimpArgs false
namespace Go.Proofs.Ytclhgnlhejohgaa.PickW
open Go.RowKit Go.Proofs.Ytclhgnlhejohgaa.Tc Go.Proofs.Ytclhgnlhejohgaa.PickP

theorem mod_facts {f k n : Nat} (h : 0 < n) : ∃ m : Nat, m = (f + k) % n ∧ m < n ∧ ((f : Int) + (k : Int)) % (n : Int) = (m : Int) ∧ ((f : Int) + (k : Int)).tmod (n : Int) = (m : Int) := by
  have e : ((f : Int) + (k : Int)) % (n : Int) = (((f + k) % n : Nat) : Int) := by rw [Int.natCast_emod, Int.natCast_add]
  refine ⟨(f + k) % n, rfl, Nat.mod_lt _ h, e, ?_⟩
  rw [Int.tmod_eq_emod_of_nonneg (by omega)]
  exact e
set_option maxHeartbeats 1000000 in
theorem robin_any (w : World) (A B : Option Addr) (ca cb : Nat) (all free : List ByteArray) (last : ByteArray) (hA : SliceIs kS w A all) (hB : SliceIs kS w B free) (hl : all.length ≤ 1000000) :
    Calls Try.prog 23 #[.slice A all.length ca, .slice B free.length cb, .string last] w fun e w' => e = .returned (.string (robin all free last)) ∧ w = w' := by
  have HI := Lib.hid (index_any w A ca all hA last)
  have hf := idx_from all last
  have hfl := from_le all last
  have HC := Lib.hid (contains_any w B cb free hB)
  have HA := Lib.hid hA
  have hR := fun k => @robin_at all free last k
  have hE := @robin_end all free last
  clear hA hB
  generalize from_ all last = f at hf hfl hR hE
  have hi : idx all last = (f : Int) - 1 := by omega
  rw [hi] at HI
  have HR := Lib.hid hR
  have HE := Lib.hid hE
  clear hf hi hR hE
  go_enter Try.func23, Try.ntmps23
  go_wp2_with fail
  refine HI.out.mono ?_
  rintro e w' ⟨rfl, rfl⟩
  go_wp2_with fail
  go_loop [16] (fun x => ∃ k : Nat, k ≤ all.length ∧ (∀ j, j < k → has free (all.getD ((f + j) % all.length) ByteArray.empty) = false) ∧ x = .int .i64 k) (fun x => all.length - (intOf x).toNat)
  case atStart => exact ⟨0, by omega, by intro j h; omega, rfl⟩
  case round =>
    obtain ⟨k, hk, hn, rfl⟩ := hrel
    have HN := Lib.hid hn
    clear hn
    by_cases hlt : k < all.length
    · obtain ⟨m, hm, hml, hm1, hm2⟩ := mod_facts (f := f) (k := k) (n := all.length) (by omega)
      obtain ⟨b, off, rfl, c0, -⟩ := str_cell HA.out hml
      have HM := Lib.hid hm
      clear hm
      generalize hz : all.getD m ByteArray.empty = z at c0
      have HZ := Lib.hid hz
      have HCC := Lib.hid (HC.out z)
      clear hz
      have hne : ¬ (all.length : Int) = 0 := by omega
      cases hb : has free z with
      | true =>
        rw [hb] at HCC
        have HB := Lib.hid hb
        clear hb
        go_wp2_with fail
        refine HCC.out.mono ?_
        rintro e w' ⟨rfl, rfl⟩
        go_wp2_with fail
        go_ret
        refine ⟨?_, rfl⟩
        rw [HR.out _ hlt HN.out (by rw [← HM.out, HZ.out]; exact HB.out), ← HM.out, HZ.out]
        rfl
      | false =>
        rw [hb] at HCC
        have HB := Lib.hid hb
        clear hb
        go_wp2_with fail
        refine HCC.out.mono ?_
        rintro e w' ⟨rfl, rfl⟩
        go_wp2_with fail
        go_round
        case rel =>
          refine ⟨k + 1, by omega, ?_, by go_num⟩
          intro j hj
          by_cases e : j = k
          · subst e; rw [← HM.out, HZ.out]; exact HB.out
          · exact HN.out j (by omega)
        case measure => simp [intOf]; omega
    · obtain rfl : k = all.length := by omega
      go_wp2
      go_ret
      exact ⟨by rw [HE.out HN.out]; rfl, rfl⟩
set_option maxHeartbeats 1000000 in
theorem rrobin_any (w : World) (A B : Option Addr) (ca cb : Nat) (all free : List ByteArray) (last : ByteArray) (hA : SliceIs kS w A all) (hB : SliceIs kS w B free) (hl : all.length ≤ 1000000) :
    Calls Try.prog 24 #[.slice A all.length ca, .slice B free.length cb, .string last] w fun e w' => e = .returned (.string (robin all free last)) ∧ w = w' := by
  have hfl := from_le all last
  have HC := Lib.hid (in_any w B cb free hB)
  have HA := Lib.hid hA
  have HFS := Lib.hid (fun k => @from_some all last k)
  have HFN := Lib.hid (@from_none all last)
  have HR := Lib.hid (fun k => @robin_at all free last k)
  have HE := Lib.hid (@robin_end all free last)
  clear hA hB
  go_enter Try.func24, Try.ntmps24
  go_upto_block 0 with (fail)
  go_cut [7] (fun x wx => x = .int .i64 (from_ all last) ∧ wx = w)
  case first =>
    go_wp2
    go_loop [7, 8] (fun y x => ∃ k : Nat, k ≤ all.length ∧ (∀ j, j < k → all.getD j ByteArray.empty ≠ last) ∧ y = .int .i64 0 ∧ x = .int .i64 k) (fun _ x => all.length - (intOf x).toNat)
    case atStart => exact ⟨0, by omega, by intro j h; omega, rfl, rfl⟩
    case round =>
      obtain ⟨k, hk, hn, rfl, rfl⟩ := hrel
      have HN := Lib.hid hn
      clear hn
      by_cases hlt : k < all.length
      · obtain ⟨b, off, rfl, c0, -⟩ := str_cell HA.out hlt
        generalize hz : all.getD k ByteArray.empty = z at c0
        have HZ := Lib.hid hz
        clear hz
        by_cases hs : z = last
        · have hfr : (from_ all last : Int) = (k : Int) + 1 := by
            rw [HFS.out _ hlt (HZ.out.trans hs) HN.out]; rfl
          have HFR := Lib.hid hfr
          clear hfr
          subst hs
          go_wp2
          go_meet
          exact ⟨by rw [HFR.out], rfl⟩
        · have hsb := str_ne hs
          go_wp2
          go_round
          case rel =>
            refine ⟨k + 1, by omega, ?_, rfl, by go_num⟩
            intro j hj
            by_cases e : j = k
            · subst e; rw [HZ.out]; exact hs
            · exact HN.out j (by omega)
          case measure => simp [intOf]; omega
      · obtain rfl : k = all.length := by omega
        go_wp2
        go_meet
        exact ⟨by rw [HFN.out HN.out]; rfl, rfl⟩
  case rest =>
    obtain ⟨rfl, rfl⟩ := hcut
    clear HFS HFN
    generalize from_ all last = f at *
    go_wp2
    go_loop [9] (fun x => ∃ k : Nat, k ≤ all.length ∧ (∀ j, j < k → has free (all.getD ((f + j) % all.length) ByteArray.empty) = false) ∧ x = .int .i64 k) (fun x => all.length - (intOf x).toNat)
    case atStart => exact ⟨0, by omega, by intro j h; omega, rfl⟩
    case round =>
      obtain ⟨k, hk, hn, rfl⟩ := hrel
      have HN := Lib.hid hn
      clear hn
      by_cases hlt : k < all.length
      · obtain ⟨m, hm, hml, hm1, hm2⟩ := mod_facts (f := f) (k := k) (n := all.length) (by omega)
        obtain ⟨b, off, rfl, c0, -⟩ := str_cell HA.out hml
        have HM := Lib.hid hm
        clear hm
        generalize hz : all.getD m ByteArray.empty = z at c0
        have HZ := Lib.hid hz
        have HCC := Lib.hid (HC.out z)
        clear hz
        have hne : ¬ (all.length : Int) = 0 := by omega
        cases hb : has free z with
        | true =>
          rw [hb] at HCC
          have HB := Lib.hid hb
          clear hb
          go_wp2_with fail
          refine HCC.out.mono ?_
          rintro e w' ⟨rfl, rfl⟩
          go_wp2_with fail
          go_ret
          refine ⟨?_, rfl⟩
          rw [HR.out _ hlt HN.out (by rw [← HM.out, HZ.out]; exact HB.out), ← HM.out, HZ.out]
          rfl
        | false =>
          rw [hb] at HCC
          have HB := Lib.hid hb
          clear hb
          go_wp2_with fail
          refine HCC.out.mono ?_
          rintro e w' ⟨rfl, rfl⟩
          go_wp2_with fail
          go_round
          case rel =>
            refine ⟨k + 1, by omega, ?_, by go_num⟩
            intro j hj
            by_cases e : j = k
            · subst e; rw [← HM.out, HZ.out]; exact HB.out
            · exact HN.out j (by omega)
          case measure => simp [intOf]; omega
      · obtain rfl : k = all.length := by omega
        go_wp2
        go_ret
        exact ⟨by rw [HE.out HN.out]; rfl, rfl⟩

/-! ### the first of the least -/
/-- What is held behind k rounds. -/
def st (l : List ByteArray) (f : Nat → Int) (k : Nat) : ByteArray × Int := match bestI f k with | some y => (l.getD y.1 ByteArray.empty, y.2) | none => (ByteArray.empty, 0)
theorem st_zero (l : List ByteArray) (f : Nat → Int) : st l f 0 = (ByteArray.empty, 0) := rfl
theorem st_one (l : List ByteArray) (f : Nat → Int) : st l f 1 = (l.getD 0 ByteArray.empty, f 0) := rfl
theorem st_succ (l : List ByteArray) (f : Nat → Int) {k : Nat} (h : 0 < k) : st l f (k + 1) = if f k < (st l f k).2 then (l.getD k ByteArray.empty, f k) else st l f k := by
  obtain ⟨y, hy, _, _⟩ := bestI_some f h
  unfold st
  rw [bestI_succ, hy]
  simp only [lesser]
  by_cases hlt : f k < y.2
  · rw [if_pos hlt, if_pos hlt]
  · rw [if_neg hlt, if_neg hlt]
theorem st_end (l : List ByteArray) (f : Nat → Int) : (st l f l.length).1 = pickBy l f := by
  unfold st pickBy
  cases bestI f l.length <;> rfl
set_option maxRecDepth 100000 in
set_option maxHeartbeats 2000000 in
/-- 'first' of whatever numbers, given by whatever function makes memory at most. -/
theorem first_any (F : FuncId) (p q : Value) (w : World) (A : Option Addr) (cap : Nat) (l : List ByteArray) (f : Nat → Int) (J : World → Prop) (hF : ∀ args w, (callFunc F args).run Try.prog w = .ok (.enter F args) w) (hS : SliceIs kS w A l) (hJ : J w)
    (hmono : ∀ w1 w2, J w1 → Below w1.heap.size w1 w2 → J w2)
    (hcall : ∀ w' (k : Nat), J w' → k < l.length → Calls Try.prog F #[.int .i64 k, p, q] w' fun e w'' => e = .returned (.int .i64 (f k)) ∧ Below w'.heap.size w' w'') :
    Calls Try.prog 77 #[.slice A l.length cap, .func (.func F) #[] #[p, q]] w fun e w' => e = .returned (.string (pickBy l f)) ∧ Below w.heap.size w w' := by
  have hlen := hS.len
  unfold maxLen at hlen
  have HS := Lib.hid hS
  have HJ := Lib.hid hJ
  have HM := Lib.hid hmono
  have HC := Lib.hid hcall
  clear hS hJ hmono hcall
  go_enter Try.func77, Try.ntmps77
  go_wp2
  go_loopw [5, 6, 12] (fun b m x wr => ∃ k : Nat, k ≤ l.length ∧ b = .string (st l f k).1 ∧ m = .int .i64 (st l f k).2 ∧ x = .int .i64 k ∧ J wr ∧ Below w.heap.size w wr) (fun _ _ x _ => l.length - (intOf x).toNat)
  case atStart => exact ⟨0, by omega, rfl, rfl, rfl, HJ.out, Below.refl _ _⟩
  case round =>
    obtain ⟨k, hk, rfl, rfl, rfl, hJr, hB⟩ := hrel
    by_cases hlt : k < l.length
    · obtain ⟨b, off, rfl, c0, -⟩ := str_cell (HS.out.below hB) hlt
      have HCC := Lib.hid (HC.out wr k hJr hlt)
      have HB := Lib.hid hB
      have HJR := Lib.hid hJr
      have hst := st_succ l f (k := k)
      have HST := Lib.hid hst
      generalize hz : l.getD k ByteArray.empty = z at c0
      have HZ := Lib.hid hz
      clear hz hB hJr hst
      have hpost : ∀ w'', Below wr.heap.size wr w'' → J w'' ∧ Below w.heap.size w w'' := fun w'' h => ⟨HM.out _ _ HJR.out h, then_below HB.out h⟩
      have HP := Lib.hid hpost
      clear hpost
      by_cases k0 : k = 0
      · have kb : ((k : Int) == 0) = true := by simp [k0]
        have HS1 : Hid (st l f (k + 1) = (z, f k)) := by rw [k0]; rw [k0] at HZ; rw [st_one, HZ.out]; exact rfl
        clear k0
        go_wp2_with fail
        refine HCC.out.mono ?_
        rintro e w2 ⟨rfl, hb⟩
        have HP2 := Lib.hid (HP.out w2 hb)
        clear hb
        go_wp2_with fail
        go_roundw
        case rel => exact ⟨k + 1, by omega, by rw [HS1.out], by rw [HS1.out], by go_num, HP2.out⟩
        case measure => simp [intOf]; omega
      · have kb : ((k : Int) == 0) = false := by simpa using k0
        by_cases hless : f k < (st l f k).2
        · have HS1 := Lib.hid ((HST.out (by omega)).trans (if_pos hless))
          generalize st l f k = s0 at hless
          generalize f k = fk at *
          go_wp2_with fail
          refine HCC.out.mono ?_
          rintro e w2 ⟨rfl, hb⟩
          have HP2 := Lib.hid (HP.out w2 hb)
          clear hb
          go_wp2_with fail
          go_roundw
          case rel => exact ⟨k + 1, by omega, by rw [HS1.out, HZ.out], by rw [HS1.out], by go_num, HP2.out⟩
          case measure => simp [intOf]; omega
        · have HS1 := Lib.hid ((HST.out (by omega)).trans (if_neg hless))
          generalize st l f k = s0 at *
          generalize f k = fk at *
          go_wp2_with fail
          refine HCC.out.mono ?_
          rintro e w2 ⟨rfl, hb⟩
          have HP2 := Lib.hid (HP.out w2 hb)
          clear hb
          go_wp2_with fail
          go_roundw
          case rel => exact ⟨k + 1, by omega, by rw [HS1.out], by rw [HS1.out], by go_num, HP2.out⟩
          case measure => simp [intOf]; omega
    · obtain rfl : k = l.length := by omega
      have HB := Lib.hid hB
      have HE := Lib.hid (st_end l f)
      clear hB hJr
      go_wp2
      go_ret
      exact ⟨by rw [HE.out]; rfl, HB.out⟩
end Go.Proofs.Ytclhgnlhejohgaa.PickW
