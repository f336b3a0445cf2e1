/- One act on a disk; what must come; whether acts are few. -/
import Derived.Test.YtapiaiobohkemaaDisk
import Derived.Test.YtapiaiobohkemaaKind
import Derived.OpenShut
set_option linter.unusedVariables false
set_option linter.unusedSimpArgs false
namespace Go.Proofs.Ytapiaiobohkemaa.DiskW
open Go.RowKit Go.Proofs.Ytapiaiobohkemaa.Tc

noncomputable def kI : Kd Try.prog 3 Int := kInt Try.underlying3 (by kernel_rfl)
noncomputable def kS : Kd Try.prog 9 ByteArray := kStr Try.underlying9 (by kernel_rfl)
/-- An act, as it is handed in: its kind, a text, how many are kept. -/
noncomputable def kAct : Kd Try.prog 81 (Int × ByteArray × Int) := kStruct Try.underlying81 rfl (fCons rfl kI (fCons rfl kS (fOne rfl kI))) (by kernel_rfl)
theorem cells81 : Try.prog.cellsOf 81 = 3 := by kernel_rfl
theorem acts_open {H : Type} {enc : TypeId × Value → H} {w : World} {base : Nat} {sp : Nat → Bool} {held : Bool} {A : Option Addr} {len cap : Nat} {d : DataW H} {ps : List MemPlace}
    (h : DataW.Trod enc Try.prog w base sp held 70 (.slice A len cap) d ps) : ∃ xs : List (Int × ByteArray × Int), xs.length = len ∧ SliceIs kAct w A xs := by
  obtain ⟨fuel, hf⟩ := h
  obtain ⟨A', c', xs, hcs, hx⟩ := slice_opens Try.underlying70 (by rw [cells81]; decide) kAct hf
  simp [Value.cells] at hcs
  obtain ⟨rfl, rfl, rfl⟩ := hcs
  exact ⟨xs, rfl, hx⟩
theorem act_cells {w : World} {A : Option Addr} {xs : List (Int × ByteArray × Int)} (h : SliceIs kAct w A xs) {k : Nat} (hk : k < xs.length) :
    ∃ b off, A = some ⟨b, off, none⟩ ∧ b < w.heap.size ∧ w.cell? ⟨b, off + k * 3, none⟩ = some (.int .i64 xs[k].1) ∧ w.cell? ⟨b, off + k * 3 + 1, none⟩ = some (.string xs[k].2.1) ∧ w.cell? ⟨b, off + k * 3 + 2, none⟩ = some (.int .i64 xs[k].2.2) ∧
      (Lit.int .i64 xs[k].2.2).wf = true := by
  obtain ⟨b, off, hA, hb, hc⟩ := h.at_ (by omega)
  obtain ⟨cs, ⟨c0, cr, rfl, ⟨h0, w0⟩, ⟨c1, c2, hcr, h1, ⟨h2, w2⟩⟩⟩, hcell⟩ := hc k xs[k] (List.getElem?_eq_getElem hk)
  subst h0
  subst hcr
  obtain ⟨rfl, hsz⟩ := h1
  subst h2
  rw [cells81] at hcell
  exact ⟨b, off, hA, hb, hcell 0 _ rfl, hcell 1 _ rfl, hcell 2 _ rfl, w2⟩

/-- What an act answers and leaves. -/
def pact (room sure : Int) (l : List UInt8) (kind : Int) (t : ByteArray) (keep : Int) : Bool × Int × List UInt8 :=
  if kind = 1 then if (t.size : Int) ≤ room - l.length then (true, sure, l ++ t.data.toList) else (false, sure, l)
  else if kind = 2 then (false, l.length, l)
  else if kind = 3 then (false, left l sure keep, l.take (left l sure keep).toNat)
  else if kind = 4 then if (t.size : Int) ≤ room then (true, t.size, t.data.toList) else (false, sure, l)
  else (false, sure, l)
structure Inv (room sure : Int) (l : List UInt8) : Prop where
  r0 : 0 ≤ room
  r1 : room ≤ 9223372036854775807
  s0 : 0 ≤ sure
  s1 : sure ≤ l.length
  len : (l.length : Int) ≤ room
theorem pact_inv {room sure : Int} {l : List UInt8} (I : Inv room sure l) (kind : Int) (t : ByteArray) (keep : Int) : Inv room (pact room sure l kind t keep).2.1 (pact room sure l kind t keep).2.2 := by
  obtain ⟨h1, h2, h3, h4, h5⟩ := I
  have hl : 0 ≤ left l sure keep ∧ left l sure keep ≤ l.length := by unfold left; omega
  unfold pact
  repeat' split
  · exact ⟨h1, h2, h3, by simp; omega, by simp; omega⟩
  · exact ⟨h1, h2, h3, h4, h5⟩
  · exact ⟨h1, h2, by simp, by simp, h5⟩
  · have e : ((l.take (left l sure keep).toNat).length : Int) = left l sure keep := by rw [List.length_take]; omega
    exact ⟨h1, h2, hl.1, by simp only; omega, by simp only; omega⟩
  · exact ⟨h1, h2, by simp, by simp, by simpa⟩
  · exact ⟨h1, h2, h3, h4, h5⟩
  · exact ⟨h1, h2, h3, h4, h5⟩
theorem pact_len (room sure : Int) (l : List UInt8) (kind : Int) (t : ByteArray) (keep : Int) : (pact room sure l kind t keep).2.2.length ≤ l.length + t.size := by
  unfold pact
  repeat' split
  all_goals simp
  all_goals omega
def DPost (w : World) (s : Nat) (room sure : Int) (l : List UInt8) (w' : World) : Prop := ∃ v', At w' s v' room sure l ∧ Tch [s] w w'

set_option maxHeartbeats 1000000 in
/-- 'do'. -/
theorem do_any (w : World) (s : Nat) (v : Value) (room sure : Int) (l : List UInt8) (h : At w s v room sure l) (I : Inv room sure l) (hl : l.length < 1000000) (kind : Int) (t : ByteArray) (ht : t.size < 1000000) (keep : Int) (hk : (Lit.int .i64 keep).wf = true) :
    Calls Try.prog 45 #[.pointer (some ⟨s, 0, none⟩), .agg #[.int .i64 kind, .string t, .int .i64 keep]] w fun e w' => e = .returned (.bool (pact room sure l kind t keep).1) ∧ DPost w s room (pact room sure l kind t keep).2.1 (pact room sure l kind t keep).2.2 w' := by
  have hT : Tch [s] w (w.alloc (.cells #[.int .i64 kind, .string t, .int .i64 keep] 81)) := (Tch.refl _ _).alloc _
  have hA : At (w.alloc (.cells #[.int .i64 kind, .string t, .int .i64 keep] 81)) s v room sure l := h.grown ((Below.refl _ _).alloc (Nat.le_refl _) _)
  have HT := Lib.hid hT
  have HA := Lib.hid hA
  have hp : ∀ x, pact room sure l kind t keep = x → pact room sure l kind t keep = x := fun _ h => h
  generalize hr : pact room sure l kind t keep = r
  unfold pact at hr
  clear h hT hA hp
  by_cases k1 : kind = 1
  · subst k1
    rw [if_pos rfl] at hr
    by_cases hn : (t.size : Int) ≤ room - l.length
    · rw [if_pos hn] at hr
      subst hr
      have HC := Lib.hid (append_yes _ s v room sure l HA.out hl I.r0 I.r1 t ht hn)
      clear hn I
      go_enter Try.func45, Try.ntmps45
      go_wp2_with fail
      refine HC.out.mono ?_
      rintro e w2 ⟨rfl, v', hA, hT⟩
      have HD := Lib.hid (show DPost w s room sure (l ++ t.data.toList) w2 from ⟨v', hA, HT.out.trans hT⟩)
      clear hA hT HC
      go_wp2_with fail
      go_ret
      exact ⟨rfl, HD.out⟩
    · rw [if_neg hn] at hr
      subst hr
      have HC := Lib.hid (append_no _ s v room sure l HA.out hl I.r0 I.r1 t hn)
      clear hn I
      go_enter Try.func45, Try.ntmps45
      go_wp2_with fail
      refine HC.out.mono ?_
      rintro e w2 ⟨rfl, n, rfl⟩
      have HD := Lib.hid (show DPost w s room sure l _ from ⟨v, HA.out.drewN n, HT.out.drewN n⟩)
      clear HC
      go_wp2_with fail
      go_ret
      exact ⟨rfl, HD.out⟩
  · rw [if_neg k1] at hr
    have e1 : (kind == 1) = false := by simpa using k1
    by_cases k2 : kind = 2
    · subst k2
      rw [if_pos rfl] at hr
      subst hr
      have HC := Lib.hid (sync_any _ s v room sure l HA.out)
      clear k1 I
      go_enter Try.func45, Try.ntmps45
      go_wp2_with fail
      refine HC.out.mono ?_
      rintro e w2 ⟨rfl, hA, hT⟩
      have HD := Lib.hid (show DPost w s room l.length l w2 from ⟨v, hA, HT.out.trans hT⟩)
      clear hA hT HC
      go_wp2_with fail
      go_ret
      exact ⟨rfl, HD.out⟩
    · rw [if_neg k2] at hr
      have e2 : (kind == 2) = false := by simpa using k2
      by_cases k3 : kind = 3
      · subst k3
        rw [if_pos rfl] at hr
        subst hr
        have HC := Lib.hid (crash_any _ s v room sure l HA.out hl I.s0 I.s1 keep hk)
        clear k1 k2 I
        go_enter Try.func45, Try.ntmps45
        go_wp2_with fail
        refine HC.out.mono ?_
        rintro e w2 ⟨rfl, v', hA, hT⟩
        have HD := Lib.hid (show DPost w s room (left l sure keep) (l.take (left l sure keep).toNat) w2 from ⟨v', hA, HT.out.trans hT⟩)
        clear hA hT HC
        go_wp2_with fail
        go_ret
        exact ⟨rfl, HD.out⟩
      · rw [if_neg k3] at hr
        have e3 : (kind == 3) = false := by simpa using k3
        by_cases k4 : kind = 4
        · subst k4
          rw [if_pos rfl] at hr
          by_cases hn : (t.size : Int) ≤ room
          · rw [if_pos hn] at hr
            subst hr
            have HC := Lib.hid (swap_yes _ s v room sure l HA.out t ht hn)
            clear k1 k2 k3 hn I
            go_enter Try.func45, Try.ntmps45
            go_wp2_with fail
            refine HC.out.mono ?_
            rintro e w2 ⟨rfl, v', hA, hT⟩
            have HD := Lib.hid (show DPost w s room t.size t.data.toList w2 from ⟨v', hA, HT.out.trans hT⟩)
            clear hA hT HC
            go_wp2_with fail
            go_ret
            exact ⟨rfl, HD.out⟩
          · rw [if_neg hn] at hr
            subst hr
            have HC := Lib.hid (swap_no _ s v room sure l HA.out t hn)
            clear k1 k2 k3 hn I
            go_enter Try.func45, Try.ntmps45
            go_wp2_with fail
            refine HC.out.mono ?_
            rintro e w2 ⟨rfl, rfl⟩
            have HD := Lib.hid (show DPost w s room sure l _ from ⟨v, HA.out, HT.out⟩)
            clear HC
            go_wp2_with fail
            go_ret
            exact ⟨rfl, HD.out⟩
        · rw [if_neg k4] at hr
          subst hr
          have e4 : (kind == 4) = false := by simpa using k4
          have HD := Lib.hid (show DPost w s room sure l _ from ⟨v, HA.out, HT.out⟩)
          clear k1 k2 k3 k4 I
          go_enter Try.func45, Try.ntmps45
          go_wp2_with fail
          go_ret
          exact ⟨rfl, HD.out⟩
/-- Are the acts few, of few bytes? -/
def Few (acts : List (Int × ByteArray × Int)) : Prop := acts.length ≤ 40 ∧ ∀ k (h : k < acts.length), acts[k].2.1.size ≤ 100
def FewPost (acts : List (Int × ByteArray × Int)) (e : Ending) : Prop := ∃ b, e = .returned (.bool b) ∧ (b = true → Few acts)
theorem FewPost.of {acts : List (Int × ByteArray × Int)} {b : Bool} (h : b = true → Few acts) : FewPost acts (.returned (.bool b)) := ⟨b, rfl, h⟩
set_option maxHeartbeats 1000000 in
theorem few_any (w : World) (A : Option Addr) (cap : Nat) (acts : List (Int × ByteArray × Int)) (hS : SliceIs kAct w A acts) :
    Calls Try.prog 42 #[.slice A acts.length cap] w fun e w' => FewPost acts e ∧ w = w' := by
  have hlen := hS.len
  unfold maxLen at hlen
  have HS := Lib.hid hS
  clear hS
  go_enter Try.func42, Try.ntmps42
  go_wp2
  go_loop [3] (fun x => ∃ k : Nat, k ≤ acts.length ∧ k ≤ 40 ∧ (∀ j (h : j < acts.length), j < k → acts[j].2.1.size ≤ 100) ∧ x = .int .i64 k) (fun x => acts.length - (intOf x).toNat)
  case atStart => exact ⟨0, by omega, by omega, by intro j _ h; omega, rfl⟩
  case round =>
    obtain ⟨k, hk, hk40, hn, rfl⟩ := hrel
    have HN := Lib.hid hn
    clear hn
    by_cases hlt : k < acts.length
    · by_cases h40 : k < 40
      · obtain ⟨b, off, rfl, hbl, c0, c1, c2, -⟩ := act_cells HS.out hlt
        clear c0 c2
        by_cases hs : acts[k].2.1.size ≤ 100
        · go_wp2
          go_round
          case rel =>
            refine ⟨k + 1, by omega, by omega, ?_, by go_num⟩
            intro j hj hjk
            by_cases e : j = k
            · subst e; exact hs
            · exact HN.out j hj (by omega)
          case measure => simp [intOf]; omega
        · go_wp2
          go_ret
          exact ⟨FewPost.of (b := false) (fun h => absurd h (by decide)), rfl⟩
      · have h41 : ¬ acts.length ≤ 40 := by omega
        go_wp2
        go_ret
        exact ⟨FewPost.of (b := decide ((acts.length : Int) ≤ 40)) (fun h => absurd (of_decide_eq_true h) (by omega)), rfl⟩
    · obtain rfl : k = acts.length := by omega
      go_wp2
      go_ret
      exact ⟨FewPost.of (b := decide ((acts.length : Int) ≤ 40)) (fun _ => ⟨hk40, fun j hj => HN.out j hj hj⟩), rfl⟩

/-- What must come. -/
theorem pawake_any (w : World) : Calls Try.prog 43 #[] w fun e w' => e = .returned (.bool true) ∧ Below w.heap.size w w' := by
  go_enter Try.func43, Try.ntmps43
  go_wp2_with fail
  refine (new_any _ 5).mono ?_
  rintro e w1 ⟨rfl, h1, t1⟩
  rw [show max (5 : Int) 0 = 5 by decide] at h1
  have a1 := Tch.of_below (S := [w.heap.size]) t1
  go_wp2_with fail
  refine (append_yes _ _ _ 5 0 [] h1 (by decide) (by decide) (by decide) ⟨#[97, 98]⟩ (by decide) (by decide)).mono ?_
  rintro e w2 ⟨rfl, v2, h2, t2⟩
  have h2' : At w2 w.heap.size v2 5 0 [97, 98] := h2
  have a2 := a1.trans t2
  clear h1 t1 a1 h2 t2
  go_wp2_with fail
  refine (sync_any _ _ _ 5 0 _ h2').mono ?_
  rintro e w3 ⟨rfl, h3, t3⟩
  have h3' : At w3 w.heap.size v2 5 2 [97, 98] := h3
  have a3 := a2.trans t3
  clear h2' a2 h3 t3
  go_wp2_with fail
  refine (append_yes _ _ _ 5 2 _ h3' (by decide) (by decide) (by decide) ⟨#[99, 100]⟩ (by decide) (by decide)).mono ?_
  rintro e w4 ⟨rfl, v4, h4, t4⟩
  have h4' : At w4 w.heap.size v4 5 2 [97, 98, 99, 100] := h4
  have a4 := a3.trans t4
  clear h3' a3 h4 t4
  go_wp2_with fail
  refine (append_no _ _ _ 5 2 _ h4' (by decide) (by decide) (by decide) ⟨#[101, 102]⟩ (by decide)).mono ?_
  rintro e w5 ⟨rfl, n, rfl⟩
  have h5 := h4'.drewN n
  have a5 := a4.drewN n
  clear h4' a4
  go_wp2_with fail
  refine (crash_any _ _ _ 5 2 _ h5 (by decide) (by decide) (by decide) 1 (by decide)).mono ?_
  rintro e w6 ⟨rfl, v6, h6, t6⟩
  have h6' : At w6 w.heap.size v6 5 3 [97, 98, 99] := h6
  have a6 := a5.trans t6
  clear h5 a5 h6 t6
  go_wp2_with fail
  refine (bytes_any _ _ _ 5 3 _ h6').mono ?_
  rintro e w7 ⟨rfl, rfl⟩
  go_wp2_with fail
  refine (sure_any _ _ _ 5 3 _ h6').mono ?_
  rintro e w7 ⟨rfl, rfl⟩
  go_wp2_with fail
  refine (room_any _ _ _ 5 3 _ h6' (by decide) (by decide) (by decide)).mono ?_
  rintro e w7 ⟨rfl, m, rfl⟩
  have a7 := a6.drewN m
  go_wp2_with fail
  go_ret
  exact ⟨rfl, a7.below (Nat.le_refl _) (by simp)⟩
end Go.Proofs.Ytapiaiobohkemaa.DiskW
