/- What the numbers of packets' functions come to, over the program. -/
import Derived.Test.YtapiaiobohkemaaProg
import Derived.WalkKit
import Derived.KernelRfl
import Derived.Deep.LoopGhost
import Derived.Deep.QuietTactic
import Derived.BigQuiet
import Derived.Lib.Hide
import Derived.Deep.RegionWith
import Derived.StillTailTactics
import Derived.Test.YtapiaiobohkemaaMap
import Derived.Test.YtapiaiobohkemaaFrame
import Derived.Test.YtapiaiobohkemaaPidsPure
set_option linter.unusedVariables false
set_option linter.unusedSimpArgs false
namespace Go.Proofs.Ytapiaiobohkemaa.PidsW
open Go.RowKit Go.Proofs.Ytapiaiobohkemaa.Tc PidsPure

noncomputable def T : KeyT Try.prog 3 Int := intKey Try.underlying3
def ent (L : List Int) : List (Int × Value) := L.map fun i => (i, .bool true)
theorem hasL_ent (L : List Int) (i : Int) : hasL (ent L) i = decide (i ∈ L) := by
  induction L with
  | nil => simp [hasL, ent]
  | cons a l ih =>
    have : hasL (ent (a :: l)) i = (decide (a = i) || hasL (ent l) i) := by simp [hasL, ent]
    rw [this, ih]
    by_cases h : a = i
    · simp [h]
    · have h' : ¬ i = a := fun e => h e.symm
      simp [h, h']
theorem getL_ent (L : List Int) (i : Int) : (getL (ent L) i).getD (.bool false) = .bool (decide (i ∈ L)) := by
  have h := getL_isSome (ent L) i
  rw [hasL_ent] at h
  cases hg : getL (ent L) i with
  | none =>
    rw [hg] at h
    rw [← h]
    rfl
  | some v =>
    rw [hg] at h
    have := getL_mem hg
    unfold ent at this
    obtain ⟨a, _, ha⟩ := List.mem_map.1 this
    injection ha with _ ha
    rw [← h, ← ha]
    rfl
theorem put_ent {L : List Int} {i : Int} (h : i ∉ L) : putL (ent L) i (.bool true) = ent (L ++ [i]) := by
  unfold putL
  rw [hasL_ent, decide_eq_false h]
  simp [ent]
theorem del_ent (L : List Int) (i : Int) : delL (ent L) i = ent (L.filter fun j => !decide (j = i)) := by
  unfold delL ent
  rw [List.filter_map]
  rfl
theorem zero4 (w : World) : (zeroValue 4).run Try.prog w = .ok (.bool false) w := by kernel_rfl

/-- A pids.Pids: its struct's block, its map's. -/
structure At (w : World) (s m : Nat) (most last : Int) (L : List Int) : Prop where
  st : w.heap[s]? = some (.cells #[.int .i64 most, .int .i64 last, .map (some m)] 38 (0, 0))
  mp : MapIs T w m (ent L)
theorem At.ne {w : World} {s m : Nat} {most last : Int} {L : List Int} (h : At w s m most last L) : s ≠ m := by
  obtain ⟨es, k, hb⟩ := h.mp.block
  exact map_ne h.st hb

theorem len_any (w : World) (s m : Nat) (most last : Int) (L : List Int) (h : At w s m most last L) :
    Calls Try.prog 27 #[.pointer (some ⟨s, 0, none⟩)] w fun e w' => e = .returned (.int .i64 L.length) ∧ w = w' := by
  have c2 := cell_of h.st (o := 2) rfl
  have hl := h.mp.len Try.underlying36 3
  have e1 : (ent L).length = L.length := by simp [ent]
  rw [e1] at hl
  clear e1 h
  go_enter Try.func27, Try.ntmps27
  go_wp2
  go_ret
  exact ⟨rfl, rfl⟩
theorem is_any (w : World) (s m : Nat) (most last : Int) (L : List Int) (h : At w s m most last L) (i : Int) (hi : (Lit.int .i64 i).wf = true) :
    Calls Try.prog 28 #[.pointer (some ⟨s, 0, none⟩), .int .i64 i] w fun e w' => e = .returned (.bool (decide (i ∈ L))) ∧ w = w' := by
  have c2 := cell_of h.st (o := 2) rfl
  have hl := h.mp.look Try.underlying36 (zero4 w) i hi
  rw [getL_ent] at hl
  have hl' : (Instr.lookup 36 (.map (some m)) (.int .i64 i) false).run Try.prog w = .ok (.bool (decide (i ∈ L))) w := hl
  clear hl hi h
  go_enter Try.func28, Try.ntmps28
  go_wp2
  go_ret
  exact ⟨rfl, rfl⟩
theorem is_nil (w : World) (i : Int) :
    Calls Try.prog 28 #[.pointer none, .int .i64 i] w fun e w' => e = .returned (.bool false) ∧ w = w' := by
  go_enter Try.func28, Try.ntmps28
  go_wp2
  go_ret
  exact ⟨rfl, rfl⟩

def useB (most : Int) (L : List Int) (i : Int) : Bool := decide (1 ≤ i) && decide (i ≤ most) && !decide (i ∈ L)
theorem use_no (w : World) (s m : Nat) (most last : Int) (L : List Int) (h : At w s m most last L) (i : Int) (hi : (Lit.int .i64 i).wf = true) (hu : ¬ (1 ≤ i ∧ i ≤ most ∧ i ∉ L)) :
    Calls Try.prog 54 #[.pointer (some ⟨s, 0, none⟩), .int .i64 i] w fun e w' => e = .returned (.bool false) ∧ w = w' := by
  have c0 := cell_of h.st (o := 0) rfl
  have c2 := cell_of h.st (o := 2) rfl
  have hl := h.mp.look Try.underlying36 (zero4 w) i hi
  rw [getL_ent] at hl
  have hl' : (Instr.lookup 36 (.map (some m)) (.int .i64 i) false).run Try.prog w = .ok (.bool (decide (i ∈ L))) w := hl
  clear hl hi h
  by_cases h1 : 1 ≤ i
  · by_cases h2 : i ≤ most
    · have h3 : decide (i ∈ L) = true := by
        by_cases h3 : i ∈ L
        · simpa using h3
        · exact absurd ⟨h1, h2, h3⟩ hu
      rw [h3] at hl'
      clear hu h3
      go_enter Try.func54, Try.ntmps54
      go_wp2
      go_ret
      exact ⟨rfl, rfl⟩
    · clear hu hl'
      go_enter Try.func54, Try.ntmps54
      go_wp2
      go_ret
      exact ⟨rfl, rfl⟩
  · clear hu hl'
    go_enter Try.func54, Try.ntmps54
    go_wp2
    go_ret
    exact ⟨rfl, rfl⟩
theorem use_yes (w : World) (s m : Nat) (most last : Int) (L : List Int) (h : At w s m most last L) (hlen : L.length < maxLen) (i : Int) (hi : (Lit.int .i64 i).wf = true) (h1 : 1 ≤ i) (h2 : i ≤ most) (h3 : i ∉ L) :
    Calls Try.prog 54 #[.pointer (some ⟨s, 0, none⟩), .int .i64 i] w fun e w' => e = .returned (.bool true) ∧ At w' s m most last (L ++ [i]) ∧ Tch [m] w w' := by
  have c0 := cell_of h.st (o := 0) rfl
  have c2 := cell_of h.st (o := 2) rfl
  have hl := h.mp.look Try.underlying36 (zero4 w) i hi
  rw [getL_ent] at hl
  have hl' : (Instr.lookup 36 (.map (some m)) (.int .i64 i) false).run Try.prog w = .ok (.bool false) w := by rw [decide_eq_false h3] at hl; exact hl
  obtain ⟨w1, hrun, hm1, hg1, hs1⟩ := h.mp.store Try.underlying36 (by simpa [ent] using hlen) i hi (.bool true)
  rw [put_ent h3] at hm1
  have hrun' : (Instr.mapUpdate 36 (.map (some m)) (.int .i64 i) (.bool true)).run Try.prog w = .ok () w1 := hrun
  have hst := (hg1.block s (lt_of_block h.st) (by have := h.ne; simpa using this)).trans h.st
  have HF := Lib.hid (And.intro (At.mk hst hm1) (Tch.grownBy hg1))
  clear hl hrun hst hm1 hg1 hs1 h3 hlen h
  go_enter Try.func54, Try.ntmps54
  go_wp2
  go_ret
  exact ⟨rfl, HF.out⟩

theorem free_yes (w : World) (s m : Nat) (most last : Int) (L : List Int) (h : At w s m most last L) (i : Int) (hi : (Lit.int .i64 i).wf = true) (h1 : i ∈ L) :
    Calls Try.prog 31 #[.pointer (some ⟨s, 0, none⟩), .int .i64 i] w fun e w' => e = .returned (.bool true) ∧ At w' s m most last (L.filter fun j => !decide (j = i)) ∧ Tch [m] w w' := by
  have c2 := cell_of h.st (o := 2) rfl
  obtain ⟨w1, hrun, hm1, hg1, hs1⟩ := h.mp.drop Try.underlying36 i hi 0
  rw [del_ent] at hm1
  have hrun' : (Builtin.delete_ #[36, 3] 0 #[.map (some m), .int .i64 i]).run Try.prog w = .ok (.tuple #[]) w1 := hrun
  have hst := (hg1.block s (lt_of_block h.st) (by have := h.ne; simpa using this)).trans h.st
  have HF := Lib.hid (And.intro (At.mk hst hm1) (Tch.grownBy hg1))
  have hc := is_any w s m most last L h i hi
  rw [decide_eq_true h1] at hc
  clear hrun hst hm1 hg1 hs1 h1
  have HC := Lib.hid hc
  clear hc
  go_enter Try.func31, Try.ntmps31
  go_wp2_with (go_at_call 28; refine (HC.out).mono ?_; rintro e w' ⟨rfl, rfl⟩)
  go_ret
  exact ⟨rfl, HF.out⟩
theorem free_no (w : World) (s m : Nat) (most last : Int) (L : List Int) (h : At w s m most last L) (i : Int) (hi : (Lit.int .i64 i).wf = true) (h1 : i ∉ L) :
    Calls Try.prog 31 #[.pointer (some ⟨s, 0, none⟩), .int .i64 i] w fun e w' => e = .returned (.bool false) ∧ w = w' := by
  have hc := is_any w s m most last L h i hi
  rw [decide_eq_false h1] at hc
  clear h1
  have HC := Lib.hid hc
  clear hc
  go_enter Try.func31, Try.ntmps31
  go_wp2_with (go_at_call 28; refine (HC.out).mono ?_; rintro e w' ⟨rfl, rfl⟩)
  go_ret
  exact ⟨rfl, rfl⟩

theorem at_new (w : World) (n : Int) : At ((w.alloc (.map #[] 0)).alloc (.cells #[.int .i64 n, .int .i64 0, .map (some w.heap.size)] 38)) (w.heap.size + 1) w.heap.size n 0 [] := by
  refine ⟨?_, ?_⟩
  · have := (MapKept.heap_alloc (w.alloc (.map #[] 0)) (.cells #[.int .i64 n, .int .i64 0, .map (some w.heap.size)] 38)).1
    simpa using this
  · refine (MapIs.made T w).of_block (Below.heap_alloc _ _ _ (by simp))
theorem new_any (w : World) (n : Int) (h1 : (Lit.int .i64 n).wf = true) :
    Calls Try.prog 21 #[.int .i64 n] w fun e w' => e = .returned (.pointer (some ⟨w.heap.size + 1, 0, none⟩)) ∧ At w' (w.heap.size + 1) w.heap.size (max 0 (min n 65535)) 0 [] ∧ Below w.heap.size w w' := by
  have hmm := @run_makeMap Try.prog
  have hb := fun k : Int => (((Below.refl w.heap.size w).alloc (Nat.le_refl _) (.map #[] 0)).alloc (by simp) (.cells #[.int .i64 k, .int .i64 0, .map (some w.heap.size)] 38))
  have HB := Lib.hid hb
  clear hb
  by_cases h65 : n ≤ 65535
  · by_cases h0 : 0 < n
    · rw [show max 0 (min n 65535) = n by omega]
      go_enter Try.func21, Try.ntmps21
      go_wp2
      go_ret
      exact ⟨rfl, at_new _ _, HB.out _⟩
    · rw [show max 0 (min n 65535) = 0 by omega]
      go_enter Try.func21, Try.ntmps21
      go_wp2
      go_ret
      exact ⟨rfl, at_new _ _, HB.out _⟩
  · rw [show max 0 (min n 65535) = 65535 by omega]
    go_enter Try.func21, Try.ntmps21
    go_wp2
    go_ret
    exact ⟨rfl, at_new _ _, HB.out _⟩

theorem At.set {w : World} {s m : Nat} {most last : Int} {L : List Int} (h : At w s m most last L) (c : Int) : At (w.setCell ⟨s, 1, none⟩ (.int .i64 c)) s m most c L :=
  ⟨by have := set_of h.st 1 (.int .i64 c); simpa using this, h.mp.of_block (set_other h.ne.symm _)⟩
theorem At.drewN {w : World} {s m : Nat} {most last : Int} {L : List Int} (h : At w s m most last L) (n : Nat) : At (w.drewN n) s m most last L :=
  ⟨h.st, h.mp.of_block rfl⟩

theorem At.drew {w : World} {s m : Nat} {most last : Int} {L : List Int} (h : At w s m most last L) : At w.drew s m most last L :=
  ⟨h.st, h.mp.of_block rfl⟩
theorem At.lenN {w : World} {s m : Nat} {most last : Int} {L : List Int} (h : At w s m most last L) (n : Nat) : (Builtin.len_ #[36] 3 #[.map (some m)]).run Try.prog (w.drewN n) = .ok (.int .i64 L.length) (w.drewN n) := by
  have := (h.drewN n).mp.len Try.underlying36 3
  rw [show (ent L).length = L.length by simp [ent]] at this
  exact this
theorem next_full (w : World) (s m : Nat) (most last : Int) (L : List Int) (h : At w s m most last L) (hf : most ≤ L.length) :
    Calls Try.prog 30 #[.pointer (some ⟨s, 0, none⟩)] w fun e w' => e = .returned (.tuple #[.int .i64 0, .bool false]) ∧ ∃ n, w' = w.drewN n := by
  have c0 := cell_of h.st (o := 0) rfl
  have c2 := cell_of h.st (o := 2) rfl
  have hl := h.lenN
  have hd : decide (most ≤ (L.length : Int)) = true := by simpa using hf
  clear h hf
  go_enter Try.func30, Try.ntmps30
  go_wp2
  go_quiet (fail)
  go_wp2
  go_ret2
  exact ⟨rfl, _, rfl⟩

set_option maxHeartbeats 1000000 in
theorem next_yes (k : Nat) (r : Int) (w : World) (s m : Nat) (most last : Int) (L : List Int) (h : At w s m most last L) (I : Inv most last L) (hf : L.length < most) (H : seek most L k last = some r) :
    Calls Try.prog 30 #[.pointer (some ⟨s, 0, none⟩)] w fun e w' => e = .returned (.tuple #[.int .i64 r, .bool true]) ∧ At w' s m most r (L ++ [r]) ∧ Tch [s, m] w w' := by
  have c0 := cell_of h.st (o := 0) rfl
  have c2 := cell_of h.st (o := 2) rfl
  have hl := h.lenN
  have hd : decide (most ≤ (L.length : Int)) = false := by simpa using hf
  have HA := Lib.hid h
  have HH := Lib.hid H
  have HI := Lib.hid I
  clear h H I
  go_enter Try.func30, Try.ntmps30
  go_wp2
  go_quiet (fail)
  go_wp2
  clear hl hd c0 c2
  go_loopg [] k (fun kq wr => ∃ c, 0 ≤ c ∧ seek most L kq c = some r ∧ At wr s m most c L ∧ Tch [s, m] w wr)
  case atStart => exact ⟨last, HI.out.l0, HH.out, HA.out.drewN _, (Tch.refl _ _).drewN _⟩
  case round =>
    obtain ⟨c, hcz, hs, hA, hT⟩ := hrel
    cases gk with
    | zero => exact absurd hs (by simp [seek])
    | succ k1 =>
      unfold seek at hs
      have c0 : wr.cell? ⟨s, 0, none⟩ = some (.int .i64 most) := cell_of hA.st rfl
      have c1 : wr.cell? ⟨s, 1, none⟩ = some (.int .i64 c) := cell_of hA.st rfl
      have f1 := free_of hA.st 1
      have hc0 : 0 ≤ c % most := Int.emod_nonneg _ (by have := HI.out.m0; omega)
      have hc1 : c % most < most := Int.emod_lt_of_pos _ (by omega)
      have hm1 := HI.out.m1
      have hm2 : ¬ most = 0 := by omega
      have hm3 : c.tmod most = c % most := Int.tmod_eq_emod_of_nonneg hcz
      have hm4 : IntKind.i64.wrap (c % most + 1) = c % most + 1 := IntWalk.i64_in _ (by omega)
      by_cases hm : c % most + 1 ∈ L
      · rw [if_pos hm] at hs
        have hno := use_no _ s m most (c % most + 1) L (hA.set (c % most + 1)).drew (c % most + 1) (WalkArith.wf_i64 (by omega)) (fun h => h.2.2 hm)
        have HNO := Lib.hid hno
        have HS := Lib.hid hs
        have HT := Lib.hid hT
        have HAA := Lib.hid hA
        clear hno hs hm hT hA
        go_wp2
        go_still_tail 13, (by kernel_rfl)
        change wpList _ _ _ _ _ wr.drew
        go_wp2_with (go_at_call 54; refine (HNO.out).mono ?_; rintro e w' ⟨rfl, rfl⟩)
        go_roundg k1
        case measure => omega
        case rel => exact ⟨c % most + 1, by omega, HS.out, (HAA.out.set _).drew, (HT.out.setCell (.inl (by simp)) _).drew⟩
      · rw [if_neg hm] at hs
        obtain rfl := Option.some.inj hs
        have hyes := use_yes _ s m most (c % most + 1) L (hA.set (c % most + 1)).drew (by unfold maxLen; omega) (c % most + 1) (WalkArith.wf_i64 (by omega)) (by omega) (by omega) hm
        have HY := Lib.hid hyes
        have HT := Lib.hid hT
        clear hyes hs hm hT hA
        go_wp2
        go_still_tail 13, (by kernel_rfl)
        change wpList _ _ _ _ _ wr.drew
        go_wp2_with fail
        refine (HY.out).mono ?_
        rintro e w' ⟨rfl, hA', hT'⟩
        have c1' : w'.cell? ⟨s, 1, none⟩ = some (.int .i64 (c % most + 1)) := cell_of hA'.st rfl
        have HA' := Lib.hid hA'
        have HT' := Lib.hid hT'
        clear hA' hT'
        go_wp2
        go_ret2
        refine ⟨rfl, HA'.out, ?_⟩
        exact ((HT.out.setCell (.inl (by simp)) _).drew).then HT'.out (fun i hi => .inl (by simp at hi; simp [hi]))
end Go.Proofs.Ytapiaiobohkemaa.PidsW
