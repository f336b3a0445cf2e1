/- What the numbers that came in come to, over the program. -/
import Derived.Test.YtapiaiobohkemaaProg
import Derived.WalkKit
import Derived.KernelRfl
import Derived.Deep.LoopGhost
import Derived.Deep.QuietTactic
import Derived.BigQuiet
import Derived.Lib.Hide
import Derived.Deep.RegionWith
import Derived.StillTailTactics
import Derived.Test.YtapiaiobohkemaaMap
import Derived.Test.YtapiaiobohkemaaFrame
import Derived.Test.YtapiaiobohkemaaInPure
set_option linter.unusedVariables false
set_option linter.unusedSimpArgs false
namespace Go.Proofs.Ytapiaiobohkemaa.InW
open Go.RowKit Go.Proofs.Ytapiaiobohkemaa.Tc InPure

noncomputable def T : KeyT Try.prog 3 Int := intKey Try.underlying3
def ent (L : List (Int × Int)) : List (Int × Value) := L.map fun x => (x.1, .int .i64 x.2)
theorem ent_keys (L : List (Int × Int)) : (ent L).map Prod.fst = L.map Prod.fst := by
  unfold ent
  rw [List.map_map]
  rfl
theorem getL_ent (L : List (Int × Int)) (i : Int) : (getL (ent L) i).getD (.int .i64 0) = .int .i64 (getQ L i) := by
  induction L with
  | nil => rfl
  | cons x l ih =>
    unfold getQ
    unfold getL ent at ih ⊢
    rw [List.map_cons, List.find?_cons]
    by_cases h : x.1 = i
    · simp [h]
    · simp only [h, decide_false, if_false]
      exact ih
theorem hasL_ent {L : List (Int × Int)} (I : Inv L) {i : Int} (h : getQ L i = 0) : hasL (ent L) i = false := by
  have := (getQ_zero I).1 h
  rw [← ent_keys] at this
  cases hh : hasL (ent L) i with
  | false => rfl
  | true => exact absurd ((hasL_iff _ _).1 hh) this
theorem put_ent {L : List (Int × Int)} (I : Inv L) {i q : Int} (h : getQ L i = 0) : putL (ent L) i (.int .i64 q) = ent (L ++ [(i, q)]) := by
  unfold putL
  rw [hasL_ent I h]
  simp [ent]
theorem del_ent (L : List (Int × Int)) (i : Int) : delL (ent L) i = ent (del L i) := by
  unfold delL ent del
  rw [List.filter_map]
  rfl
theorem mapNil (m : Nat) (w : World) : (binOp .eql 60 (.map (some m)) (.map none)).run Try.prog w = .ok (.bool false) w := by kernel_rfl
theorem mapNil' (w : World) : (binOp .eql 60 (.map none) (.map none)).run Try.prog w = .ok (.bool true) w := by kernel_rfl
theorem zero3 (w : World) : (zeroValue 3).run Try.prog w = .ok (.int .i64 0) w := by kernel_rfl

/-- An inq.In: its struct's block, its map's. -/
structure At (w : World) (s m : Nat) (most : Int) (L : List (Int × Int)) : Prop where
  st : w.heap[s]? = some (.cells #[.int .i64 most, .map (some m)] 62 (0, 0))
  mp : MapIs T w m (ent L)
theorem At.ne {w : World} {s m : Nat} {most : Int} {L : List (Int × Int)} (h : At w s m most L) : s ≠ m := by
  obtain ⟨es, k, hb⟩ := h.mp.block
  exact map_ne h.st hb
theorem At.kept {w w' : World} {s m : Nat} {most : Int} {L : List (Int × Int)} {S : List Nat} (h : At w s m most L) (ht : Tch S w w') (hs : s ∉ S) (hm : m ∉ S) : At w' s m most L :=
  ⟨(ht.block s (lt_of_block h.st) hs).trans h.st, h.mp.of_block (ht.block m h.mp.lt hm)⟩
theorem At.drewN {w : World} {s m : Nat} {most : Int} {L : List (Int × Int)} (h : At w s m most L) (n : Nat) : At (w.drewN n) s m most L :=
  ⟨h.st, h.mp.of_block rfl⟩

theorem len_any (w : World) (s m : Nat) (most : Int) (L : List (Int × Int)) (h : At w s m most L) :
    Calls Try.prog 38 #[.pointer (some ⟨s, 0, none⟩)] w fun e w' => e = .returned (.int .i64 L.length) ∧ w = w' := by
  have c1 := cell_of h.st (o := 1) rfl
  have hl := h.mp.len Try.underlying60 3
  have e1 : (ent L).length = L.length := by simp [ent]
  rw [e1] at hl
  clear e1 h
  go_enter Try.func38, Try.ntmps38
  go_wp2
  go_ret
  exact ⟨rfl, rfl⟩
theorem of_any (w : World) (s m : Nat) (most : Int) (L : List (Int × Int)) (h : At w s m most L) (i : Int) (hi : (Lit.int .i64 i).wf = true) :
    Calls Try.prog 57 #[.pointer (some ⟨s, 0, none⟩), .int .i64 i] w fun e w' => e = .returned (.int .i64 (getQ L i)) ∧ w = w' := by
  have c1 := cell_of h.st (o := 1) rfl
  have hl := h.mp.look Try.underlying60 (zero3 w) i hi
  rw [getL_ent] at hl
  have hl' : (Instr.lookup 60 (.map (some m)) (.int .i64 i) false).run Try.prog w = .ok (.int .i64 (getQ L i)) w := hl
  clear hl hi h
  go_enter Try.func57, Try.ntmps57
  go_wp2
  go_ret
  exact ⟨rfl, rfl⟩
theorem room_any (w : World) (s m : Nat) (most : Int) (L : List (Int × Int)) (h : At w s m most L) :
    Calls Try.prog 58 #[.pointer (some ⟨s, 0, none⟩)] w fun e w' => e = .returned (.int .i64 most) ∧ w = w' := by
  have c0 := cell_of h.st (o := 0) rfl
  have c1 := cell_of h.st (o := 1) rfl
  have hmn := mapNil m w
  clear h
  go_enter Try.func58, Try.ntmps58
  go_wp2
  go_ret
  exact ⟨rfl, rfl⟩
theorem done_any (w : World) (s m : Nat) (most : Int) (L : List (Int × Int)) (h : At w s m most L) (I : Inv L) (i : Int) (hi : (Lit.int .i64 i).wf = true) :
    Calls Try.prog 39 #[.pointer (some ⟨s, 0, none⟩), .int .i64 i] w fun e w' => e = .returned (.bool (decide (getQ L i ≠ 0))) ∧ At w' s m most (del L i) ∧ Tch [m] w w' := by
  have hc := of_any w s m most L h i hi
  have HC := Lib.hid hc
  have hq := getQ_q I i
  by_cases hz : getQ L i = 0
  · rw [del_none I hz, decide_eq_false (by simpa using hz)]
    have HF := Lib.hid (And.intro h (Tch.refl [m] w))
    rw [hz] at hc
    have HC := Lib.hid hc
    clear hc h I hi hz hq
    go_enter Try.func39, Try.ntmps39
    go_wp2_with (go_at_call 57; refine (HC.out).mono ?_; rintro e w' ⟨rfl, rfl⟩)
    go_ret
    exact ⟨rfl, HF.out⟩
  · have c1 := cell_of h.st (o := 1) rfl
    obtain ⟨w1, hrun, hm1, hg1, hs1⟩ := h.mp.drop Try.underlying60 i hi 0
    rw [del_ent] at hm1
    have hrun' : (Builtin.delete_ #[60, 3] 0 #[.map (some m), .int .i64 i]).run Try.prog w = .ok (.tuple #[]) w1 := hrun
    have hst := (hg1.block s (lt_of_block h.st) (by have := h.ne; simpa using this)).trans h.st
    have HF := Lib.hid (And.intro (At.mk hst hm1) (Tch.grownBy hg1))
    rw [decide_eq_true (by simpa using hz)]
    generalize getQ L i = g at hc hq hz
    have h0 : 0 < g := by omega
    have HC := Lib.hid hc
    clear hc h I hi hz hq hrun hst hm1 hg1 hs1
    go_enter Try.func39, Try.ntmps39
    go_wp2_with (go_at_call 57; refine (HC.out).mono ?_; rintro e w' ⟨rfl, rfl⟩)
    go_ret
    exact ⟨rfl, HF.out⟩
theorem release_any (w : World) (s m : Nat) (most : Int) (L : List (Int × Int)) (h : At w s m most L) (I : Inv L) (i : Int) (hi : (Lit.int .i64 i).wf = true) :
    Calls Try.prog 41 #[.pointer (some ⟨s, 0, none⟩), .int .i64 i] w fun e w' => e = .returned (.bool (decide (getQ L i = 2))) ∧ At w' s m most (if getQ L i = 2 then del L i else L) ∧ Tch [m] w w' := by
  have hc := of_any w s m most L h i hi
  have hd := done_any w s m most L h I i hi
  by_cases hz : getQ L i = 2
  · rw [if_pos hz, decide_eq_true hz]
    rw [decide_eq_true (by omega)] at hd
    rw [hz] at hc
    have HC := Lib.hid hc
    have HD := Lib.hid hd
    clear hc hd h I hi hz
    go_enter Try.func41, Try.ntmps41
    go_wp2_with (first | (go_at_call 57; refine (HC.out).mono ?_; rintro e w' ⟨rfl, rfl⟩) | (go_at_call 39; refine (HD.out).mono ?_; rintro e w' ⟨rfl, hf⟩; have HF := Lib.hid hf; clear hf))
    go_ret
    exact ⟨rfl, HF.out⟩
  · rw [if_neg hz, decide_eq_false hz]
    have HF := Lib.hid (And.intro h (Tch.refl [m] w))
    generalize getQ L i = g at hc hz
    have hb : (g == 2) = false := by simpa using hz
    have HC := Lib.hid hc
    clear hc hd h I hi hz
    go_enter Try.func41, Try.ntmps41
    go_wp2_with (go_at_call 57; refine (HC.out).mono ?_; rintro e w' ⟨rfl, rfl⟩)
    go_ret
    exact ⟨rfl, HF.out⟩
set_option maxHeartbeats 1000000 in
theorem take_any (w : World) (s m : Nat) (most : Int) (L : List (Int × Int)) (h : At w s m most L) (I : Inv L) (hlen : L.length < 1000000) (i q : Int) (hi : (Lit.int .i64 i).wf = true) :
    Calls Try.prog 40 #[.pointer (some ⟨s, 0, none⟩), .int .i64 i, .int .i64 q] w fun e w' => e = .returned (.int .i64 (take most L i q).1) ∧ At w' s m most (take most L i q).2 ∧ Tch [m] w w' := by
  have hc := of_any w s m most L h i hi
  have hq := getQ_q I i
  unfold take
  by_cases k1 : ¬ (q = 1 ∨ q = 2)
  · rw [if_pos k1]
    have HF := Lib.hid (And.intro h (Tch.refl [m] w))
    have b1 : (q != 1) = true := by simpa using fun e => k1 (.inl e)
    have b2 : (q != 2) = true := by simpa using fun e => k1 (.inr e)
    have HC := Lib.hid hc
    clear hc h I hi k1 hq hlen
    go_enter Try.func40, Try.ntmps40
    go_wp2_with (go_at_call 57; refine (HC.out).mono ?_; rintro e w' ⟨rfl, rfl⟩)
    go_ret
    exact ⟨rfl, HF.out⟩
  · rw [if_neg k1]
    have k1' : q = 1 ∨ q = 2 := Decidable.not_not.1 k1
    clear k1
    by_cases k2 : getQ L i = 2 ∧ q = 2
    · rw [if_pos k2]
      have HF := Lib.hid (And.intro h (Tch.refl [m] w))
      obtain ⟨k2, rfl⟩ := k2
      rw [k2] at hc
      have HC := Lib.hid hc
      clear hc h I hi k1' k2 hq hlen
      go_enter Try.func40, Try.ntmps40
      go_wp2_with (go_at_call 57; refine (HC.out).mono ?_; rintro e w' ⟨rfl, rfl⟩)
      go_ret
      exact ⟨rfl, HF.out⟩
    · rw [if_neg k2]
      by_cases k3 : getQ L i ≠ 0
      · rw [if_pos k3]
        have HF := Lib.hid (And.intro h (Tch.refl [m] w))
        have k4 : (getQ L i = 1 ∧ q = 1) ∨ (getQ L i = 1 ∧ q = 2) ∨ (getQ L i = 2 ∧ q = 1) := by omega
        have HC := Lib.hid hc
        clear hc h I hi k1' hq hlen k2 k3
        rcases k4 with ⟨k4, rfl⟩ | ⟨k4, rfl⟩ | ⟨k4, rfl⟩
        · have hc := HC.out
          rw [k4] at hc
          have HC2 := Lib.hid hc
          clear hc k4 HC
          go_enter Try.func40, Try.ntmps40
          go_wp2_with (go_at_call 57; refine (HC2.out).mono ?_; rintro e w' ⟨rfl, rfl⟩)
          go_ret
          exact ⟨rfl, HF.out⟩
        · have hc := HC.out
          rw [k4] at hc
          have HC2 := Lib.hid hc
          clear hc k4 HC
          go_enter Try.func40, Try.ntmps40
          go_wp2_with (go_at_call 57; refine (HC2.out).mono ?_; rintro e w' ⟨rfl, rfl⟩)
          go_ret
          exact ⟨rfl, HF.out⟩
        · have hc := HC.out
          rw [k4] at hc
          have HC2 := Lib.hid hc
          clear hc k4 HC
          go_enter Try.func40, Try.ntmps40
          go_wp2_with (go_at_call 57; refine (HC2.out).mono ?_; rintro e w' ⟨rfl, rfl⟩)
          go_ret
          exact ⟨rfl, HF.out⟩
      · rw [if_neg k3]
        have k3' : getQ L i = 0 := Decidable.not_not.1 k3
        have HLN := Lib.hid (len_any w s m most L h)
        have HRM := Lib.hid (room_any w s m most L h)
        have hk := hc
        rw [k3'] at hk
        have HC := Lib.hid hk
        by_cases k4 : most ≤ L.length
        · rw [if_pos k4]
          have HF := Lib.hid (And.intro h (Tch.refl [m] w))
          have hb : decide (most ≤ (L.length : Int)) = true := by simpa using k4
          clear hc hk h I hi k2 k3 k3' hq hlen k4
          rcases k1' with rfl | rfl
          · go_enter Try.func40, Try.ntmps40
            go_wp2_with (first | (go_at_call 57; refine (HC.out).mono ?_; rintro e w' ⟨rfl, rfl⟩) | (go_at_call 38; refine (HLN.out).mono ?_; rintro e w' ⟨rfl, rfl⟩) | (go_at_call 58; refine (HRM.out).mono ?_; rintro e w' ⟨rfl, rfl⟩))
            go_ret
            exact ⟨rfl, HF.out⟩
          · go_enter Try.func40, Try.ntmps40
            go_wp2_with (first | (go_at_call 57; refine (HC.out).mono ?_; rintro e w' ⟨rfl, rfl⟩) | (go_at_call 38; refine (HLN.out).mono ?_; rintro e w' ⟨rfl, rfl⟩) | (go_at_call 58; refine (HRM.out).mono ?_; rintro e w' ⟨rfl, rfl⟩))
            go_ret
            exact ⟨rfl, HF.out⟩
        · rw [if_neg k4]
          have c1 := cell_of h.st (o := 1) rfl
          obtain ⟨w1, hrun, hm1, hg1, hs1⟩ := h.mp.store Try.underlying60 (by simp [ent, maxLen]; omega) i hi (.int .i64 q)
          rw [put_ent I k3'] at hm1
          have hrun' : (Instr.mapUpdate 60 (.map (some m)) (.int .i64 i) (.int .i64 q)).run Try.prog w = .ok () w1 := hrun
          have hst := (hg1.block s (lt_of_block h.st) (by have := h.ne; simpa using this)).trans h.st
          have HF := Lib.hid (And.intro (At.mk hst hm1) (Tch.grownBy hg1))
          have hb : decide (most ≤ (L.length : Int)) = false := by simpa using k4
          clear hc hk h I hi k2 k3 k3' hq hlen k4 hrun hm1 hg1 hs1 hst
          rcases k1' with rfl | rfl
          · go_enter Try.func40, Try.ntmps40
            go_wp2_with (first | (go_at_call 57; refine (HC.out).mono ?_; rintro e w' ⟨rfl, rfl⟩) | (go_at_call 38; refine (HLN.out).mono ?_; rintro e w' ⟨rfl, rfl⟩) | (go_at_call 58; refine (HRM.out).mono ?_; rintro e w' ⟨rfl, rfl⟩))
            go_ret
            exact ⟨rfl, HF.out⟩
          · go_enter Try.func40, Try.ntmps40
            go_wp2_with (first | (go_at_call 57; refine (HC.out).mono ?_; rintro e w' ⟨rfl, rfl⟩) | (go_at_call 38; refine (HLN.out).mono ?_; rintro e w' ⟨rfl, rfl⟩) | (go_at_call 58; refine (HRM.out).mono ?_; rintro e w' ⟨rfl, rfl⟩))
            go_ret
            exact ⟨rfl, HF.out⟩

theorem new_any (w : World) (n : Int) :
    Calls Try.prog 33 #[.int .i64 n] w fun e w' => e = .returned (.pointer (some ⟨w.heap.size + 1, 0, none⟩)) ∧ At w' (w.heap.size + 1) w.heap.size n [] ∧ Below w.heap.size w w' := by
  have hmm := @run_makeMap Try.prog
  have hb := (((Below.refl w.heap.size w).alloc (Nat.le_refl _) (.map #[] 0)).alloc (by simp) (.cells #[.int .i64 n, .map (some w.heap.size)] 62))
  have ha : At ((w.alloc (.map #[] 0)).alloc (.cells #[.int .i64 n, .map (some w.heap.size)] 62)) (w.heap.size + 1) w.heap.size n [] := by
    refine ⟨?_, ?_⟩
    · have := (MapKept.heap_alloc (w.alloc (.map #[] 0)) (.cells #[.int .i64 n, .map (some w.heap.size)] 62)).1
      simpa using this
    · refine (MapIs.made T w).of_block (Below.heap_alloc _ _ _ (by simp))
  have HB := Lib.hid hb
  have HA := Lib.hid ha
  clear hb ha
  go_enter Try.func33, Try.ntmps33
  go_wp2
  go_ret
  exact ⟨rfl, HA.out, HB.out⟩
set_option maxHeartbeats 1000000 in
/-- 'do'. -/
theorem do_any (w : World) (s m : Nat) (most : Int) (L : List (Int × Int)) (h : At w s m most L) (I : Inv L) (hl : L.length < 1000000) (kind id qos : Int) (hi : (Lit.int .i64 id).wf = true) :
    Calls Try.prog 34 #[.pointer (some ⟨s, 0, none⟩), .agg #[.int .i64 kind, .int .i64 id, .int .i64 qos]] w fun e w' => e = .returned (.tuple #[.int .i64 (act most L kind id qos).1.1, .bool (act most L kind id qos).1.2]) ∧
      At w' s m most (act most L kind id qos).2 ∧ Tch [m] w w' := by
  have hT : Tch [m] w (w.alloc (.cells #[.int .i64 kind, .int .i64 id, .int .i64 qos] 65)) := (Tch.refl _ _).alloc _
  have hA : At (w.alloc (.cells #[.int .i64 kind, .int .i64 id, .int .i64 qos] 65)) s m most L := h.kept ((Tch.refl [] w).alloc _) (by simp) (by simp)
  by_cases h1 : kind = 1
  · subst h1
    have hc := take_any _ s m most L hA I hl id qos hi
    have hs : act most L 1 id qos = (((take most L id qos).1, false), (take most L id qos).2) := by unfold act; rw [if_pos rfl]
    rw [hs]
    generalize take most L id qos = r at hc ⊢
    have HC := Lib.hid hc
    have HT := Lib.hid hT
    clear hs hc hT hA h I hi hl
    go_enter Try.func34, Try.ntmps34
    go_wp2_with fail
    refine HC.out.mono ?_
    rintro e w' ⟨rfl, hA', hT'⟩
    have HA' := Lib.hid hA'
    have HT' := Lib.hid hT'
    clear hA' hT' HC
    go_wp2
    go_ret2
    exact ⟨rfl, HA'.out, HT.out.trans HT'.out⟩
  · by_cases h2 : kind = 2
    · subst h2
      have hc := done_any _ s m most L hA I id hi
      have hs : act most L 2 id qos = ((0, decide (getQ L id ≠ 0)), del L id) := by unfold act; rw [if_neg (by decide), if_pos rfl]
      rw [hs]
      generalize decide (getQ L id ≠ 0) = r at hc ⊢
      have HC := Lib.hid hc
      have HT := Lib.hid hT
      clear hs hc hT hA h I hi hl h1
      go_enter Try.func34, Try.ntmps34
      go_wp2_with fail
      refine HC.out.mono ?_
      rintro e w' ⟨rfl, hA', hT'⟩
      have HA' := Lib.hid hA'
      have HT' := Lib.hid hT'
      clear hA' hT' HC
      go_wp2
      go_ret2
      exact ⟨rfl, HA'.out, HT.out.trans HT'.out⟩
    · by_cases h3 : kind = 3
      · subst h3
        have hc := release_any _ s m most L hA I id hi
        have hs : act most L 3 id qos = ((0, decide (getQ L id = 2)), if getQ L id = 2 then del L id else L) := by
          unfold act
          rw [if_neg (by decide), if_neg (by decide), if_pos rfl]
          split <;> simp [*]
        rw [hs]
        generalize decide (getQ L id = 2) = r at hc ⊢
        generalize (if getQ L id = 2 then del L id else L) = M at hc ⊢
        have HC := Lib.hid hc
        have HT := Lib.hid hT
        clear hs hc hT hA h I hi hl h1 h2
        go_enter Try.func34, Try.ntmps34
        go_wp2_with fail
        refine HC.out.mono ?_
        rintro e w' ⟨rfl, hA', hT'⟩
        have HA' := Lib.hid hA'
        have HT' := Lib.hid hT'
        clear hA' hT' HC
        go_wp2
        go_ret2
        exact ⟨rfl, HA'.out, HT.out.trans HT'.out⟩
      · have hs : act most L kind id qos = ((0, false), L) := by
          unfold act
          rw [if_neg h1, if_neg h2, if_neg h3]
        rw [hs]
        have HT := Lib.hid hT
        have HA := Lib.hid hA
        have e1 : (kind == 1) = false := by simpa using h1
        have e2 : (kind == 2) = false := by simpa using h2
        have e3 : (kind == 3) = false := by simpa using h3
        clear hs hT hA h I hi hl h1 h2 h3
        go_enter Try.func34, Try.ntmps34
        go_wp2
        go_ret2
        exact ⟨rfl, HA.out, HT.out⟩
end Go.Proofs.Ytapiaiobohkemaa.InW
