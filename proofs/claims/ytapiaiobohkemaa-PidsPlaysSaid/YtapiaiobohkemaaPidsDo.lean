/- One pact on the numbers of packets, the program's, the reference's, and on those that nobody made. -/
import Derived.Test.YtapiaiobohkemaaPidsR
import Derived.Test.YtapiaiobohkemaaKind
set_option linter.unusedVariables false
set_option linter.unusedSimpArgs false
namespace Go.Proofs.Ytapiaiobohkemaa.PidsW
open Go.RowKit Go.Proofs.Ytapiaiobohkemaa.Tc PidsPure

theorem ret2 {k : IntKind} {a b : Int} {x y : Bool} (h : a = b) (h' : x = y) : Ending.returned (.tuple #[.int k a, .bool x]) = .returned (.tuple #[.int k b, .bool y]) := by rw [h, h']
theorem At.kept {w w' : World} {s m : Nat} {most last : Int} {L : List Int} {S : List Nat} (h : At w s m most last L) (ht : Tch S w w') (hs : s ∉ S) (hm : m ∉ S) : At w' s m most last L :=
  ⟨(ht.block s (lt_of_block h.st) hs).trans h.st, h.mp.of_block (ht.block m h.mp.lt hm)⟩

/-- Next, whatever there is. -/
theorem pnext_any (w : World) (s m : Nat) (most last : Int) (L : List Int) (h : At w s m most last L) (I : Inv most last L) (id : Int) :
    Calls Try.prog 30 #[.pointer (some ⟨s, 0, none⟩)] w fun e w' => e = .returned (.tuple #[.int .i64 (pact most last L 1 id).1.1, .bool (pact most last L 1 id).1.2]) ∧
      At w' s m most (pact most last L 1 id).2.1 (pact most last L 1 id).2.2 ∧ Tch [s, m] w w' := by
  unfold pact
  rw [if_pos rfl]
  by_cases hf : most ≤ L.length
  · rw [if_pos hf]
    refine (next_full w s m most last L h hf).mono ?_
    rintro e w' ⟨rfl, n, rfl⟩
    exact ⟨rfl, h.drewN n, (Tch.refl _ _).drewN n⟩
  · rw [if_neg hf]
    obtain ⟨h1, h2, h3⟩ := free_spec I (by omega)
    exact next_yes _ _ w s m most last L h I (by omega) (seek_free h2 h3)
theorem puse_any (w : World) (s m : Nat) (most last : Int) (L : List Int) (h : At w s m most last L) (hl : L.length < 1000000) (id : Int) (hi : (Lit.int .i64 id).wf = true) :
    Calls Try.prog 54 #[.pointer (some ⟨s, 0, none⟩), .int .i64 id] w fun e w' => e = .returned (.bool (pact most last L 2 id).1.2) ∧
      At w' s m most (pact most last L 2 id).2.1 (pact most last L 2 id).2.2 ∧ Tch [s, m] w w' := by
  unfold pact
  rw [if_neg (by decide), if_pos rfl]
  by_cases hf : 1 ≤ id ∧ id ≤ most ∧ id ∉ L
  · rw [if_pos hf]
    refine (use_yes w s m most last L h (by unfold maxLen; omega) id hi hf.1 hf.2.1 hf.2.2).mono ?_
    rintro e w' ⟨rfl, h', ht⟩
    exact ⟨rfl, h', ht.mono (by simp)⟩
  · rw [if_neg hf]
    refine (use_no w s m most last L h id hi hf).mono ?_
    rintro e w' ⟨rfl, rfl⟩
    exact ⟨rfl, h, Tch.refl _ _⟩
theorem pfree_any (w : World) (s m : Nat) (most last : Int) (L : List Int) (h : At w s m most last L) (id : Int) (hi : (Lit.int .i64 id).wf = true) :
    Calls Try.prog 31 #[.pointer (some ⟨s, 0, none⟩), .int .i64 id] w fun e w' => e = .returned (.bool (pact most last L 3 id).1.2) ∧
      At w' s m most (pact most last L 3 id).2.1 (pact most last L 3 id).2.2 ∧ Tch [s, m] w w' := by
  unfold pact
  rw [if_neg (by decide), if_neg (by decide), if_pos rfl]
  by_cases hf : id ∈ L
  · rw [if_pos hf]
    refine (free_yes w s m most last L h id hi hf).mono ?_
    rintro e w' ⟨rfl, h', ht⟩
    exact ⟨rfl, h', ht.mono (by simp)⟩
  · rw [if_neg hf]
    refine (free_no w s m most last L h id hi hf).mono ?_
    rintro e w' ⟨rfl, rfl⟩
    exact ⟨rfl, h, Tch.refl _ _⟩

/-- 'do'. -/
theorem do_any (w : World) (s m : Nat) (most last : Int) (L : List Int) (h : At w s m most last L) (I : Inv most last L) (hl : L.length < 1000000) (kind id : Int) (hi : (Lit.int .i64 id).wf = true) :
    Calls Try.prog 23 #[.pointer (some ⟨s, 0, none⟩), .agg #[.int .i64 kind, .int .i64 id]] w fun e w' => e = .returned (.tuple #[.int .i64 (pact most last L kind id).1.1, .bool (pact most last L kind id).1.2]) ∧
      At w' s m most (pact most last L kind id).2.1 (pact most last L kind id).2.2 ∧ Tch [s, m] w w' := by
  have hT : Tch [s, m] w (w.alloc (.cells #[.int .i64 kind, .int .i64 id] 43)) := (Tch.refl _ _).alloc _
  have hA : At (w.alloc (.cells #[.int .i64 kind, .int .i64 id] 43)) s m most last L := h.kept ((Tch.refl [] w).alloc _) (by simp) (by simp)
  by_cases h1 : kind = 1
  · subst h1
    have hc := pnext_any _ s m most last L hA I id
    generalize pact most last L 1 id = r at hc ⊢
    have HC := Lib.hid hc
    have HT := Lib.hid hT
    clear hc hT hA h I hi hl
    go_enter Try.func23, Try.ntmps23
    go_wp2_with fail
    refine HC.out.mono ?_
    rintro e w' ⟨rfl, hA', hT'⟩
    have HA' := Lib.hid hA'
    have HT' := Lib.hid hT'
    clear hA' hT' HC
    go_wp2
    go_ret2
    exact ⟨rfl, HA'.out, HT.out.trans HT'.out⟩
  · by_cases h2 : kind = 2
    · subst h2
      have hc := puse_any _ s m most last L hA hl id hi
      have hs0 : ((pact most last L 2 id).1.1 = 0) := by
        unfold pact
        rw [if_neg (by decide), if_pos rfl]
        split <;> rfl
      generalize pact most last L 2 id = r at hc hs0 ⊢
      have HS := Lib.hid hs0
      have HC := Lib.hid hc
      have HT := Lib.hid hT
      clear hs0
      clear hc hT hA h I hi hl h1
      go_enter Try.func23, Try.ntmps23
      go_wp2_with fail
      refine HC.out.mono ?_
      rintro e w' ⟨rfl, hA', hT'⟩
      have HA' := Lib.hid hA'
      have HT' := Lib.hid hT'
      clear hA' hT' HC
      go_wp2
      go_ret2
      exact ⟨ret2 HS.out.symm rfl, HA'.out, HT.out.trans HT'.out⟩
    · by_cases h3 : kind = 3
      · subst h3
        have hc := pfree_any _ s m most last L hA id hi
        have hs0 : ((pact most last L 3 id).1.1 = 0) := by
          unfold pact
          rw [if_neg (by decide), if_neg (by decide), if_pos rfl]
          split <;> rfl
        generalize pact most last L 3 id = r at hc hs0 ⊢
        have HS := Lib.hid hs0
        have HC := Lib.hid hc
        have HT := Lib.hid hT
        clear hs0
        clear hc hT hA h I hi hl h1 h2
        go_enter Try.func23, Try.ntmps23
        go_wp2_with fail
        refine HC.out.mono ?_
        rintro e w' ⟨rfl, hA', hT'⟩
        have HA' := Lib.hid hA'
        have HT' := Lib.hid hT'
        clear hA' hT' HC
        go_wp2
        go_ret2
        exact ⟨ret2 HS.out.symm rfl, HA'.out, HT.out.trans HT'.out⟩
      · have hs : pact most last L kind id = ((0, false), last, L) := by
          unfold pact
          rw [if_neg h1, if_neg h2, if_neg h3]
        rw [hs]
        have HT := Lib.hid hT
        have HA := Lib.hid hA
        have e1 : (kind == 1) = false := by simpa using h1
        have e2 : (kind == 2) = false := by simpa using h2
        have e3 : (kind == 3) = false := by simpa using h3
        clear hs hT hA h I hi hl h1 h2 h3
        go_enter Try.func23, Try.ntmps23
        go_wp2
        go_ret2
        exact ⟨rfl, HA.out, HT.out⟩

/-! ### the reference's -/
/-- What an act leaves of a reference's object. -/
def RPost (w : World) (s : Nat) (v : Value) (most : Int) (r : (Int × Bool) × Int × List Int) (w' : World) : Prop :=
  ∃ v', RAt w' s v' most r.2.1 r.2.2 ∧ Tch (s :: v.ownBlock.toList) w w' ∧ ∀ g, v'.ownBlock = some g → v.ownBlock = some g ∨ w.heap.size ≤ g
theorem rnext_act (w : World) (s : Nat) (v : Value) (most last : Int) (L : List Int) (h : RAt w s v most last L) (I : Inv most last L) (id : Int) :
    Calls Try.prog 24 #[.pointer (some ⟨s, 0, none⟩)] w fun e w' => e = .returned (.tuple #[.int .i64 (pact most last L 1 id).1.1, .bool (pact most last L 1 id).1.2]) ∧ RPost w s v most (pact most last L 1 id) w' := by
  unfold pact
  rw [if_pos rfl]
  by_cases hf : most ≤ L.length
  · rw [if_pos hf]
    refine (rnext_full w s v most last L h hf).mono ?_
    rintro e w' ⟨rfl, n, rfl⟩
    exact ⟨rfl, v, h.drewN n, (Tch.refl _ _).drewN n, fun g hg => .inl hg⟩
  · rw [if_neg hf]
    obtain ⟨h1, h2, h3⟩ := free_spec I (by omega)
    exact rnext_yes _ w s v most last L h I (by omega) h1 h3 h2
theorem ruse_act (w : World) (s : Nat) (v : Value) (most last : Int) (L : List Int) (h : RAt w s v most last L) (hl : L.length < 1000000) (id : Int) :
    Calls Try.prog 25 #[.pointer (some ⟨s, 0, none⟩), .int .i64 id] w fun e w' => e = .returned (.bool (pact most last L 2 id).1.2) ∧ RPost w s v most (pact most last L 2 id) w' := by
  unfold pact
  rw [if_neg (by decide), if_pos rfl]
  by_cases hf : 1 ≤ id ∧ id ≤ most ∧ id ∉ L
  · rw [if_pos hf]
    exact ruse_yes w s v most last L h hl id hf.1 hf.2.1 hf.2.2
  · rw [if_neg hf]
    refine (ruse_no w s v most last L h id hf).mono ?_
    rintro e w' ⟨rfl, rfl⟩
    exact ⟨rfl, v, h, Tch.refl _ _, fun g hg => .inl hg⟩
theorem rfree_act (w : World) (s : Nat) (v : Value) (most last : Int) (L : List Int) (h : RAt w s v most last L) (hl : L.length < 1000000) (id : Int) :
    Calls Try.prog 26 #[.pointer (some ⟨s, 0, none⟩), .int .i64 id] w fun e w' => e = .returned (.bool (pact most last L 3 id).1.2) ∧ RPost w s v most (pact most last L 3 id) w' := by
  refine (rfree_any w s v most last L h hl id).mono ?_
  rintro e w' ⟨rfl, v', h', ht, hg⟩
  have hp : (pact most last L 3 id).1.2 = decide (id ∈ L) ∧ (pact most last L 3 id).2 = (last, L.filter fun j => !decide (j = id)) := by
    unfold pact
    rw [if_neg (by decide), if_neg (by decide), if_pos rfl]
    by_cases hf : id ∈ L
    · rw [if_pos hf]; exact ⟨(decide_eq_true hf).symm, rfl⟩
    · rw [if_neg hf]; exact ⟨(decide_eq_false hf).symm, by rw [filter_none hf]⟩
  refine ⟨by rw [PidsPure.filter_lt, hp.1], ?_⟩
  unfold RPost
  rw [hp.2]
  exact ⟨v', h', ht.mono (by simp), fun g hg' => .inr (hg g hg')⟩

/-! ### those that nobody made -/
/-- nil, or a zero value. -/
def Nobody (w : World) (p : Value) : Prop := p = .pointer none ∨ ∃ z, p = .pointer (some ⟨z, 0, none⟩) ∧ w.heap[z]? = some (.cells #[.int .i64 0, .int .i64 0, .map none] 38 (0, 0))
theorem Nobody.kept {w w' : World} {p : Value} {S : List Nat} (h : Nobody w p) (ht : Tch S w w') (hs : ∀ z, p = .pointer (some ⟨z, 0, none⟩) → z ∉ S) : Nobody w' p := by
  rcases h with rfl | ⟨z, rfl, hz⟩
  · exact .inl rfl
  · exact .inr ⟨z, rfl, (ht.block z (lt_of_block hz) (hs z rfl)).trans hz⟩
theorem nlen_any (w : World) (p : Value) (h : Nobody w p) : Calls Try.prog 27 #[p] w fun e w' => e = .returned (.int .i64 0) ∧ w = w' := by
  rcases h with rfl | ⟨z, rfl, hz⟩
  · go_enter Try.func27, Try.ntmps27
    go_wp2
    go_ret
    exact ⟨rfl, rfl⟩
  · have c2 : w.cell? ⟨z, 2, none⟩ = some (.map none) := cell_of hz rfl
    have hl := fun w => Maps.len_nil (P := Try.prog) (w := w) Try.underlying36 3
    clear hz
    go_enter Try.func27, Try.ntmps27
    go_wp2
    go_ret
    exact ⟨rfl, rfl⟩
theorem nis_any (w : World) (p : Value) (h : Nobody w p) (i : Int) (hi : (Lit.int .i64 i).wf = true) : Calls Try.prog 28 #[p, .int .i64 i] w fun e w' => e = .returned (.bool false) ∧ w = w' := by
  rcases h with rfl | ⟨z, rfl, hz⟩
  · exact is_nil w i
  · have c2 : w.cell? ⟨z, 2, none⟩ = some (.map none) := cell_of hz rfl
    have hl : ∀ w, (Instr.lookup 36 (.map none) (.int .i64 i) false).run Try.prog w = .ok (.bool false) w := fun w => Maps.look_nil false T.keyed Try.underlying36 (zero4 w) (T.key i hi)
    clear hz hi
    go_enter Try.func28, Try.ntmps28
    go_wp2
    go_ret
    exact ⟨rfl, rfl⟩
theorem nuse_any (w : World) (p : Value) (h : Nobody w p) (i : Int) : Calls Try.prog 54 #[p, .int .i64 i] w fun e w' => e = .returned (.bool false) ∧ w = w' := by
  rcases h with rfl | ⟨z, rfl, hz⟩
  · go_enter Try.func54, Try.ntmps54
    go_wp2
    go_ret
    exact ⟨rfl, rfl⟩
  · have c0 : w.cell? ⟨z, 0, none⟩ = some (.int .i64 0) := cell_of hz rfl
    clear hz
    by_cases h1 : i < 1
    · go_enter Try.func54, Try.ntmps54
      go_wp2
      go_ret
      exact ⟨rfl, rfl⟩
    · have h2 : 0 < i := by omega
      go_enter Try.func54, Try.ntmps54
      go_wp2
      go_ret
      exact ⟨rfl, rfl⟩
theorem nnext_any (w : World) (p : Value) (h : Nobody w p) : Calls Try.prog 30 #[p] w fun e w' => e = .returned (.tuple #[.int .i64 0, .bool false]) ∧ ∃ n, w' = w.drewN n := by
  rcases h with rfl | ⟨z, rfl, hz⟩
  · go_enter Try.func30, Try.ntmps30
    go_wp2
    go_quiet (fail)
    go_wp2
    go_ret2
    exact ⟨rfl, _, rfl⟩
  · have c0 : w.cell? ⟨z, 0, none⟩ = some (.int .i64 0) := cell_of hz rfl
    have c2 : w.cell? ⟨z, 2, none⟩ = some (.map none) := cell_of hz rfl
    have hl := fun w => Maps.len_nil (P := Try.prog) (w := w) Try.underlying36 3
    clear hz
    go_enter Try.func30, Try.ntmps30
    go_wp2
    go_quiet (fail)
    go_wp2
    go_ret2
    exact ⟨rfl, _, rfl⟩
theorem nfree_any (w : World) (p : Value) (h : Nobody w p) (i : Int) (hi : (Lit.int .i64 i).wf = true) : Calls Try.prog 31 #[p, .int .i64 i] w fun e w' => e = .returned (.bool false) ∧ w = w' := by
  have hc := nis_any w p h i hi
  have HC := Lib.hid hc
  clear hc h hi
  go_enter Try.func31, Try.ntmps31
  go_wp2_with (go_at_call 28; refine (HC.out).mono ?_; rintro e w' ⟨rfl, rfl⟩)
  go_ret
  exact ⟨rfl, rfl⟩
theorem ndo_any (w : World) (p : Value) (h : Nobody w p) (kind id : Int) (hi : (Lit.int .i64 id).wf = true) :
    Calls Try.prog 23 #[p, .agg #[.int .i64 kind, .int .i64 id]] w fun e w' => e = .returned (.tuple #[.int .i64 0, .bool false]) ∧ Below w.heap.size w w' := by
  have hB : Below w.heap.size w (w.alloc (.cells #[.int .i64 kind, .int .i64 id] 43)) := (Below.refl _ _).alloc (Nat.le_refl _) _
  have hN : Nobody (w.alloc (.cells #[.int .i64 kind, .int .i64 id] 43)) p := h.kept ((Tch.refl [] w).alloc _) (by simp)
  have hp : p.oneCell' = true := by rcases h with rfl | ⟨z, rfl, _⟩ <;> rfl
  have HB := Lib.hid hB
  have h1 := nnext_any _ p hN
  have h2 := nuse_any _ p hN id
  have h3 := nfree_any _ p hN id hi
  have H1 := Lib.hid h1
  have H2 := Lib.hid h2
  have H3 := Lib.hid h3
  clear hB hN h h1 h2 h3 hi
  by_cases k1 : kind = 1
  · subst k1
    go_enter Try.func23, Try.ntmps23
    go_wp2_with fail
    refine H1.out.mono ?_
    rintro e w' ⟨rfl, n, rfl⟩
    go_wp2
    go_ret2
    exact ⟨rfl, below_drewN HB.out n⟩
  · by_cases k2 : kind = 2
    · subst k2
      go_enter Try.func23, Try.ntmps23
      go_wp2_with fail
      refine H2.out.mono ?_
      rintro e w' ⟨rfl, rfl⟩
      go_wp2
      go_ret2
      exact ⟨rfl, HB.out⟩
    · by_cases k3 : kind = 3
      · subst k3
        go_enter Try.func23, Try.ntmps23
        go_wp2_with fail
        refine H3.out.mono ?_
        rintro e w' ⟨rfl, rfl⟩
        go_wp2
        go_ret2
        exact ⟨rfl, HB.out⟩
      · have e1 : (kind == 1) = false := by simpa using k1
        have e2 : (kind == 2) = false := by simpa using k2
        have e3 : (kind == 3) = false := by simpa using k3
        clear k1 k2 k3
        go_enter Try.func23, Try.ntmps23
        go_wp2
        go_ret2
        exact ⟨rfl, HB.out⟩

/-- What must come. -/
theorem pawake_any (w : World) : Calls Try.prog 20 #[] w fun e w' => e = .returned (.bool true) ∧ Below w.heap.size w w' := by
  have I1 : Inv 3 0 [] := ⟨by omega, by omega, by omega, by omega, by simp, by simp⟩
  have I2 : Inv 3 1 [1] := ⟨by omega, by omega, by omega, by omega, by simp, by simp⟩
  have I3 : Inv 3 2 [2] := ⟨by omega, by omega, by omega, by omega, by simp, by simp⟩
  have I4 : Inv 3 3 [2, 3] := ⟨by omega, by omega, by omega, by omega, by simp, by simp⟩
  go_enter Try.func20, Try.ntmps20
  go_wp2_with fail
  refine (new_any _ 3 (by decide)).mono ?_
  rintro e w1 ⟨rfl, h1, t1⟩
  rw [show max 0 (min (3 : Int) 65535) = 3 by omega] at h1
  have hs : w.heap.size ≤ w.heap.size + 1 := by omega
  go_wp2_with fail
  refine (next_yes 1 1 _ _ _ 3 0 [] h1 I1 (by decide) (by decide)).mono ?_
  rintro e w2 ⟨rfl, h2, t2⟩
  go_wp2_with fail
  refine (next_yes 1 2 _ _ _ 3 1 [1] h2 I2 (by decide) (by decide)).mono ?_
  rintro e w3 ⟨rfl, h3, t3⟩
  go_wp2_with fail
  refine (free_yes _ _ _ 3 2 [1, 2] h3 1 (by decide) (by decide)).mono ?_
  rintro e w4 ⟨rfl, h4, t4⟩
  go_wp2_with fail
  refine (next_yes 1 3 _ _ _ 3 2 [2] h4 I3 (by decide) (by decide)).mono ?_
  rintro e w5 ⟨rfl, h5, t5⟩
  go_wp2_with fail
  refine (next_yes 1 1 _ _ _ 3 3 [2, 3] h5 I4 (by decide) (by decide)).mono ?_
  rintro e w6 ⟨rfl, h6, t6⟩
  go_wp2_with fail
  refine (next_full _ _ _ 3 1 [2, 3, 1] h6 (by decide)).mono ?_
  rintro e w7 ⟨rfl, n, rfl⟩
  have h7 := h6.drewN n
  go_wp2_with fail
  refine (len_any _ _ _ 3 1 [2, 3, 1] h7).mono ?_
  rintro e w8 ⟨rfl, rfl⟩
  go_wp2_with fail
  refine (is_any _ _ _ 3 1 [2, 3, 1] h7 2 (by decide)).mono ?_
  rintro e w8 ⟨rfl, rfl⟩
  go_wp2_with fail
  refine (use_no _ _ _ 3 1 [2, 3, 1] h7 4 (by decide) (by decide)).mono ?_
  rintro e w8 ⟨rfl, rfl⟩
  go_wp2_with fail
  go_ret
  refine ⟨rfl, ?_⟩
  have a2 := (Tch.of_below (S := [w.heap.size + 1, w.heap.size]) t1).trans t2
  have a3 := a2.trans t3
  have a4 := a3.trans (t4.mono (by simp))
  have a6 := ((a4.trans t5).trans t6).drewN n
  exact a6.below (Nat.le_refl _) (by simp)
end Go.Proofs.Ytapiaiobohkemaa.PidsW
