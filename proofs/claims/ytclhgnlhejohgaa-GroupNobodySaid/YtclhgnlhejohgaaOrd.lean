/- A region that draws its order: the operations that only read are taken first, in stretches; the calls come up alone, one behind the other; what is known of the world may grow behind each. Over any program. -/
import Derived.OrdersHeld
import Derived.Deep.RegionHeld
import Derived.BigQuiet
import Derived.Test.YtclhgnlhejohgaaCls
set_option linter.unusedVariables false
namespace Go.Proofs.Ytclhgnlhejohgaa.Tc
open Go

section
variable {P : Program} {ops : Array Oper} {Q : Exit → Act → World → Prop} {md : Region.Mode}

/-- Does an operation wait for another one, over some edges? -/
def reachB (md : Region.Mode) (ops : Array Oper) : Nat → Nat → Nat → Bool
  | 0, _, _ => false
  | f + 1, j, i => match ops[j]? with
    | some o => o.after.any fun e => Region.binds md e && (e.on == i || reachB md ops f e.on i)
    | none => false
/-- An operation that waits for each other one, or is waited for by it. -/
def sealedB (md : Region.Mode) (ops : Array Oper) (i : Nat) : Bool := (List.range ops.size).all fun j => j == i || reachB md ops 3 i j || reachB md ops 3 j i
/-- What came up, came behind what it waits for. -/
def Closed (md : Region.Mode) (ops : Array Oper) (listed : Array Bool) : Prop := ∀ (j : Nat) (o : Oper), ops[j]? = some o → listed.getD j false = true → ∀ e ∈ o.after, Region.binds md e = true → listed.getD e.on false = true
def closedB (md : Region.Mode) (ops : Array Oper) (listed : Array Bool) : Bool := (List.range ops.size).all fun j => !listed.getD j false || (match ops[j]? with | some o => o.after.all fun e => !Region.binds md e || listed.getD e.on false | none => true)
theorem closed_of {listed : Array Bool} (h : closedB md ops listed = true) : Closed md ops listed := by
  intro j o ho hl e he hb
  have hj : j < ops.size := (Array.getElem?_eq_some_iff.1 ho).1
  have := List.all_eq_true.1 h j (List.mem_range.2 hj)
  rw [hl, ho] at this
  simp only [Bool.not_true, Bool.false_or] at this
  obtain ⟨n, hn, rfl⟩ := Array.getElem_of_mem he
  have h2 := (Array.all_eq_true.1 this) n hn
  rw [hb] at h2
  simpa using h2
theorem closed_add {listed : Array Bool} (h : Closed md ops listed) {i : Nat} (hr : i ∈ Region.ready md ops listed) : Closed md ops (listed.setIfInBounds i true) := by
  obtain ⟨hun, oi, hoi, hall⟩ := mem_ready.1 hr
  have key : ∀ k, listed.getD k false = true → (listed.setIfInBounds i true).getD k false = true := by
    intro k hk
    by_cases e : i = k
    · subst e
      rcases Nat.lt_or_ge i listed.size with h' | h'
      · simp [h']
      · simp [Array.getElem?_eq_none h'] at hk
    · rw [getD_set_ne false e]; exact hk
  intro j o ho hl e he hb
  by_cases hij : i = j
  · subst hij
    rw [hoi] at ho
    injection ho with ho
    subst ho
    exact key _ (hall e he hb)
  · rw [getD_set_ne false hij] at hl
    exact key _ (h j o ho hl e he hb)
theorem reach_listed {listed : Array Bool} (hc : Closed md ops listed) : ∀ (f j i : Nat), (∀ o, ops[j]? = some o → ∀ e ∈ o.after, Region.binds md e = true → listed.getD e.on false = true) → reachB md ops f j i = true → listed.getD i false = true
  | 0, _, _, _, h => by simp [reachB] at h
  | f + 1, j, i, hj, h => by
    unfold reachB at h
    split at h
    · rename_i o ho
      obtain ⟨n, hn, h2⟩ := Array.any_eq_true.1 h
      simp only [Bool.and_eq_true, Bool.or_eq_true, beq_iff_eq] at h2
      have hl := hj o ho _ (Array.getElem_mem hn) h2.1
      rcases h2.2 with h3 | h3
      · rw [← h3]; exact hl
      · exact reach_listed hc f _ i (fun o' ho' e he hb => hc _ o' ho' hl e he hb) h3
    · cases h
theorem sealed_alone {listed : Array Bool} (hc : Closed md ops listed) {i j : Nat} (hs : sealedB md ops i = true) (hi : i ∈ Region.ready md ops listed) (hj : j ∈ Region.ready md ops listed) : j = i := by
  obtain ⟨hiu, oi, hoi, hia⟩ := mem_ready.1 hi
  obtain ⟨hju, oj, hoj, hja⟩ := mem_ready.1 hj
  have hlt : j < ops.size := (Array.getElem?_eq_some_iff.1 hoj).1
  have h := List.all_eq_true.1 hs j (List.mem_range.2 hlt)
  simp only [Bool.or_eq_true, beq_iff_eq] at h
  have no : ∀ k, listed.getD k true = false → listed.getD k false = true → False := by
    intro k h1 h2
    rcases Nat.lt_or_ge k listed.size with h' | h'
    · simp [h'] at h1 h2; rw [h1] at h2; cases h2
    · simp [Array.getElem?_eq_none h'] at h2
  rcases h with (h | h) | h
  · exact h
  · exact (no j hju (reach_listed hc 3 i j (fun o ho e he hb => by rw [hoi] at ho; injection ho with ho; subst ho; exact hia e he hb) h)).elim
  · exact (no i hiu (reach_listed hc 3 j i (fun o ho e he hb => by rw [hoj] at ho; injection ho with ho; subst ho; exact hja e he hb) h)).elim

/-- Whatever order is picked from here on; behind each operation a condition holds that says no less; behind one that is sealed, any condition. -/
def wpAnyG (P : Program) (md : Region.Mode) (ops : Array Oper) (Q : Exit → Act → World → Prop) : Nat → (World → Prop) → Array Bool → Act → World → Prop
  | 0, _, listed, a, w => Region.ready md ops listed = [] ∧ Q .normal a w
  | fuel + 1, S, listed, a, w =>
    (Region.ready md ops listed = [] → Q .normal a w) ∧
    ∀ i ∈ Region.ready md ops listed, wpOp P ops Q i (fun a' w' => ∃ S' : World → Prop, (sealedB md ops i = true ∨ ∀ u, S' u → S u) ∧ S' w' ∧ wpAnyG P md ops Q fuel S' (listed.setIfInBounds i true) a' w') a w

theorem wpAny_of_G : ∀ (fuel : Nat) (S : World → Prop) (listed : Array Bool) (a : Act) (w : World), wpAnyG P md ops Q fuel S listed a w → wpAny P md ops Q fuel listed a w
  | 0, _, _, _, _, h => h
  | fuel + 1, _, _, _, _, h => ⟨h.1, fun i hi => wpOp_mono (fun a' w' ⟨S', _, _, h'⟩ => wpAny_of_G fuel S' _ a' w' h') (h.2 i hi)⟩

theorem yieldsIf_sub {S S' : World → Prop} {o : Oper} {v : Value} {a : Act} (hs : ∀ u, S' u → S u) (h : YieldsIf P ops S o v a) : YieldsIf P ops S' o v a :=
  h.imp (fun ⟨h1, h2⟩ => ⟨h1, fun w hw => h2 w (hs w hw)⟩) id

theorem wpAnyG_first {i : Nat} {oi : Oper} {v : Value} (hi : ops[i]? = some oi) (hsel : ∀ (j : Nat) (o : Oper) cs b, ops[j]? = some o → o.op ≠ .select cs b)
    (hQ : ∀ c a w, Q (.panic c) (a.put oi.dst v) w → Q (.panic c) a w) :
    ∀ (fuel : Nat) (S : World → Prop) (listed : Array Bool) (a : Act) (w : World),
      (∀ j oj, ops[j]? = some oj → j ≠ i → listed.getD j true = false → (∀ e ∈ oj.after, Region.binds md e = true → e.on ≠ i) → oi.apart ops oj = true) →
      Closed md ops listed → i ∈ Region.ready md ops listed → YieldsIf P ops S oi v a → S w →
      wpAnyG P md ops Q fuel S (listed.setIfInBounds i true) (a.put oi.dst v) w → wpAnyG P md ops Q (fuel + 1) S listed a w := by
  intro fuel
  induction fuel with
  | zero =>
    intro S listed a w _ hcl hr hy hS H
    refine ⟨fun h => (by rw [h] at hr; cases hr), fun j hj => ?_⟩
    by_cases hji : j = i
    · subst hji; exact hy.wpOp hi hS ⟨S, .inr fun _ h => h, hS, H⟩
    · have := ready_mono hj hji
      rw [H.1] at this
      cases this
  | succ fuel ih =>
    intro S listed a w hfree hcl hr hy hS H
    refine ⟨fun h => (by rw [h] at hr; cases hr), fun j hj => ?_⟩
    by_cases hji : j = i
    · subst hji; exact hy.wpOp hi hS ⟨S, .inr fun _ h => h, hS, H⟩
    · have h1 := H.2 j (ready_mono hj hji)
      obtain ⟨hjun, oj, hoj, hall⟩ := mem_ready.1 hj
      have hnot : ∀ e ∈ oj.after, Region.binds md e = true → e.on ≠ i := fun e he hb heq => by
        have h1 := hall e he hb
        have h0 := (mem_ready.1 hr).1
        rw [heq] at h1
        rcases Nat.lt_or_ge i listed.size with h' | h'
        · simp [h'] at h0 h1; rw [h0] at h1; cases h1
        · simp [Array.getElem?_eq_none h'] at h1
      have h2 := wpOp_putIf hoj (hfree j oj hoj hji hjun hnot) (fun cs b => hsel i oi cs b hi) (fun cs b => hsel j oj cs b hoj) hQ hy h1
      have hfree' : ∀ k ok, ops[k]? = some ok → k ≠ i → (listed.setIfInBounds j true).getD k true = false →
          (∀ e ∈ ok.after, Region.binds md e = true → e.on ≠ i) → oi.apart ops ok = true := fun k ok hk hki hun hno => by
        refine hfree k ok hk hki ?_ hno
        by_cases hjk : j = k
        · subst hjk; exact hjun
        · rw [getD_set_ne true hjk] at hun; exact hun
      refine wpOp_mono (fun a' w' h3 => ?_) h2
      obtain ⟨hy', S', hsub, hS', h4⟩ := h3
      have hsub : ∀ u, S' u → S u := hsub.resolve_left (fun hse => hji (sealed_alone hcl hse hj hr).symm)
      refine ⟨S', .inr hsub, hS', ih S' (listed.setIfInBounds j true) a' w' hfree' (closed_add hcl hj) (ready_mono hr (Ne.symm hji)) (yieldsIf_sub hsub hy') hS' ?_⟩
      rw [Array.setIfInBounds_comm _ _ hji]
      exact h4

/-- Operations that yield a value, or nothing at all. -/
def plainOp : Op → Bool
  | .move _ | .assign _ | .pick .. | .load .. | .binOp .. | .unOp .. | .convert .. | .makeInterface .. | .makeFunc .. | .slice .. | .fieldAddr .. | .field .. | .indexAddr .. | .index .. | .lookup .. | .extract .. | .typeAssert .. | .nilCheck _ | .build .. => true
  | .call c => match c.callee with
    | .builtin .len | .builtin .cap | .builtin .max | .builtin .min => true
    | _ => false
  | _ => false
theorem value_of_quiet {s : Sem Value} {C : World → Prop} {w : World} {v : Value} (h : Oper.quietUpon P C w v ((do pure (Next.value (← s)) : Sem Next).run P w)) : (do pure (Next.value (← s)) : Sem Next).run P w = .ok (.value v) w := by
  simp only [Sem.run_bind, Sem.run_pure] at h ⊢
  generalize s.run P w = r at *
  cases r with
  | ok u w' =>
    simp only [Result.andThen_ok, Oper.quietUpon] at h ⊢
    obtain ⟨rfl, rfl⟩ := h
    rfl
  | halt x w' => simp [Result.andThen, Oper.quietUpon] at h
theorem plain_value {o : Oper} {a : Act} {C : World → Prop} {w : World} {v : Value} (hp : plainOp o.op = true) (h : o.quietAt P a C w v) : (execOp a.eval o).run P w = .ok (.value v) w := by
  unfold Oper.quietAt at h
  unfold execOp at h ⊢
  cases ho : o.op <;> rw [ho] at hp h <;> simp only [plainOp] at hp <;> try (cases hp)
  all_goals try exact value_of_quiet h
  all_goals try (simp only [Sem.run_pure, Oper.quietUpon] at h ⊢; obtain ⟨-, rfl⟩ := h; rfl)
  case pick c x y =>
    simp only [Sem.run_bind, Sem.run_pure] at h ⊢
    generalize (asBool (a.eval c)).run P w = r at *
    cases r with
    | ok u w' =>
      simp only [Result.andThen_ok, Oper.quietUpon] at h ⊢
      obtain ⟨rfl, rfl⟩ := h
      rfl
    | halt x w' => simp [Result.andThen, Oper.quietUpon] at h
  case call c =>
    revert hp h
    rcases c with ⟨cal, args, ats⟩
    simp only
    cases cal with
    | builtin b =>
      cases b <;> intro h hp <;> simp only at hp <;> try (cases hp)
      all_goals
        simp only [resolve, Sem.run_bind, Sem.run_pure, Result.andThen_ok, invoke, builtin] at h ⊢
        simpa only [Sem.run_bind, Sem.run_pure] using value_of_quiet (P := P) (C := C) (w := w) (v := v) (by simpa only [Sem.run_bind, Sem.run_pure] using h)
    | invoke r n => intro _ hp; cases hp
    | value f => intro _ hp; cases hp
  case nilCheck x =>
    revert h
    dsimp only
    split
    · intro h; simp [runtimePanic, Oper.quietUpon] at h
    · intro h; simp [runtimePanic, Oper.quietUpon] at h
    · intro h; simp [runtimePanic, Oper.quietUpon] at h
    · split
      · intro h; simp [runtimePanic, Oper.quietUpon] at h
      · intro h
        simp only [Sem.run_bind] at h ⊢
        generalize Sem.run P program w = r at *
        cases r with
        | halt y w' => simp [Result.andThen, Oper.quietUpon] at h
        | ok p w' =>
          simp only [Result.andThen_ok] at h ⊢
          generalize Sem.run P (nilAhead _ _ _ _) w' = r at *
          cases r with
          | halt y w' => simp [Result.andThen, Oper.quietUpon] at h
          | ok q w' =>
            simp only [Result.andThen_ok] at h ⊢
            split at h
            · simp [unsupported, Result.andThen, Oper.quietUpon] at h
            · rename_i hq
              rw [if_neg hq]
              simp only [Sem.run_pure, Oper.quietUpon] at h ⊢
              obtain ⟨rfl, rfl⟩ := h
              rfl
      · intro h; simp only [Sem.run_pure, Oper.quietUpon] at h ⊢; obtain ⟨-, rfl⟩ := h; rfl
    · intro h; simp only [Sem.run_pure, Oper.quietUpon] at h ⊢; obtain ⟨-, rfl⟩ := h; rfl
/-- The class of worlds that meet S. -/
abbrev In (S : World → Prop) : World → Prop := fun w' => ∃ n : Wd S, w' = n.w
def markL (listed : Array Bool) : List Nat → Array Bool
  | [] => listed
  | i :: r => markL (listed.setIfInBounds i true) r
def segB (md : Region.Mode) (ops : Array Oper) (listed : Array Bool) : List Nat → Bool
  | [] => true
  | i :: r => (Region.ready md ops listed).contains i && Region.free md ops listed i && (match ops[i]? with | some o => plainOp o.op | none => false) && segB md ops (listed.setIfInBounds i true) r
def nthL {α : Type} : List α → Nat → Option α
  | [], _ => none
  | x :: _, 0 => some x
  | _ :: l, n + 1 => nthL l n
theorem nthL_eq {α : Type} : ∀ (l : List α) (n : Nat), nthL l n = l[n]?
  | [], _ => by simp [nthL]
  | x :: _, 0 => by simp [nthL]
  | _ :: l, n + 1 => by simpa [nthL] using nthL_eq l n
def pickL (ops : List Oper) : List Nat → Option (List Oper)
  | [] => some []
  | i :: r => match nthL ops i, pickL ops r with
    | some o, some l => some (o :: l)
    | _, _ => none
theorem wpAnyG_seg_aux {S : World → Prop} (hs : Region.noSelect ops = true) (hQ : ∀ c a d v w, Q (.panic c) (a.put d v) w → Q (.panic c) a w) {fuel : Nat} : ∀ (seg : List Nat) (l : List Oper) (listed : Array Bool) (a : Act) (w : World), pickL ops.toList seg = some l →
    Closed md ops listed → segB md ops listed seg = true → S w → wpQuiet P ops (In S) (fun a' => wpAnyG P md ops Q fuel S (markL listed seg) a' w) l a → wpAnyG P md ops Q (fuel + seg.length) S listed a w
  | [], l, listed, a, w, hl, _, _, _, h => by
    simp only [pickL, Option.some.injEq] at hl
    subst hl
    exact h
  | i :: r, l, listed, a, w, hl, hcl, hB, hS, h => by
    simp only [segB, Bool.and_eq_true] at hB
    obtain ⟨⟨⟨h1, h2⟩, h3⟩, h4⟩ := hB
    simp only [pickL] at hl
    split at hl
    · rename_i o l' ho hl'
      rw [nthL_eq, Array.getElem?_toList] at ho
      injection hl with hl
      subst hl
      rw [ho] at h3
      simp only at h3
      have key : ∃ v, YieldsIf P ops S o v a ∧ wpQuiet P ops (In S) (fun a' => wpAnyG P md ops Q fuel S (markL listed (i :: r)) a' w) l' (a.put o.dst v) := by
        unfold wpQuiet at h
        split at h
        · rename_i hw
          obtain ⟨v, hv, hn⟩ := h
          exact ⟨v, .inl ⟨hw, fun w hw => plain_value h3 (hv w ⟨⟨w, hw⟩, rfl⟩)⟩, hn⟩
        · rename_i hw
          exact ⟨undef, .inr ⟨by simpa using hw, rfl⟩, h⟩
      obtain ⟨v, hy, hn⟩ := key
      exact wpAnyG_first ho (Region.noSelect_spec hs) (fun c a w h => hQ c a _ _ w h) (fuel + r.length) S listed a w (Region.free_spec ho h2) hcl (by simpa using h1) hy hS
        (wpAnyG_seg_aux hs hQ r l' _ _ w hl' (closed_add hcl (by simpa using h1)) h4 hS hn)
    · cases hl
/-- A stretch of operations that only read. -/
theorem wpAnyG_seg {S : World → Prop} {fuel n : Nat} {listed : Array Bool} {a : Act} {w : World} (seg : List Nat) {l : List Oper} (hn : n = fuel + seg.length) (hl : pickL ops.toList seg = some l) (hB : (Region.noSelect ops && (closedB md ops listed && segB md ops listed seg)) = true)
    (hQ : ∀ c a d v w, Q (.panic c) (a.put d v) w → Q (.panic c) a w) (hS : S w) (h : wpQuiet P ops (In S) (fun a' => wpAnyG P md ops Q fuel S (markL listed seg) a' w) l a) : wpAnyG P md ops Q n S listed a w := by
  subst hn
  rw [Bool.and_eq_true, Bool.and_eq_true] at hB
  exact wpAnyG_seg_aux hB.1 hQ seg l listed a w hl (closed_of hB.2.1) hB.2.2 hS h
/-- An operation that comes up alone. -/
theorem wpAnyG_alone {S : World → Prop} {fuel : Nat} {listed : Array Bool} {a : Act} {w : World} (i : Nat) {o : Oper} (hr : Region.ready md ops listed = [i]) (ho' : nthL ops.toList i = some o) (hS : S w)
    (h : ∀ K' : Act → World → Prop, Shut (∀ (S' : World → Prop) (a : Act) (w : World), (∀ u, S' u → S u) → S' w → (S' w → wpAnyG P md ops Q fuel S' (markL listed [i]) a w) → K' a w) →
      if Region.wanted o (yielded ops a.tmps) = true then Oper.wp P o a w K' Q else K' (a.put o.dst undef) w) : wpAnyG P md ops Q (fuel + 1) S listed a w := by
  have ho : ops[i]? = some o := by rw [nthL_eq, Array.getElem?_toList] at ho'; exact ho'
  refine ⟨fun h0 => absurd (hr ▸ h0) (by simp), hr ▸ ?_⟩
  intro j hj
  rw [List.mem_singleton] at hj
  subst hj
  exact wpOp_step ho (fun K' hK => h K' (fun S' a w hsub hS' hW => hK a w ⟨S', .inr hsub, hS', hW hS'⟩))
/-- Two operations come up: either may be first. -/
theorem wpAnyG_two {S : World → Prop} {fuel : Nat} {listed : Array Bool} {a : Act} {w : World} (i j : Nat) {oi oj : Oper} (hr : Region.ready md ops listed = [i, j]) (hoi' : nthL ops.toList i = some oi) (hoj' : nthL ops.toList j = some oj)
    (h1 : ∀ K' : Act → World → Prop, Shut (∀ (S' : World → Prop) (a : Act) (w : World), (∀ u, S' u → S u) → S' w → (S' w → wpAnyG P md ops Q fuel S' (markL listed [i]) a w) → K' a w) →
      if Region.wanted oi (yielded ops a.tmps) = true then Oper.wp P oi a w K' Q else K' (a.put oi.dst undef) w)
    (h2 : ∀ K' : Act → World → Prop, Shut (∀ (S' : World → Prop) (a : Act) (w : World), (∀ u, S' u → S u) → S' w → (S' w → wpAnyG P md ops Q fuel S' (markL listed [j]) a w) → K' a w) →
      if Region.wanted oj (yielded ops a.tmps) = true then Oper.wp P oj a w K' Q else K' (a.put oj.dst undef) w) : wpAnyG P md ops Q (fuel + 1) S listed a w := by
  have hoi : ops[i]? = some oi := by rw [nthL_eq, Array.getElem?_toList] at hoi'; exact hoi'
  have hoj : ops[j]? = some oj := by rw [nthL_eq, Array.getElem?_toList] at hoj'; exact hoj'
  refine ⟨fun h0 => absurd (hr ▸ h0) (by simp), hr ▸ ?_⟩
  intro k hk
  rw [List.mem_cons, List.mem_singleton] at hk
  rcases hk with rfl | rfl
  · exact wpOp_step hoi (fun K' hK => h1 K' (fun S' a w hsub hS' hW => hK a w ⟨S', .inr hsub, hS', hW hS'⟩))
  · exact wpOp_step hoj (fun K' hK => h2 K' (fun S' a w hsub hS' hW => hK a w ⟨S', .inr hsub, hS', hW hS'⟩))
/-- An operation that is sealed: what is known behind it is chosen anew. -/
theorem wpAnyG_sealed {S : World → Prop} {fuel : Nat} {listed : Array Bool} {a : Act} {w : World} (i : Nat) {o : Oper} (hr : Region.ready md ops listed = [i]) (hse : sealedB md ops i = true) (ho' : nthL ops.toList i = some o)
    (h : ∀ K' : Act → World → Prop, Shut (∀ (S' : World → Prop) (a : Act) (w : World), S' w → (S' w → wpAnyG P md ops Q fuel S' (markL listed [i]) a w) → K' a w) →
      if Region.wanted o (yielded ops a.tmps) = true then Oper.wp P o a w K' Q else K' (a.put o.dst undef) w) : wpAnyG P md ops Q (fuel + 1) S listed a w := by
  have ho : ops[i]? = some o := by rw [nthL_eq, Array.getElem?_toList] at ho'; exact ho'
  refine ⟨fun h0 => absurd (hr ▸ h0) (by simp), hr ▸ ?_⟩
  intro j hj
  rw [List.mem_singleton] at hj
  subst hj
  exact wpOp_step ho (fun K' hK => h K' (fun S' a w hS' hW => hK a w ⟨S', .inl hse, hS', hW hS'⟩))
theorem wpAnyG_end {S : World → Prop} {listed : Array Bool} {a : Act} {w : World} (hr : Region.ready md ops listed = []) (h : Q .normal a w) : wpAnyG P md ops Q 0 S listed a w := ⟨hr, h⟩
/-- The beginning. -/
theorem wp_region_G {id n : Nat} {a : Act} {w : World} (S : World → Prop) (hn : ops.size = n) (hm : P.follows .mixedOrders = true) (hS : S w.drew)
    (h : S w.drew → wpAnyG P .any ops Q n S (Array.replicate n false) a w.drew) : (Code.region id ops true).wp P Q a w := by
  subst hn
  exact wp_region_any hm (wpAny_of_G _ S _ _ _ (h hS))
end
end Go.Proofs.Ytclhgnlhejohgaa.Tc
