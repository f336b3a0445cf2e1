/- Members of a group: the plain part. -/
set_option linter.unusedVariables false
set_option linter.unusedSimpArgs false
namespace Go.Proofs.Ytclhgnlhejohgaa.MemP

structure Mem where
  client : ByteArray
  since : Int
  qos : Int
  online : Bool
def find (l : List Mem) (c : ByteArray) : Option Nat := l.findIdx? fun x => decide (x.client = c)
theorem find_some {l : List Mem} {c : ByteArray} {i : Nat} (h : find l c = some i) : ∃ x, l[i]? = some x ∧ x.client = c ∧ i < l.length := by
  obtain ⟨hi, h1, _⟩ := List.findIdx?_eq_some_iff_getElem.1 h
  exact ⟨l[i], List.getElem?_eq_getElem hi, by simpa using h1, hi⟩
theorem find_none {l : List Mem} {c : ByteArray} (h : find l c = none) : ∀ x ∈ l, x.client ≠ c := by
  intro x hx
  have := List.findIdx?_eq_none_iff.1 h x hx
  simpa using this
theorem find_at {l : List Mem} {c : ByteArray} {i : Nat} {x : Mem} (hx : l[i]? = some x) (hc : x.client = c) (h0 : ∀ (j : Nat) (y : Mem), j < i → l[j]? = some y → y.client ≠ c) : find l c = some i := by
  have hi := (List.getElem?_eq_some_iff.1 hx).1
  unfold find
  rw [List.findIdx?_eq_some_iff_getElem]
  refine ⟨hi, ?_, fun j hj => ?_⟩
  · have := (List.getElem?_eq_some_iff.1 hx).2
    rw [this]; simp [hc]
  · have := h0 j l[j] hj (List.getElem?_eq_getElem (by omega))
    simpa using this
theorem find_no {l : List Mem} {c : ByteArray} (h0 : ∀ (j : Nat) (y : Mem), l[j]? = some y → y.client ≠ c) : find l c = none := by
  unfold find
  rw [List.findIdx?_eq_none_iff]
  intro x hx
  obtain ⟨j, hj, rfl⟩ := List.getElem_of_mem hx
  have := h0 j _ (List.getElem?_eq_getElem hj)
  simpa using this
/-- Each act: what it answers and leaves. -/
def act (l : List Mem) (gen : Int) (kind : Int) (c : ByteArray) (q : Int) : Bool × List Mem × Int :=
  if kind = 1 then match find l c with
    | some i => (false, (match l[i]? with | some x => l.set i { x with qos := q } | none => l), gen)
    | none => (true, l ++ [⟨c, gen + 1, q, true⟩], gen + 1)
  else if kind = 2 then match find l c with
    | some i => (true, l.eraseIdx i, gen + 1)
    | none => (false, l, gen)
  else if kind = 3 ∨ kind = 4 then match find l c with
    | some i => (match l[i]? with | some x => if x.online = decide (kind = 3) then (false, l, gen) else (true, l.set i { x with online := decide (kind = 3) }, gen + 1) | none => (false, l, gen))
    | none => (false, l, gen)
  else (false, l, gen)
/-- No client twice; each joined later than the one ahead; none later than now. -/
structure Inv (l : List Mem) (gen : Int) : Prop where
  dist : ∀ (i j : Nat) (x y : Mem), l[i]? = some x → l[j]? = some y → x.client = y.client → i = j
  sort : ∀ (i j : Nat) (x y : Mem), l[i]? = some x → l[j]? = some y → i < j → x.since < y.since
  top : ∀ (i : Nat) (x : Mem), l[i]? = some x → x.since ≤ gen
theorem Inv.nil : Inv [] 0 := ⟨by simp, by simp, by simp⟩
theorem Inv.set {l : List Mem} {gen : Int} (h : Inv l gen) {i : Nat} {x y : Mem} (hx : l[i]? = some x) (h1 : y.client = x.client) (h2 : y.since = x.since) (g : Int) (hg : gen ≤ g) : Inv (l.set i y) g := by
  have key : ∀ (k : Nat) (z : Mem), (l.set i y)[k]? = some z → ∃ z', l[k]? = some z' ∧ z'.client = z.client ∧ z'.since = z.since := by
    intro k z hz
    rw [List.getElem?_set] at hz
    split at hz
    · rename_i e
      subst e
      split at hz
      · injection hz with hz; subst hz; exact ⟨x, hx, h1.symm, h2.symm⟩
      · cases hz
    · exact ⟨z, hz, rfl, rfl⟩
  refine ⟨fun a b u v hu hv e => ?_, fun a b u v hu hv e => ?_, fun a u hu => ?_⟩
  · obtain ⟨u', hu', e1, _⟩ := key a u hu
    obtain ⟨v', hv', e2, _⟩ := key b v hv
    exact h.dist a b u' v' hu' hv' (by rw [e1, e2, e])
  · obtain ⟨u', hu', _, e1⟩ := key a u hu
    obtain ⟨v', hv', _, e2⟩ := key b v hv
    rw [← e1, ← e2]
    exact h.sort a b u' v' hu' hv' e
  · obtain ⟨u', hu', _, e1⟩ := key a u hu
    have := h.top a u' hu'
    omega
theorem Inv.erase {l : List Mem} {gen : Int} (h : Inv l gen) (i : Nat) : Inv (l.eraseIdx i) (gen + 1) := by
  have key : ∀ (k : Nat) (z : Mem), (l.eraseIdx i)[k]? = some z → l[if k < i then k else k + 1]? = some z := by
    intro k z hz
    rw [List.getElem?_eraseIdx] at hz
    split at hz
    · rename_i e; rw [if_pos e]; exact hz
    · rename_i e; rw [if_neg e]; exact hz
  refine ⟨fun a b u v hu hv e => ?_, fun a b u v hu hv e => ?_, fun a u hu => ?_⟩
  · have := h.dist _ _ u v (key a u hu) (key b v hv) e
    split at this <;> split at this <;> omega
  · exact h.sort _ _ u v (key a u hu) (key b v hv) (by split <;> split <;> omega)
  · have := h.top _ u (key a u hu); omega
theorem Inv.snoc {l : List Mem} {gen : Int} (h : Inv l gen) {c : ByteArray} (hc : ∀ x ∈ l, x.client ≠ c) (q : Int) (o : Bool) : Inv (l ++ [⟨c, gen + 1, q, o⟩]) (gen + 1) := by
  have key : ∀ (k : Nat) (z : Mem), (l ++ [⟨c, gen + 1, q, o⟩])[k]? = some z → (k < l.length ∧ l[k]? = some z) ∨ (k = l.length ∧ z = ⟨c, gen + 1, q, o⟩) := by
    intro k z hz
    by_cases hk : k < l.length
    · rw [List.getElem?_append_left hk] at hz; exact .inl ⟨hk, hz⟩
    · rw [List.getElem?_append_right (by omega)] at hz
      right
      by_cases e : k = l.length
      · subst e; simp at hz; exact ⟨rfl, hz.symm⟩
      · rw [List.getElem?_eq_none (by simp; omega)] at hz; cases hz
  refine ⟨fun a b u v hu hv e => ?_, fun a b u v hu hv e => ?_, fun a u hu => ?_⟩
  · rcases key a u hu with ⟨ha, hu'⟩ | ⟨ha, rfl⟩ <;> rcases key b v hv with ⟨hb, hv'⟩ | ⟨hb, rfl⟩
    · exact h.dist a b u v hu' hv' e
    · exact absurd e (hc u (List.mem_of_getElem? hu'))
    · exact absurd e.symm (hc v (List.mem_of_getElem? hv'))
    · omega
  · rcases key a u hu with ⟨ha, hu'⟩ | ⟨ha, rfl⟩ <;> rcases key b v hv with ⟨hb, hv'⟩ | ⟨hb, rfl⟩
    · exact h.sort a b u v hu' hv' e
    · have := h.top a u hu'
      show u.since < gen + 1
      omega
    · omega
    · omega
  · rcases key a u hu with ⟨ha, hu'⟩ | ⟨ha, rfl⟩
    · have := h.top a u hu'; omega
    · exact Int.le_refl _
theorem Inv.mono {l : List Mem} {gen g : Int} (h : Inv l gen) (hg : gen ≤ g) : Inv l g := ⟨h.dist, h.sort, fun i x hx => by have := h.top i x hx; omega⟩
theorem act_inv {l : List Mem} {gen : Int} (h : Inv l gen) (kind : Int) (c : ByteArray) (q : Int) : Inv (act l gen kind c q).2.1 (act l gen kind c q).2.2 := by
  unfold act
  split
  · cases hf : find l c with
    | none => exact h.snoc (find_none hf) q true
    | some i =>
      obtain ⟨x, hx, _, _⟩ := find_some hf
      simp only [hx]
      exact h.set (y := { x with qos := q }) hx rfl rfl _ (Int.le_refl _)
  · split
    · cases hf : find l c with
      | none => exact h
      | some i => exact h.erase i
    · split
      · cases hf : find l c with
        | none => exact h
        | some i =>
          obtain ⟨x, hx, _, _⟩ := find_some hf
          simp only [hx]
          split
          · exact h
          · exact h.set (y := { x with online := decide (kind = 3) }) hx rfl rfl (gen + 1) (by omega)
      · exact h
theorem act_gen (l : List Mem) (gen : Int) (kind : Int) (c : ByteArray) (q : Int) : (act l gen kind c q).2.2 = gen + (if (act l gen kind c q).1 = true then 1 else 0) := by
  unfold act
  split
  · cases find l c <;> simp
  · split
    · cases find l c <;> simp
    · split
      · cases hf : find l c with
        | none => simp
        | some i =>
          obtain ⟨x, hx, _, _⟩ := find_some hf
          simp only [hx]
          split <;> simp
      · simp
theorem act_len (l : List Mem) (gen : Int) (kind : Int) (c : ByteArray) (q : Int) : (act l gen kind c q).2.1.length ≤ l.length + 1 := by
  unfold act
  split
  · cases hf : find l c with
    | none => simp
    | some i =>
      obtain ⟨x, hx, _, _⟩ := find_some hf
      simp [hx]
  · split
    · cases hf : find l c with
      | none => simp
      | some i => simp [List.length_eraseIdx]; split <;> omega
    · split
      · cases hf : find l c with
        | none => simp
        | some i =>
          obtain ⟨x, hx, _, _⟩ := find_some hf
          simp only [hx]
          split <;> simp
      · simp
def here (l : List Mem) : List ByteArray := (l.filter fun x => x.online).map Mem.client
def owner (l : List Mem) : ByteArray := (here l).headD ByteArray.empty
def get (l : List Mem) (c : ByteArray) : Option Mem := (find l c).bind fun i => l[i]?
end Go.Proofs.Ytclhgnlhejohgaa.MemP
