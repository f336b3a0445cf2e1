/- The reference's act on a list: the plain part. -/
import Derived.Test.YtclhgnlhejohgaaMemPure
set_option linter.unusedVariables false
set_option linter.unusedSimpArgs false
namespace Go.Proofs.Ytclhgnlhejohgaa.MemP
/-- What becomes of a member. -/
def mod (kind : Int) (c : ByteArray) (q : Int) (x : Mem) : Option Mem :=
  if x.client ≠ c then some x
  else if kind = 1 then some { x with qos := q }
  else if kind = 2 then none
  else if kind = 3 ∨ kind = 4 then some { x with online := decide (kind = 3) }
  else some x
def rl (kind : Int) (c : ByteArray) (q : Int) (l : List Mem) : List Mem := l.filterMap (mod kind c q)
def ris (c : ByteArray) (l : List Mem) : Bool := l.any fun x => decide (x.client = c)
def hit (kind : Int) (c : ByteArray) (x : Mem) : Bool := decide (x.client = c) && (decide (kind = 2) || (decide (kind = 3 ∨ kind = 4) && (x.online != decide (kind = 3))))
def rch (kind : Int) (c : ByteArray) (l : List Mem) : Bool := l.any (hit kind c)
/-- The reference's answer and state behind an act. -/
def ract (l : List Mem) (gen : Int) (kind : Int) (c : ByteArray) (q : Int) : Bool × List Mem × Int :=
  if kind = 1 ∧ ris c l = false then (true, rl kind c q l ++ [⟨c, gen + 1, q, true⟩], gen + 1)
  else (rch kind c l, rl kind c q l, if rch kind c l = true then gen + 1 else gen)
theorem rl_none {kind : Int} {c : ByteArray} {q : Int} {l : List Mem} (h : ∀ x ∈ l, x.client ≠ c) : rl kind c q l = l := by
  induction l with
  | nil => rfl
  | cons a l ih =>
    unfold rl at ih ⊢
    rw [List.filterMap_cons]
    have : mod kind c q a = some a := by unfold mod; rw [if_pos (h a (by simp))]
    rw [this]
    simp only
    rw [ih (fun x hx => h x (by simp [hx]))]
theorem ris_none {c : ByteArray} {l : List Mem} (h : ∀ x ∈ l, x.client ≠ c) : ris c l = false := by
  unfold ris
  rw [List.any_eq_false]
  intro x hx
  simpa using h x hx
theorem rch_none {kind : Int} {c : ByteArray} {l : List Mem} (h : ∀ x ∈ l, x.client ≠ c) : rch kind c l = false := by
  unfold rch
  rw [List.any_eq_false]
  intro x hx
  simp [hit, h x hx]
theorem split_at {l : List Mem} {gen : Int} (h : Inv l gen) {i : Nat} {x : Mem} (hx : l[i]? = some x) : l = l.take i ++ x :: l.drop (i + 1) ∧ (∀ y ∈ l.take i, y.client ≠ x.client) ∧ (∀ y ∈ l.drop (i + 1), y.client ≠ x.client) := by
  obtain ⟨hi, hxi⟩ := List.getElem?_eq_some_iff.1 hx
  refine ⟨?_, ?_, ?_⟩
  · rw [← hxi, ← List.drop_eq_getElem_cons hi, List.take_append_drop]
  · intro y hy e
    obtain ⟨j, hj, rfl⟩ := List.getElem_of_mem hy
    rw [List.length_take] at hj
    have hy2 : l[j]? = some (l.take i)[j] := by rw [List.getElem_take]; exact List.getElem?_eq_getElem (by omega)
    have := h.dist j i _ x hy2 hx e
    omega
  · intro y hy e
    obtain ⟨j, hj, rfl⟩ := List.getElem_of_mem hy
    rw [List.length_drop] at hj
    have hy2 : l[i + 1 + j]? = some (l.drop (i + 1))[j] := by rw [List.getElem_drop]; exact List.getElem?_eq_getElem (by omega)
    have := h.dist (i + 1 + j) i _ x hy2 hx e
    omega
theorem ract_act {l : List Mem} {gen : Int} (h : Inv l gen) (kind : Int) (c : ByteArray) (q : Int) : ract l gen kind c q = act l gen kind c q := by
  cases hf : find l c with
  | none =>
    have hn := find_none hf
    unfold ract act
    rw [rl_none hn, ris_none hn, rch_none hn, hf]
    by_cases h1 : kind = 1
    · simp [h1]
    · by_cases h2 : kind = 2
      · simp [h1, h2]
      · by_cases h3 : kind = 3 ∨ kind = 4
        · simp [h1, h2, h3]
        · simp [h1, h2, h3]
  | some i =>
    obtain ⟨x, hx, hc, hi⟩ := find_some hf
    subst hc
    obtain ⟨hs, hb, ha⟩ := split_at h hx
    have hris : ris x.client l = true := by
      unfold ris; rw [List.any_eq_true]
      exact ⟨x, List.mem_of_getElem? hx, by simp⟩
    have hrch : rch kind x.client l = hit kind x.client x := by
      rw [hs]
      unfold rch
      rw [List.any_append, List.any_cons]
      have h1 := rch_none (kind := kind) hb
      have h2 := rch_none (kind := kind) ha
      unfold rch at h1 h2
      rw [h1, h2]
      simp
    have hrl : rl kind x.client q l = l.take i ++ ((mod kind x.client q x).toList ++ l.drop (i + 1)) := by
      have h1 := rl_none (kind := kind) (q := q) hb
      have h2 := rl_none (kind := kind) (q := q) ha
      conv => lhs; rw [hs]
      unfold rl at h1 h2 ⊢
      rw [List.filterMap_append, List.filterMap_cons, h1, h2]
      cases mod kind x.client q x <;> rfl
    have hset : ∀ y : Mem, l.set i y = l.take i ++ y :: l.drop (i + 1) := fun y => List.set_eq_take_append_cons_drop .. |>.trans (by rw [if_pos hi])
    unfold ract act
    rw [hris, hrch, hrl, hf]
    simp only [hx, hset, List.eraseIdx_eq_take_drop_succ]
    by_cases h1 : kind = 1
    · subst h1; simp [hit, mod]
    · by_cases h2 : kind = 2
      · subst h2; simp [hit, mod]
      · by_cases h3 : kind = 3 ∨ kind = 4
        · have hm : mod kind x.client q x = some { x with online := decide (kind = 3) } := by unfold mod; rw [if_neg (by simp), if_neg h1, if_neg h2, if_pos h3]
          have hh : hit kind x.client x = (x.online != decide (kind = 3)) := by simp [hit, h2, h3]
          rw [hm, hh, if_neg (by simp [h1]), if_neg h1, if_neg h2, if_pos h3]
          by_cases e : x.online = decide (kind = 3)
          · rw [if_pos e]
            have e2 : (x.online != decide (kind = 3)) = false := by rw [e]; simp
            rw [e2]
            have e3 : ({ x with online := decide (kind = 3) } : Mem) = x := by rw [← e]
            rw [e3]
            simp only [Option.toList_some, List.singleton_append, Bool.false_eq_true, if_false]
            rw [← hs]
          · rw [if_neg e]
            have e2 : (x.online != decide (kind = 3)) = true := by simpa using e
            rw [e2]
            simp
        · have hm : mod kind x.client q x = some x := by unfold mod; rw [if_neg (by simp), if_neg h1, if_neg h2, if_neg h3]
          have hh : hit kind x.client x = false := by simp [hit, h2, h3]
          rw [hm, hh, if_neg (by simp [h1]), if_neg h1, if_neg h2, if_neg h3]
          simp only [Option.toList_some, List.singleton_append, Bool.false_eq_true, if_false]
          rw [← hs]
end Go.Proofs.Ytclhgnlhejohgaa.MemP
