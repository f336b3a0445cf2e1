/- Numbers that came in, as a plain list with their QoS: what an act does to it. No program. -/
set_option linter.unusedVariables false
namespace InPure
def getQ : List (Int × Int) → Int → Int
  | [], _ => 0
  | x :: l, i => if x.1 = i then x.2 else getQ l i
def del (L : List (Int × Int)) (i : Int) : List (Int × Int) := L.filter fun x => !decide (x.1 = i)
structure Inv (L : List (Int × Int)) : Prop where
  q : ∀ x ∈ L, x.2 = 1 ∨ x.2 = 2
  nodup : (L.map Prod.fst).Nodup
def take (most : Int) (L : List (Int × Int)) (id qos : Int) : Int × List (Int × Int) :=
  if ¬ (qos = 1 ∨ qos = 2) then (4, L)
  else if getQ L id = 2 ∧ qos = 2 then (2, L)
  else if getQ L id ≠ 0 then (4, L)
  else if most ≤ L.length then (3, L)
  else (1, L ++ [(id, qos)])
def act (most : Int) (L : List (Int × Int)) (kind id qos : Int) : (Int × Bool) × List (Int × Int) :=
  if kind = 1 then (((take most L id qos).1, false), (take most L id qos).2)
  else if kind = 2 then ((0, decide (getQ L id ≠ 0)), del L id)
  else if kind = 3 then if getQ L id = 2 then ((0, true), del L id) else ((0, false), L)
  else ((0, false), L)
theorem getQ_mem {L : List (Int × Int)} {i : Int} (h : getQ L i ≠ 0) : (i, getQ L i) ∈ L := by
  induction L with
  | nil => exact absurd rfl h
  | cons x l ih =>
    unfold getQ at h ⊢
    by_cases e : x.1 = i
    · rw [if_pos e, ← e]; simp
    · rw [if_neg e] at h ⊢
      exact List.mem_cons_of_mem _ (ih h)
theorem getQ_zero {L : List (Int × Int)} (I : Inv L) {i : Int} : getQ L i = 0 ↔ i ∉ L.map Prod.fst := by
  obtain ⟨hq, -⟩ := I
  induction L with
  | nil => simp [getQ]
  | cons x l ih =>
    have ih' := ih fun y hy => hq y (List.mem_cons_of_mem _ hy)
    unfold getQ
    by_cases e : x.1 = i
    · rw [if_pos e]
      have := hq x (by simp)
      simp [e]
      omega
    · rw [if_neg e, ih']
      simp
      intro h
      exact fun h' => e h'.symm
theorem getQ_q {L : List (Int × Int)} (I : Inv L) (i : Int) : getQ L i = 0 ∨ getQ L i = 1 ∨ getQ L i = 2 := by
  by_cases h : getQ L i = 0
  · exact .inl h
  · exact .inr (I.q _ (getQ_mem h))
theorem del_none {L : List (Int × Int)} (I : Inv L) {i : Int} (h : getQ L i = 0) : del L i = L := by
  unfold del
  rw [List.filter_eq_self]
  intro a ha
  have := (getQ_zero I).1 h
  simp
  intro e
  exact this (List.mem_map.2 ⟨a, ha, e⟩)
theorem del_inv {L : List (Int × Int)} (I : Inv L) (i : Int) : Inv (del L i) :=
  ⟨fun x hx => I.q x (List.mem_filter.1 hx).1, I.nodup.sublist (List.filter_sublist.map _)⟩
theorem push_inv {L : List (Int × Int)} (I : Inv L) {i q : Int} (h : getQ L i = 0) (hq : q = 1 ∨ q = 2) : Inv (L ++ [(i, q)]) := by
  refine ⟨?_, ?_⟩
  · intro x hx
    rcases List.mem_append.1 hx with h' | h'
    · exact I.q x h'
    · have : x = (i, q) := by simpa using h'
      rw [this]; exact hq
  · rw [List.map_append, List.nodup_append]
    refine ⟨I.nodup, by simp, fun a ha b hb e => ?_⟩
    have : b = i := by simpa using hb
    exact (getQ_zero I).1 h (this ▸ e ▸ ha)
theorem take_inv {most : Int} {L : List (Int × Int)} (I : Inv L) (id qos : Int) : Inv (take most L id qos).2 := by
  unfold take
  repeat' split
  all_goals first | exact I | skip
  rename_i h1 h2 h3 h4
  exact push_inv I (by omega) (by omega)
theorem act_inv {most : Int} {L : List (Int × Int)} (I : Inv L) (kind id qos : Int) : Inv (act most L kind id qos).2 := by
  unfold act
  repeat' split
  · exact take_inv I id qos
  · exact del_inv I id
  · exact del_inv I id
  · exact I
  · exact I
theorem del_len (L : List (Int × Int)) (i : Int) : (del L i).length ≤ L.length := List.length_filter_le _ _
theorem act_len (most : Int) (L : List (Int × Int)) (kind id qos : Int) : (act most L kind id qos).2.length ≤ L.length + 1 := by
  have := del_len L id
  unfold act take
  repeat' split
  all_goals simp
  all_goals omega
/-- There are never more than room. -/
theorem act_room {most : Int} {L : List (Int × Int)} (h : (L.length : Int) ≤ max most 0) (kind id qos : Int) : ((act most L kind id qos).2.length : Int) ≤ max most 0 := by
  have := del_len L id
  unfold act take
  repeat' split
  all_goals simp
  all_goals omega
theorem getQ_push {L : List (Int × Int)} {i q : Int} (h : getQ L i = 0) (j : Int) (hz : ∀ x ∈ L, x.2 ≠ 0) : getQ (L ++ [(i, q)]) j = if j = i then q else getQ L j := by
  induction L with
  | nil =>
    simp only [List.nil_append, getQ]
    by_cases e : i = j
    · rw [if_pos e, if_pos e.symm]
    · rw [if_neg e, if_neg (fun h => e h.symm)]
  | cons x l ih =>
    simp only [List.cons_append, getQ] at h ⊢
    by_cases e : x.1 = i
    · rw [if_pos e] at h
      exact absurd h (hz x (by simp))
    · rw [if_neg e] at h
      by_cases e2 : x.1 = j
      · rw [if_pos e2, if_neg (by omega), if_pos e2]
      · rw [if_neg e2, if_neg e2]
        exact ih h fun y hy => hz y (List.mem_cons_of_mem _ hy)
theorem getQ_del (L : List (Int × Int)) (i j : Int) : getQ (del L i) j = if j = i then 0 else getQ L j := by
  induction L with
  | nil => simp [getQ, del]
  | cons x l ih =>
    unfold del
    rw [List.filter_cons]
    by_cases e : x.1 = i
    · rw [if_neg (by simpa using e)]
      have ih' : getQ (l.filter fun x => !decide (x.1 = i)) j = if j = i then 0 else getQ l j := ih
      rw [ih']
      unfold getQ
      by_cases e2 : j = i
      · simp [e2]
      · rw [if_neg e2, if_neg e2, if_neg (by omega)]
        cases l <;> rfl
    · rw [if_pos (by simpa using e)]
      have ih' : getQ (l.filter fun x => !decide (x.1 = i)) j = if j = i then 0 else getQ l j := ih
      unfold getQ
      rw [ih']
      by_cases e2 : x.1 = j
      · rw [if_pos e2, if_neg (by omega), if_pos e2]
      · rw [if_neg e2, if_neg e2]
/-! where a number stands -/
def findAt : List (Int × Int) → Int → Option Nat
  | [], _ => none
  | x :: l, i => if x.1 = i then some 0 else (findAt l i).map (· + 1)
theorem findAt_none {L : List (Int × Int)} {i : Int} (h : ∀ k (hk : k < L.length), L[k].1 ≠ i) : getQ L i = 0 := by
  induction L with
  | nil => rfl
  | cons x l ih =>
    unfold getQ
    have h0 : ¬ x.1 = i := h 0 (by simp)
    rw [if_neg h0]
    exact ih fun k hk => h (k + 1) (by simpa using hk)
theorem findAt_some {L : List (Int × Int)} {i : Int} {k : Nat} (hk : k < L.length) (h : L[k].1 = i) (hn : ∀ j (hj : j < k), L[j].1 ≠ i) : getQ L i = L[k].2 := by
  induction L generalizing k with
  | nil => simp at hk
  | cons x l ih =>
    unfold getQ
    cases k with
    | zero =>
      have h0 : x.1 = i := h
      rw [if_pos h0]; rfl
    | succ k =>
      have h0 : ¬ x.1 = i := hn 0 (by omega)
      rw [if_neg h0]
      exact ih (k := k) (by simpa using hk) h (fun j hj => hn (j + 1) (by omega))
theorem findAt_del {L : List (Int × Int)} (hd : (L.map Prod.fst).Nodup) {i : Int} {k : Nat} (hk : k < L.length) (h : L[k].1 = i) : del L i = L.take k ++ L.drop (k + 1) := by
  induction L generalizing k with
  | nil => simp at hk
  | cons x l ih =>
    simp only [List.map_cons, List.nodup_cons] at hd
    unfold del
    rw [List.filter_cons]
    cases k with
    | zero =>
      have h' : x.1 = i := h
      rw [if_neg (by simpa using h')]
      simp only [List.take_zero, List.nil_append, List.drop_succ_cons, List.drop_zero]
      rw [List.filter_eq_self]
      intro a ha
      simp
      intro e
      exact hd.1 (List.mem_map.2 ⟨a, ha, e.trans h'.symm⟩)
    | succ k =>
      have hk' : k < l.length := by simpa using hk
      have h' : l[k].1 = i := h
      have hne : x.1 ≠ i := fun e => hd.1 (List.mem_map.2 ⟨l[k], List.getElem_mem hk', h'.trans e.symm⟩)
      rw [if_pos (by simpa using hne)]
      simp only [List.take_succ_cons, List.drop_succ_cons, List.cons_append]
      congr 1
      exact ih hd.2 hk' h'
end InPure
