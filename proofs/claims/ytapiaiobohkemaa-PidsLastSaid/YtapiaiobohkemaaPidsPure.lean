/- The numbers of packets as a plain state: what an pact does to it; the next free one is there. No program. -/
set_option linter.unusedVariables false
namespace PidsPure
def cand (most last : Int) (k : Nat) : Int := (last + k) % most + 1
/-- What holds of the numbers. -/
structure Inv (most last : Int) (L : List Int) : Prop where
  m0 : 0 ≤ most
  m1 : most ≤ 65535
  l0 : 0 ≤ last
  l1 : last ≤ most
  in_ : ∀ i ∈ L, 1 ≤ i ∧ i ≤ most
  nodup : L.Nodup
/-- The next number that is free, behind c. -/
def seek (most : Int) (L : List Int) : Nat → Int → Option Int
  | 0, _ => none
  | n + 1, c => if c % most + 1 ∈ L then seek most L n (c % most + 1) else some (c % most + 1)

theorem nodup_le {α : Type} [DecidableEq α] : ∀ (l m : List α), l.Nodup → (∀ x ∈ l, x ∈ m) → l.length ≤ m.length
  | [], _, _, _ => Nat.zero_le _
  | x :: l, m, hd, hm => by
    rw [List.nodup_cons] at hd
    have h1 := nodup_le l (m.erase x) hd.2 (fun y hy => by
      have : y ≠ x := fun e => hd.1 (e ▸ hy)
      exact (List.mem_erase_of_ne this).2 (hm y (by simp [hy])))
    have h2 := List.length_erase_of_mem (hm x (by simp))
    have h3 : 0 < m.length := List.length_pos_of_mem (hm x (by simp))
    simp
    omega

theorem cand_range {most last : Int} (h : 0 < most) (k : Nat) : 1 ≤ cand most last k ∧ cand most last k ≤ most := by
  unfold cand
  have := Int.emod_nonneg (last + k) (show most ≠ 0 by omega)
  have := Int.emod_lt_of_pos (last + k) h
  omega
theorem cand_inj {most last : Int} (h : 0 < most) {j k : Nat} (hj : (j : Int) < most) (hk : (k : Int) < most) (e : cand most last j = cand most last k) : j = k := by
  unfold cand at e
  have e' : (last + j) % most = (last + k) % most := by omega
  have hd : most ∣ ((last + j) - (last + k)) := by
    apply Int.dvd_of_emod_eq_zero
    rw [Int.sub_emod, e', Int.sub_self, Int.zero_emod]
  obtain ⟨q, hq⟩ := hd
  have hq0 : q = 0 := by
    rcases Int.lt_trichotomy q 0 with hlt | h0 | hgt
    · have : most * q ≤ most * (-1) := Int.mul_le_mul_of_nonneg_left (by omega) (by omega)
      omega
    · exact h0
    · have : most * 1 ≤ most * q := Int.mul_le_mul_of_nonneg_left (by omega) (by omega)
      omega
  subst hq0
  omega
/-- Where not all are used, one of the next is free. -/
theorem some_free {most last : Int} {L : List Int} (I : Inv most last L) (hf : (L.length : Int) < most) : ∃ k : Nat, (k : Int) < most ∧ cand most last k ∉ L ∧ ∀ j, j < k → cand most last j ∈ L := by
  have hm : 0 < most := by omega
  have hex : ∃ k : Nat, (k : Int) < most ∧ cand most last k ∉ L := by
    apply Classical.byContradiction
    intro hno
    have hall : ∀ k : Nat, (k : Int) < most → cand most last k ∈ L := fun k hk => by
      apply Classical.byContradiction
      intro hn
      exact hno ⟨k, hk, hn⟩
    have h1 := nodup_le ((List.range most.toNat).map (cand most last)) L (by
      rw [List.Nodup, List.pairwise_map]
      refine List.Pairwise.imp_of_mem (R := fun a b => a ≠ b) (fun {a b} ha hb hab e => hab (cand_inj hm (by have := List.mem_range.1 ha; omega) (by have := List.mem_range.1 hb; omega) e)) List.nodup_range) (fun x hx => by
        obtain ⟨k, hk, rfl⟩ := List.mem_map.1 hx
        exact hall k (by have := List.mem_range.1 hk; omega))
    simp at h1
    omega
  have hmin : ∀ n : Nat, (∃ k, k < n ∧ (k : Int) < most ∧ cand most last k ∉ L) → ∃ k : Nat, (k : Int) < most ∧ cand most last k ∉ L ∧ ∀ j, j < k → cand most last j ∈ L := by
    intro n
    induction n with
    | zero => rintro ⟨k, hk, _⟩; omega
    | succ n ih =>
      rintro ⟨k, hk, h1, h2⟩
      by_cases h : ∃ j, j < n ∧ (j : Int) < most ∧ cand most last j ∉ L
      · exact ih h
      · refine ⟨k, h1, h2, fun j hj => ?_⟩
        apply Classical.byContradiction
        intro hn
        exact h ⟨j, by omega, by omega, hn⟩
  obtain ⟨k, hk, hn⟩ := hex
  exact hmin (k + 1) ⟨k, by omega, hk, hn⟩

def free (most last : Int) (L : List Int) : Nat := ((List.range most.toNat).find? (fun k => decide (cand most last k ∉ L))).getD 0
theorem free_spec {most last : Int} {L : List Int} (I : Inv most last L) (hf : (L.length : Int) < most) : ((free most last L : Nat) : Int) < most ∧ cand most last (free most last L) ∉ L ∧ ∀ j, j < free most last L → cand most last j ∈ L := by
  obtain ⟨k, hk, hn, hin⟩ := some_free I hf
  have h : (List.range most.toNat).find? (fun k => decide (cand most last k ∉ L)) = some k := by
    rw [List.find?_range_eq_some]
    refine ⟨by simpa using hn, by simp; omega, fun j hj => ?_⟩
    simpa using hin j hj
  unfold free
  rw [h]
  exact ⟨hk, hn, hin⟩

theorem cand_next (most last : Int) (j : Nat) : cand most last j % most + 1 = cand most last (j + 1) := by
  unfold cand
  rw [Int.emod_add_emod]
  congr 2
  omega
theorem cand_zero (most last : Int) : last % most + 1 = cand most last 0 := by
  unfold cand
  simp
theorem seek_from {most last : Int} {L : List Int} {k : Nat} (hout : cand most last k ∉ L) (hin : ∀ j, j < k → cand most last j ∈ L) : ∀ d j, j + d = k → seek most L d (cand most last j) = if d = 0 then none else some (cand most last k) := by
  intro d
  induction d with
  | zero => intro j _; rfl
  | succ d ih =>
    intro j hj
    unfold seek
    rw [cand_next]
    by_cases hd : d = 0
    · subst hd
      have : j + 1 = k := by omega
      subst this
      rw [if_neg hout]
      simp
    · rw [if_pos (hin _ (by omega)), ih (j + 1) (by omega), if_neg hd]
      simp
theorem seek_free {most last : Int} {L : List Int} {k : Nat} (hout : cand most last k ∉ L) (hin : ∀ j, j < k → cand most last j ∈ L) : seek most L (k + 1) last = some (cand most last k) := by
  unfold seek
  rw [cand_zero]
  by_cases hk : k = 0
  · subst hk
    rw [if_neg hout]
  · rw [if_pos (hin 0 (by omega)), seek_from hout hin k 0 (by omega), if_neg hk]

/-- What an pact does: its answers, which number came last then, and which are used. -/
def pact (most last : Int) (L : List Int) (kind id : Int) : (Int × Bool) × Int × List Int :=
  if kind = 1 then
    if most ≤ L.length then ((0, false), last, L) else ((cand most last (free most last L), true), cand most last (free most last L), L ++ [cand most last (free most last L)])
  else if kind = 2 then
    if 1 ≤ id ∧ id ≤ most ∧ id ∉ L then ((0, true), last, L ++ [id]) else ((0, false), last, L)
  else if kind = 3 then
    if id ∈ L then ((0, true), last, L.filter fun j => !decide (j = id)) else ((0, false), last, L)
  else ((0, false), last, L)

theorem filter_none {L : List Int} {i : Int} (h : i ∉ L) : (L.filter fun j => !decide (j = i)) = L := by
  rw [List.filter_eq_self]
  intro a ha
  simp
  intro e
  exact h (e ▸ ha)
theorem filter_lt {L : List Int} {i : Int} : decide ((L.filter fun j => !decide (j = i)).length < L.length) = decide (i ∈ L) := by
  by_cases h : i ∈ L
  · rw [decide_eq_true h, decide_eq_true_eq]
    exact List.length_filter_lt_length_iff_exists.2 ⟨i, h, by simp⟩
  · rw [decide_eq_false h, filter_none h]
    simp

theorem act_inv {most last : Int} {L : List Int} (I : Inv most last L) (kind id : Int) : Inv most (pact most last L kind id).2.1 (pact most last L kind id).2.2 := by
  unfold pact
  split
  · split
    · exact I
    · rename_i hf
      have hf' : (L.length : Int) < most := by omega
      obtain ⟨h1, h2, _⟩ := free_spec I hf'
      have hr := cand_range (last := last) (show 0 < most by omega) (free most last L)
      refine ⟨I.m0, I.m1, Int.le_trans (by decide) hr.1, hr.2, ?_, ?_⟩
      · intro i hi
        rcases List.mem_append.1 hi with h | h
        · exact I.in_ i h
        · have : i = cand most last (free most last L) := by simpa using h
          rw [this]; exact hr
      · rw [List.nodup_append]
        exact ⟨I.nodup, by simp, fun a ha b hb e => by
          have : b = cand most last (free most last L) := by simpa using hb
          exact h2 (this ▸ e ▸ ha)⟩
  · split
    · split
      · rename_i h
        refine ⟨I.m0, I.m1, I.l0, I.l1, ?_, ?_⟩
        · intro i hi
          rcases List.mem_append.1 hi with h' | h'
          · exact I.in_ i h'
          · have : i = id := by simpa using h'
            rw [this]; exact ⟨h.1, h.2.1⟩
        · rw [List.nodup_append]
          exact ⟨I.nodup, by simp, fun a ha b hb e => by
            have : b = id := by simpa using hb
            exact h.2.2 (this ▸ e ▸ ha)⟩
      · exact I
    · split
      · split
        · exact ⟨I.m0, I.m1, I.l0, I.l1, fun i hi => I.in_ i (List.mem_filter.1 hi).1, I.nodup.sublist List.filter_sublist⟩
        · exact I
      · exact I
theorem act_len (most last : Int) (L : List Int) (kind id : Int) : (pact most last L kind id).2.2.length ≤ L.length + 1 := by
  have := List.length_filter_le (fun j => !decide (j = id)) L
  unfold pact
  repeat' split
  all_goals simp
  all_goals omega
end PidsPure
namespace PidsPure
theorem len_le {most last : Int} {L : List Int} (I : Inv most last L) : (L.length : Int) ≤ most := by
  have h := nodup_le (L.map Int.toNat) ((List.range most.toNat).map (· + 1)) (by
    rw [List.Nodup, List.pairwise_map]
    refine List.Pairwise.imp_of_mem (R := fun a b => a ≠ b) (fun {a b} ha hb hab e => hab ?_) I.nodup
    have h1 := I.in_ a ha
    have h2 := I.in_ b hb
    omega) (fun x hx => by
    obtain ⟨i, hi, rfl⟩ := List.mem_map.1 hx
    have h1 := I.in_ i hi
    exact List.mem_map.2 ⟨i.toNat - 1, List.mem_range.2 (by omega), by omega⟩)
  simp at h
  have := I.m0
  omega
/-- The number that was just freed comes again just if no other one is free. -/
theorem again {most id : Int} {L : List Int} (I : Inv most id L) (h1 : 1 ≤ id) (hn : id ∉ L) (hf : (L.length : Int) < most) : cand most id (free most id L) = id ↔ (L.length : Int) + 1 = most := by
  have hm : 0 < most := by omega
  have hid := I.l1
  obtain ⟨f1, f2, f3⟩ := free_spec I hf
  have hlast : cand most id (most.toNat - 1) = id := by
    unfold cand
    have e : id + ((most.toNat - 1 : Nat) : Int) = (id - 1) + most := by omega
    rw [e, Int.add_emod_right, Int.emod_eq_of_lt (by omega) (by omega)]
    omega
  constructor
  · intro e
    have hk : free most id L = most.toNat - 1 := cand_inj hm f1 (by omega) (e.trans hlast.symm)
    have h := nodup_le ((List.range (most.toNat - 1)).map (cand most id)) L (by
      rw [List.Nodup, List.pairwise_map]
      exact List.Pairwise.imp_of_mem (R := fun a b => a ≠ b) (fun {a b} ha hb hab e => hab (cand_inj hm (by have := List.mem_range.1 ha; omega) (by have := List.mem_range.1 hb; omega) e)) List.nodup_range) (fun x hx => by
      obtain ⟨k, hk', rfl⟩ := List.mem_map.1 hx
      exact f3 k (by have := List.mem_range.1 hk'; omega))
    simp at h
    omega
  · intro e
    apply Classical.byContradiction
    intro hne
    have hr := cand_range (last := id) hm (free most id L)
    have I2 : Inv most id (id :: cand most id (free most id L) :: L) := ⟨I.m0, I.m1, I.l0, I.l1, by
      intro i hi
      rcases List.mem_cons.1 hi with rfl | hi
      · exact ⟨h1, hid⟩
      · rcases List.mem_cons.1 hi with rfl | hi
        · exact hr
        · exact I.in_ i hi, by
      rw [List.nodup_cons, List.nodup_cons]
      refine ⟨?_, f2, I.nodup⟩
      intro hi
      rcases List.mem_cons.1 hi with h | h
      · exact hne h.symm
      · exact hn h⟩
    have := len_le I2
    simp at this
    omega
theorem filter_back {L : List Int} {i : Int} (h : i ∉ L) : ((L ++ [i]).filter fun j => !decide (j = i)) = L := by
  rw [List.filter_append, filter_none h]
  simp
end PidsPure
